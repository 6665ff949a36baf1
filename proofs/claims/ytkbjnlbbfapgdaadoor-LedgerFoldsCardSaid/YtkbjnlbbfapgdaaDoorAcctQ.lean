/- slices.Equal of leases and statements (written by wip/genacct2.py). -/
import Derived.Test.YtkbjnlbbfapgdaaDoorAcctE
set_option maxRecDepth 100000
set_option linter.unusedVariables false
set_option linter.unusedSimpArgs false
namespace Go.Proofs.YtkbjnlbbfapgdaaDoor
open Go.RowKit

theorem take_succ_eq {α : Type} {xs ys : List α} {k : Nat} (hx : k < xs.length) (hy : k < ys.length) (h : xs.take k = ys.take k) (he : xs[k] = ys[k]) : xs.take (k + 1) = ys.take (k + 1) := by
  rw [List.take_succ_eq_append_getElem hx, List.take_succ_eq_append_getElem hy, h, he]
theorem RdE.two {w : World} {A : Option Addr} {xs : List Lz} (h : RdE Lz.cs w A xs) {i : Nat} (hi : i < xs.length) : ∃ ad, A = some ad ∧ w.cell? (ad.add (i * 2)) = some (.int .u64 xs[i].id) ∧ w.cell? ⟨(ad.add (i * 2)).block, (ad.add (i * 2)).off + 1, none⟩ = some (.int .u64 xs[i].sz) := by
  obtain ⟨ad, ha, hc⟩ := RdE.at_ Lz.cs_len h hi (by decide)
  refine ⟨ad, ha, hc 0 _ rfl, ?_⟩
  rw [← add_off _ 1 (by decide)]
  exact hc 1 _ rfl
theorem RdE.six {w : World} {A : Option Addr} {xs : List St} (h : RdE St.cs w A xs) {i : Nat} (hi : i < xs.length) : ∃ ad, A = some ad ∧ w.cell? (ad.add (i * 6)) = some (.string xs[i].ten) ∧ w.cell? ⟨(ad.add (i * 6)).block, (ad.add (i * 6)).off + 1, none⟩ = some (.int .u64 xs[i].per) ∧ w.cell? ⟨(ad.add (i * 6)).block, (ad.add (i * 6)).off + 2, none⟩ = some (.int .u64 xs[i].used) ∧
    w.cell? ⟨(ad.add (i * 6)).block, (ad.add (i * 6)).off + 3, none⟩ = some (.int .u64 xs[i].cap) ∧ w.cell? ⟨(ad.add (i * 6)).block, (ad.add (i * 6)).off + 4, none⟩ = some (.int .u64 xs[i].bits) ∧ w.cell? ⟨(ad.add (i * 6)).block, (ad.add (i * 6)).off + 5, none⟩ = some (.int .u64 xs[i].due) := by
  obtain ⟨ad, ha, hc⟩ := RdE.at_ St.cs_len h hi (by decide)
  refine ⟨ad, ha, hc 0 _ rfl, ?_, ?_, ?_, ?_, ?_⟩
  · rw [← add_off _ 1 (by decide)]; exact hc 1 _ rfl
  · rw [← add_off _ 2 (by decide)]; exact hc 2 _ rfl
  · rw [← add_off _ 3 (by decide)]; exact hc 3 _ rfl
  · rw [← add_off _ 4 (by decide)]; exact hc 4 _ rfl
  · rw [← add_off _ 5 (by decide)]; exact hc 5 _ rfl

set_option maxHeartbeats 1000000 in
theorem equalLz (A B : Option Addr) (c d : Nat) (xs ys : List Lz) (w : World) (ha : RdE Lz.cs w A xs) (hb : RdE Lz.cs w B ys) (hl : xs.length ≤ 100000) (hm : ys.length ≤ 100000) :
    Calls Tryd.prog 65 #[.slice A xs.length c, .slice B ys.length d] w (RetV w (.bool (decide (xs = ys)))) := by
  have HA := Lib.hid ha
  have HB := Lib.hid hb
  clear ha hb
  by_cases hlen : xs.length = ys.length
  · have e1 : ((xs.length : Int) != (ys.length : Int)) = false := by simp [hlen]
    have HLn := Lib.hid hlen
    clear hlen
    go_enter Tryd.func65, Tryd.ntmps65
    go_wp2_with fail
    go_loopw [13] (fun i wr => ∃ k : Nat, k ≤ xs.length ∧ i = .int .i64 k ∧ Ext w wr ∧ xs.take k = ys.take k) (fun i _ => xs.length - (intOf i).toNat)
    case atStart => exact ⟨0, by omega, rfl, Ext.refl _, rfl⟩
    case round =>
      obtain ⟨k, hk, rfl, hE, ht⟩ := hrel
      have Ht := Lib.hid ht
      have E0 := Lib.hid hE
      clear ht hE
      by_cases hlt : k < xs.length
      · have hlt2 : k < ys.length := by have := HLn.out; omega
        obtain ⟨ad, rfl, a0, a1⟩ := (HA.out.ext E0.out).two hlt
        obtain ⟨bd, rfl, b0, b1⟩ := (HB.out.ext E0.out).two hlt2
        have HE1 : Hid (xs[k] = ys[k] → xs.take (k + 1) = ys.take (k + 1)) := fun h => take_succ_eq hlt hlt2 Ht.out h
        have HE2 : Hid (xs = ys → xs[k] = ys[k]) := fun h => by subst h; rfl
        generalize xs[k] = x at *
        generalize ys[k] = y at *
        have k1 : (k : Int) < (xs.length : Int) := by omega
        have k2 : (k : Int) < (ys.length : Int) := by omega
        have hne := neLz x y
        by_cases hxy : x = y
        · rw [decide_eq_true hxy] at hne
          have HE3 := Lib.hid (HE1.out hxy)
          clear hxy
          go_wp2_with fail
          go_quiet (fail)
          have E1 := Lib.hid (E0.out.drewN nq)
          go_wp2_with fail
          go_roundw
          case rel => exact ⟨k + 1, by omega, by go_num, E1.out, HE3.out⟩
          case measure => simp [intOf]; omega
        · rw [decide_eq_false hxy] at hne
          have HF : Hid (decide (xs = ys) = false) := decide_eq_false (fun h => hxy (HE2.out h))
          clear hxy
          go_wp2_with fail
          go_quiet (fail)
          have E1 := Lib.hid (E0.out.drewN nq)
          go_wp2_with fail
          go_ret
          rw [HF.out]
          exact ⟨rfl, E1.out⟩
      · go_wp2_with fail
        go_ret
        have hF : decide (xs = ys) = true := decide_eq_true (by
          have h := Ht.out
          rwa [List.take_of_length_le (by omega), List.take_of_length_le (by have := HLn.out; omega)] at h)
        rw [hF]
        exact ⟨rfl, E0.out⟩
  · have e1 : ((xs.length : Int) != (ys.length : Int)) = true := by simp; omega
    have HF : Hid (decide (xs = ys) = false) := decide_eq_false (fun h => hlen (by rw [h]))
    rw [HF.out]
    clear hlen
    go_enter Tryd.func65, Tryd.ntmps65
    go_wp2_with fail
    go_ret
    exact ⟨rfl, Ext.refl _⟩

set_option maxHeartbeats 1000000 in
theorem equalSt (A B : Option Addr) (c d : Nat) (xs ys : List St) (w : World) (ha : RdE St.cs w A xs) (hb : RdE St.cs w B ys) (hl : xs.length ≤ 100000) (hm : ys.length ≤ 100000) :
    Calls Tryd.prog 66 #[.slice A xs.length c, .slice B ys.length d] w (RetV w (.bool (decide (xs = ys)))) := by
  have HA := Lib.hid ha
  have HB := Lib.hid hb
  clear ha hb
  by_cases hlen : xs.length = ys.length
  · have e1 : ((xs.length : Int) != (ys.length : Int)) = false := by simp [hlen]
    have HLn := Lib.hid hlen
    clear hlen
    go_enter Tryd.func66, Tryd.ntmps66
    go_wp2_with fail
    go_loopw [13] (fun i wr => ∃ k : Nat, k ≤ xs.length ∧ i = .int .i64 k ∧ Ext w wr ∧ xs.take k = ys.take k) (fun i _ => xs.length - (intOf i).toNat)
    case atStart => exact ⟨0, by omega, rfl, Ext.refl _, rfl⟩
    case round =>
      obtain ⟨k, hk, rfl, hE, ht⟩ := hrel
      have Ht := Lib.hid ht
      have E0 := Lib.hid hE
      clear ht hE
      by_cases hlt : k < xs.length
      · have hlt2 : k < ys.length := by have := HLn.out; omega
        obtain ⟨ad, rfl, a0, a1, a2, a3, a4, a5⟩ := (HA.out.ext E0.out).six hlt
        obtain ⟨bd, rfl, b0, b1, b2, b3, b4, b5⟩ := (HB.out.ext E0.out).six hlt2
        have HE1 : Hid (xs[k] = ys[k] → xs.take (k + 1) = ys.take (k + 1)) := fun h => take_succ_eq hlt hlt2 Ht.out h
        have HE2 : Hid (xs = ys → xs[k] = ys[k]) := fun h => by subst h; rfl
        generalize xs[k] = x at *
        generalize ys[k] = y at *
        have k1 : (k : Int) < (xs.length : Int) := by omega
        have k2 : (k : Int) < (ys.length : Int) := by omega
        have hne := neSt x y
        by_cases hxy : x = y
        · rw [decide_eq_true hxy] at hne
          have HE3 := Lib.hid (HE1.out hxy)
          clear hxy
          go_wp2_with fail
          go_quiet (fail)
          have E1 := Lib.hid (E0.out.drewN nq)
          go_wp2_with fail
          go_roundw
          case rel => exact ⟨k + 1, by omega, by go_num, E1.out, HE3.out⟩
          case measure => simp [intOf]; omega
        · rw [decide_eq_false hxy] at hne
          have HF : Hid (decide (xs = ys) = false) := decide_eq_false (fun h => hxy (HE2.out h))
          clear hxy
          go_wp2_with fail
          go_quiet (fail)
          have E1 := Lib.hid (E0.out.drewN nq)
          go_wp2_with fail
          go_ret
          rw [HF.out]
          exact ⟨rfl, E1.out⟩
      · go_wp2_with fail
        go_ret
        have hF : decide (xs = ys) = true := decide_eq_true (by
          have h := Ht.out
          rwa [List.take_of_length_le (by omega), List.take_of_length_le (by have := HLn.out; omega)] at h)
        rw [hF]
        exact ⟨rfl, E0.out⟩
  · have e1 : ((xs.length : Int) != (ys.length : Int)) = true := by simp; omega
    have HF : Hid (decide (xs = ys) = false) := decide_eq_false (fun h => hlen (by rw [h]))
    rw [HF.out]
    clear hlen
    go_enter Tryd.func66, Tryd.ntmps66
    go_wp2_with fail
    go_ret
    exact ⟨rfl, Ext.refl _⟩
end Go.Proofs.YtkbjnlbbfapgdaaDoor
