/- Contracts of ref12's Next, Lists, Valid. -/
import Derived.Test.YtjbejaieihchmaaPlainBox
import Derived.Test.YtjbejaieihchmaaMemV
import Derived.Test.YtjbejaieihchmaaArr
import Derived.Deep.RegionHeld3
set_option maxRecDepth 100000
namespace Go.Proofs.Ytjbejaieihchmaa
open Go.RowKit

/-- bytes that can be read, and two values -/
def RetS3 (w : World) (A0 : Option Addr) (bs : List UInt8) (x y : Value) (e : Ending) (w' : World) : Prop :=
  ∃ A c, e = .returned (.tuple #[.slice A bs.length c, x, y]) ∧ RdB w' A bs ∧ bs.length ≤ c ∧ c ≤ 9223372036854775807 ∧ (∀ k, blk A = some k → blk A0 = some k) ∧ Ext w w'

theorem two_at {bs : List UInt8} {k : Nat} (h : k + 1 < bs.length) : leN ((bs.drop k).take 2) = (bs[k]'(by omega)).toNat + 256 * (bs[k + 1]'h).toNat := by
  rw [List.drop_eq_getElem_cons (show k < bs.length by omega), List.take_succ_cons, List.drop_eq_getElem_cons h, List.take_succ_cons]
  simp [leN]

set_option maxHeartbeats 2000000 in
theorem rnext_k (A : Option Addr) (c : Nat) (bs : List UInt8) (k : Nat) (w : World) (hb : RdB w A bs) (hl : bs.length ≤ 100000) (hcap : bs.length ≤ c) (hcm : c ≤ 9223372036854775807) (hk : k ≤ bs.length) :
    Calls Try.prog 41 #[.slice A bs.length c, .int .i64 k] w (RetS3 w A (nextK bs k).1 (.int .i64 (nextK bs k).2.1) (.int .i64 (nextK bs k).2.2)) := by
  have Hb := Lib.hid hb
  have hg : decide ((bs.length : Int) < k) = false := by simp; omega
  by_cases h2 : bs.length - k < 2
  · have HN : Hid (nextK bs k = ([], 0, 1)) := by show _ = _; rw [nextK]; simp only [List.length_drop]; rw [if_pos h2]
    rw [HN.out]
    have h2' : ((bs.length : Int) - k) < 2 := by omega
    clear hb
    go_enter Try.func41, Try.ntmps41
    go_wp2_with fail
    go_ret3
    exact ⟨none, 0, rfl, RdB.nil, Nat.le_refl _, by omega, fun k h => by simp [blk] at h, Ext.refl _⟩
  obtain ⟨ad, rfl, hc0⟩ := hb.at_ (k := k) (by omega)
  obtain ⟨ad', hA, hc1⟩ := hb.at_ (k := k + 1) (by omega)
  cases hA
  have hn : leN ((bs.drop k).take 2) = (bs[k]'(by omega)).toNat + 256 * (bs[k + 1]'(by omega)).toNat := two_at (by omega)
  have HK : Hid (nextK bs k = if leN ((bs.drop k).take 2) = 0 then ([], 0, 2) else
      if 4096 < leN ((bs.drop k).take 2) then ([], 0, 3) else
      if bs.length - k < leN ((bs.drop k).take 2) + 6 then ([], 0, 1) else
      if isSeal ((bs.drop k).take (leN ((bs.drop k).take 2) + 6)) then (((bs.drop k).drop 2).take (leN ((bs.drop k).take 2)), ((k + leN ((bs.drop k).take 2) + 6 : Nat) : Int), 0) else ([], 0, 4)) := by
    show _ = _
    rw [nextK]; simp only [List.length_drop]; rw [if_neg h2]
  have HBS : Hid (leN ((bs.drop k).take 2) + 6 ≤ bs.length - k → (boxB (((bs.drop k).drop 2).take (leN ((bs.drop k).take 2))) = (bs.drop k).take (leN ((bs.drop k).take 2) + 6) ↔ isSeal ((bs.drop k).take (leN ((bs.drop k).take 2) + 6)))) := by
    intro h
    exact box_seal (bs.drop k) (by simp; omega) (by simp; omega)
  have hx8 := (bs[k]'(by omega)).toNat_lt
  have hy8 := (bs[k + 1]'(by omega)).toNat_lt
  generalize (bs[k]'(by omega)).toNat = x at *
  generalize (bs[k + 1]'(by omega)).toNat = y at *
  generalize leN ((bs.drop k).take 2) = n at *
  generalize nextK bs k = X at *
  have HNn := Lib.hid hn
  have h2' : ¬ ((bs.length : Int) - k) < 2 := by omega
  have k0 : (k : Int).toNat = k := by omega
  have k1 : IntKind.i64.wrap ((k : Int) + 1) = (k : Int) + 1 := IntWalk.i64_in _ (by omega)
  have k2 : ((k : Int) + 1).toNat = k + 1 := by omega
  have k3 : (k : Int) < bs.length := by omega
  have k4 : (k : Int) + 1 < bs.length := by omega
  have k5 : k < bs.length := by omega
  have k6 : k + 1 < bs.length := by omega
  have k7 : (0 : Int) ≤ (k : Int) + 1 := by omega
  have k8 : IntKind.i64.wrap (256 * (y : Int)) = 256 * (y : Int) := IntWalk.i64_in _ (by omega)
  have k9 : IntKind.i64.wrap ((x : Int) + 256 * (y : Int)) = (n : Int) := by rw [IntWalk.i64_in _ (by omega)]; omega
  have kx : IntKind.i64.wrap (x : Int) = (x : Int) := IntWalk.i64_in _ (by omega)
  have ky : IntKind.i64.wrap (y : Int) = (y : Int) := IntWalk.i64_in _ (by omega)
  have hc1' : w.cell? ⟨ad.block, ad.off + (k + 1), none⟩ = some (.int .u8 (y : Int)) := by
    rw [← hc1]; unfold Addr.add; rw [if_neg (by omega)]
  have hn16 : n < 65536 := by omega
  clear hb hn h2
  go_enter Try.func41, Try.ntmps41
  go_wp2_with fail
  go_quiet (fail)
  clear k7 k8 k9 k1 k2 kx ky hc1' hc1 hc0
  have E0 := Lib.hid ((Ext.refl w).drewN nq)
  by_cases hn0 : n = 0
  · have HX : Hid (X = ([], 0, 2)) := by show _ = _; rw [HK.out, if_pos hn0]
    subst hn0
    go_wp2_with fail
    go_ret3
    rw [HX.out]
    exact ⟨none, 0, rfl, RdB.nil, Nat.le_refl _, by omega, fun k h => by simp [blk] at h, E0.out⟩
  have h0' : ((n : Int) == 0) = false := beq_eq_false_iff_ne.2 (by omega)
  by_cases h3 : 4096 < n
  · have HX : Hid (X = ([], 0, 3)) := by show _ = _; rw [HK.out, if_neg hn0, if_pos h3]
    go_wp2_with fail
    go_ret3
    rw [HX.out]
    exact ⟨none, 0, rfl, RdB.nil, Nat.le_refl _, by omega, fun k h => by simp [blk] at h, E0.out⟩
  by_cases h4 : bs.length - k < n + 6
  · have HX : Hid (X = ([], 0, 1)) := by show _ = _; rw [HK.out, if_neg hn0, if_neg h3, if_pos h4]
    have m1 : decide ((bs.length : Int) - k - 2 < (n : Int) + 4) = true := by simp; omega
    go_wp2_with fail
    go_ret3
    rw [HX.out]
    exact ⟨none, 0, rfl, RdB.nil, Nat.le_refl _, by omega, fun k h => by simp [blk] at h, E0.out⟩
  have m1 : decide ((bs.length : Int) - k - 2 < (n : Int) + 4) = false := by simp; omega
  have m2 : k + 2 + n - (k + 2) = n := by omega
  have m3 : k + 6 + n - k = n + 6 := by omega
  have q1 : IntKind.i64.wrap ((k : Int) + 6) = (k : Int) + 6 := IntWalk.i64_in _ (by omega)
  have q2 : IntKind.i64.wrap ((k : Int) + 6 + n) = (k : Int) + 6 + n := IntWalk.i64_in _ (by omega)
  have q3 : ((k : Int) + 6 + n).toNat = k + 6 + n := by omega
  have q4 : (0 : Int) ≤ (k : Int) + 6 + n := by omega
  have q5 : (k : Int) ≤ (k : Int) + 6 + n := by omega
  have q6 : (k : Int) + 6 + n ≤ (c : Int) := by omega
  have q7 : k ≤ k + 6 + n := by omega
  have q8 : k + 6 + n ≤ c := by omega
  have q9 : ¬ c = k := by omega
  have hDl : (((bs.drop k).drop 2).take n).length = n := by simp; omega
  have hTl : ((bs.drop k).take (n + 6)).length = n + 6 := by simp; omega
  have HD : Hid (∀ W, Ext w W → RdB W (some (ad.add (k + 2))) (((bs.drop k).drop 2).take n)) := by
    intro W e
    have h := ((Hb.out.ext e).cut (k + 2) c hcap).take n
    rw [if_neg (by omega)] at h
    rw [List.drop_drop]
    exact h
  have HT : Hid (∀ W, Ext w W → RdB W (some (ad.add k)) ((bs.drop k).take (n + 6))) := by
    intro W e
    have h := ((Hb.out.ext e).cut k c hcap).take (n + 6)
    rw [if_neg q9] at h
    exact h
  generalize ((bs.drop k).drop 2).take n = D at *
  generalize (bs.drop k).take (n + 6) = T at *
  have HBX : Hid (∀ W, Ext w W → Calls Try.prog 28 #[.slice (some (ad.add (k + 2))) n (c - (k + 2))] W (RetB W (boxB D))) := by
    intro W e
    have h := rbox_calls (some (ad.add (k + 2))) (c - (k + 2)) D W (HD.out W e) (by omega)
    rw [hDl] at h
    exact h
  have HSM : Hid (∀ B d W, Ext w W → RdB W B (boxB D) → Calls Try.prog 17 #[.slice B (boxB D).length d, .slice (some (ad.add k)) (n + 6) (c - k)] W (RetV W (.bool (decide (boxB D = T))))) := by
    intro B d W e hB
    have h := sameE B (some (ad.add k)) d (c - k) (boxB D) T W hB (HT.out W e) (by rw [boxB_length]; omega) (by omega)
    rw [hTl] at h
    exact h
  have HDl := Lib.hid hDl
  clear hDl hTl
  go_wp2_with fail
  go_region_held3 (fun w' => Ext w w') (first | exact ((Ext.refl _).drewN _).drew | assumption)
    (first | (go_at_call 28; refine (HBX.out _ (by first | assumption | exact ((Ext.refl _).drewN _).drew)).mono ?_; rintro e w5 ⟨A5, c5, rfl, o5, e5⟩; have O5 := Lib.hid o5.rd; have S5 : Ext w w5 := Ext.trans (by first | assumption | exact ((Ext.refl _).drewN _).drew) e5; clear e5 o5) | (go_at_call 17; refine (HSM.out _ _ _ (by first | assumption) O5.out).mono ?_; rintro e w6 ⟨rfl, e6⟩; have S6 : Ext w w6 := Ext.trans (by first | assumption | exact ((Ext.refl _).drewN _).drew) e6; clear e6))
  by_cases hs : boxB D = T
  · have HX : Hid (X = (D, ((k + n + 6 : Nat) : Int), 0)) := by show _ = _; rw [HK.out, if_neg hn0, if_neg h3, if_neg h4, if_pos ((HBS.out (by omega)).1 hs)]
    rw [decide_eq_true hs]
    have E6 := Lib.hid S6
    clear hs
    go_wp2_with fail
    go_ret3
    rw [HX.out]
    refine ⟨some (ad.add (k + 2)), c - (k + 2), ?_, HD.out _ E6.out, by rw [HDl.out]; omega, by omega, fun j hj => ?_, E6.out⟩
    · rw [HDl.out, show ((k + n + 6 : Nat) : Int) = (k : Int) + 6 + n from by omega]
      rfl
    · simpa [blk, block_add] using hj
  · have HX : Hid (X = ([], 0, 4)) := by show _ = _; rw [HK.out, if_neg hn0, if_neg h3, if_neg h4, if_neg (fun h => hs ((HBS.out (by omega)).2 h))]
    rw [decide_eq_false hs]
    have E6 := Lib.hid S6
    clear hs
    go_wp2_with fail
    go_ret3
    rw [HX.out]
    exact ⟨none, 0, rfl, RdB.nil, Nat.le_refl _, by omega, fun k h => by simp [blk] at h, E6.out⟩

theorem rnext_calls (A : Option Addr) (c : Nat) (bs : List UInt8) (a : Int) (w : World) (hb : RdB w A bs) (hl : bs.length ≤ 100000) (hcap : bs.length ≤ c) (hcm : c ≤ 9223372036854775807) :
    Calls Try.prog 41 #[.slice A bs.length c, .int .i64 a] w (RetS3 w A (nextR bs a).1 (.int .i64 (nextR bs a).2.1) (.int .i64 (nextR bs a).2.2)) := by
  by_cases h0 : a < 0
  · rw [show nextR bs a = ([], 0, 6) from by rw [nextR, if_pos (.inl h0)]]
    go_enter Try.func41, Try.ntmps41
    go_wp2_with fail
    go_ret3
    exact ⟨none, 0, rfl, RdB.nil, Nat.le_refl _, by omega, fun k h => by simp [blk] at h, Ext.refl _⟩
  by_cases h1 : bs.length < a
  · rw [show nextR bs a = ([], 0, 6) from by rw [nextR, if_pos (.inr h1)]]
    go_enter Try.func41, Try.ntmps41
    go_wp2_with fail
    go_ret3
    exact ⟨none, 0, rfl, RdB.nil, Nat.le_refl _, by omega, fun k h => by simp [blk] at h, Ext.refl _⟩
  obtain ⟨k, rfl⟩ : ∃ k : Nat, a = k := ⟨a.toNat, by omega⟩
  rw [nextR_k bs k (by omega)]
  exact rnext_k A c bs k w hb hl hcap hcm (by omega)
end Go.Proofs.Ytjbejaieihchmaa
