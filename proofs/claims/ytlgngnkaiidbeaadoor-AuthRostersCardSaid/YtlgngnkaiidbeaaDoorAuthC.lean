/- ref23.Find, Large, Message; auth.Message, Challenge; both Checks. -/
import Derived.Test.YtlgngnkaiidbeaaDoorAuthB
import Derived.Test.YtlgngnkaiidbeaaDoorWire4
import Derived.Lib.ConvBytes
set_option maxRecDepth 100000
set_option linter.unusedVariables false
set_option linter.unusedSimpArgs false
namespace Go.Proofs.YtlgngnkaiidbeaaDoor
open Go.RowKit Go.Shelf

theorem isN_self (s : ByteArray) (A : Option Addr) (c : Nat) (d : List UInt8) : isN s ⟨s, A, c, d⟩ = true := by unfold isN; simp
theorem isN_me (t : Te) : isN t.n t = true := by unfold isN; simp
theorem takeT {xs : List Te} {k : Nat} (h : k < xs.length) : xs.take (k + 1) = xs.take k ++ [xs[k]] := List.take_succ_eq_append_getElem h
set_option maxHeartbeats 2000000 in
theorem rfindT_calls (A : Option Addr) (c : Nat) (ls : List Te) (s : ByteArray) (w : World) (hb : RdE Te.cs w A ls) (hl : ls.length ≤ 100000) :
    Calls Tryd.prog 14 #[.slice A ls.length c, .string s] w fun e w' => e = .returned (.int .i64 (idxT ls (isN s))) ∧ w' = w := by
  have HA := Lib.hid hb
  clear hb
  go_enter Tryd.func14, Tryd.ntmps14
  go_wp2_with fail
  go_loopw [5] (fun i wr => ∃ k : Nat, k ≤ ls.length ∧ i = .int .i64 (k : Int) ∧ wr = w ∧ ∀ (j : Nat) (hj : j < ls.length), j < k → isN s ls[j] = false) (fun i _ => ls.length - (intOf i).toNat)
  case atStart => exact ⟨0, by omega, rfl, rfl, fun j hj h => absurd h (Nat.not_lt_zero _)⟩
  case round =>
    obtain ⟨k, hk, rfl, rfl, hr⟩ := hrel
    have Hr := Lib.hid hr
    clear hr
    by_cases hlt : k < ls.length
    · obtain ⟨ad, rfl, x0, x1⟩ := RdE.te HA.out hlt
      have k1 : (k : Int) < (ls.length : Int) := by omega
      have HX : Hid (∀ b, isN s ls[k] = b → (b = true → idxT ls (isN s) = (k : Int)) ∧ (b = false → ∀ (j : Nat) (hj : j < ls.length), j < k + 1 → isN s ls[j] = false)) := fun b hb => ⟨fun h => idxT_hit hlt (hb.trans h) Hr.out, fun h j hj hjk => by
        by_cases e : j = k
        · subst e; exact hb.trans h
        · exact Hr.out j hj (by omega)⟩
      generalize ls[k] = x at *
      cases hq : isN s x with
      | true =>
        have HF := Lib.hid ((HX.out true hq).1 rfl)
        have q4 : (x.n.toList == s.toList) = true := hq
        clear HX hq
        go_wp2_with fail
        go_ret
        exact ⟨by rw [HF.out]; rfl, rfl⟩
      | false =>
        have HF := Lib.hid ((HX.out false hq).2 rfl)
        have q4 : (x.n.toList == s.toList) = false := hq
        clear HX hq
        go_wp2_with fail
        go_roundw
        case rel => exact ⟨k + 1, by omega, by go_num, by first | rfl | trivial, HF.out⟩
        case measure => simp [intOf]; omega
    · have HF : Hid (idxT ls (isN s) = -1) := idxT_miss (fun j hj => Hr.out j hj (by omega))
      have k1 : ¬ (k : Int) < (ls.length : Int) := by omega
      go_wp2_with fail
      go_ret
      exact ⟨by rw [HF.out]; rfl, rfl⟩
def bigT (t : Te) : Bool := decide (100 < t.n.size) || decide (100 < t.d.length)
/-- too many, or too long ones -/
def largeT (ls : List Te) : Bool := (ls.take 20).any bigT || decide (20 < ls.length)
set_option maxHeartbeats 2000000 in
theorem rlargeT_calls (A : Option Addr) (c : Nat) (ls : List Te) (w : World) (hb : RdE Te.cs w A ls) (hl : ls.length ≤ 9223372036854775807) :
    Calls Tryd.prog 5 #[.slice A ls.length c] w fun e w' => e = .returned (.bool (largeT ls)) ∧ w' = w := by
  have HA := Lib.hid hb
  clear hb
  go_enter Tryd.func5, Tryd.ntmps5
  go_wp2_with fail
  go_loopw [3] (fun i wr => ∃ k : Nat, k ≤ ls.length ∧ k ≤ 20 ∧ i = .int .i64 (k : Int) ∧ wr = w ∧ (ls.take k).any bigT = false) (fun i _ => 20 - (intOf i).toNat)
  case atStart => exact ⟨0, by omega, by omega, rfl, rfl, rfl⟩
  case round =>
    obtain ⟨k, hk, hk2, rfl, rfl, hr⟩ := hrel
    have Hr := Lib.hid hr
    clear hr
    by_cases hlt : k < ls.length
    · have k1 : (k : Int) < (ls.length : Int) := by omega
      by_cases h20 : k < 20
      · have k2 : (k : Int) < 20 := by omega
        obtain ⟨ad, rfl, x0, x1⟩ := RdE.te HA.out hlt
        have HT : Hid ((ls.take (k + 1)).any bigT = bigT ls[k]) := by
          show _ = _
          rw [takeT hlt, List.any_append, Hr.out]; simp
        have HY : Hid (bigT ls[k] = true → largeT ls = true) := fun h => by
          unfold largeT
          have : (ls.take 20).any bigT = true := List.any_eq_true.2 ⟨ls[k], List.mem_iff_getElem.2 ⟨k, by rw [List.length_take]; omega, by rw [List.getElem_take]⟩, h⟩
          rw [this]; rfl
        generalize ls[k] = x at *
        obtain ⟨xn, xA, xc, xd⟩ := x
        dsimp only at x0 x1
        by_cases hn : 100 < xn.size
        · have HF := Lib.hid (HY.out (by unfold bigT; simp [hn]))
          have n1 : (100 : Int) < (xn.size : Int) := by omega
          clear HY HT
          go_wp2_with fail
          go_ret
          exact ⟨by rw [HF.out]; rfl, rfl⟩
        · have n1 : ¬ (100 : Int) < (xn.size : Int) := by omega
          by_cases hd : 100 < xd.length
          · have HF := Lib.hid (HY.out (by unfold bigT; simp [hd]))
            have d1 : (100 : Int) < (xd.length : Int) := by omega
            clear HY HT
            go_wp2_with fail
            go_ret
            exact ⟨by rw [HF.out]; rfl, rfl⟩
          · have d1 : ¬ (100 : Int) < (xd.length : Int) := by omega
            have HF : Hid ((ls.take (k + 1)).any bigT = false) := by
              show _ = _
              rw [HT.out]; unfold bigT; simp [hn, hd]
            clear HY HT
            go_wp2_with fail
            go_roundw
            case rel => exact ⟨k + 1, by omega, by omega, by go_num, by first | rfl | trivial, HF.out⟩
            case measure => simp [intOf]; omega
      · have k2 : ¬ (k : Int) < 20 := by omega
        have h9 : 20 < ls.length := by omega
        have n9 : (20 : Int) < (ls.length : Int) := by omega
        have HF : Hid (largeT ls = true) := by show _ = _; unfold largeT; simp [h9]
        go_wp2_with fail
        go_ret
        exact ⟨by rw [HF.out]; first | rfl | simp [n9], rfl⟩
    · have k1 : ¬ (k : Int) < (ls.length : Int) := by omega
      have hkl : k = ls.length := by omega
      have n9 : ¬ (20 : Int) < (ls.length : Int) := by omega
      have HF : Hid (largeT ls = false) := by
        show _ = _
        unfold largeT
        have h1 := Hr.out
        rw [List.take_of_length_le (by omega)] at h1
        rw [List.take_of_length_le (by omega), h1]
        simp; omega
      go_wp2_with fail
      go_ret
      exact ⟨by rw [HF.out]; first | rfl | simp [n9], rfl⟩
/-- what is tagged -/
def msgB (nonce : List UInt8) (s : ByteArray) : List UInt8 := nonce ++ s.data.toList
set_option maxHeartbeats 2000000 in
theorem rmsg_calls (A : Option Addr) (c : Nat) (bs : List UInt8) (s : ByteArray) (w : World) (hb : RdB w A bs) (hl : bs.length ≤ 1000) (hs : s.size ≤ 1000) :
    Calls Tryd.prog 11 #[.slice A bs.length c, .string s] w (RetB w (msgB bs s)) := by
  have HB := Lib.hid hb
  have H0 := Lib.hid (OwnB.empty w)
  have E0 := Lib.hid ((Ext.refl w).alloc (.cells #[] 5))
  have HS : Hid (s.data.toList.length = s.size) := rfl
  clear hb
  go_enter Tryd.func11, Tryd.ntmps11
  go_wp2_with (first
    | ((with_reducible show wpList _ _ _ ({ dst := some 7, op := Op.call { callee := Callee.builtin Builtin.append, args := _, argTypes := _ }, type := _, pos := _, after := _, guard := _ } :: _) _ _); refine appB _ rfl (.tmp 5) (.tmp 6) rfl w.heap.size (some ⟨w.heap.size, 0, none⟩) 0 [] rfl A c bs rfl ?_ H0.out (HB.out.ext E0.out) (by simp; omega) (by simp); intro A3 c3 w3 h3 g3 k3; have O3 := Lib.hid h3; have E3 := Lib.hid (E0.out.grown g3 (fun k hk => (H0.out.base_ k hk).1)); clear h3 g3 k3)
    | ((with_reducible show wpList _ _ _ ({ dst := some 9, op := Op.call { callee := Callee.builtin Builtin.append, args := _, argTypes := _ }, type := _, pos := _, after := _, guard := _ } :: _) _ _); refine appS _ rfl (.tmp 7) (.tmp 8) rfl w.heap.size A3 c3 ([] ++ bs) rfl s rfl ?_ O3.out (by simp; omega) E3.out.size; intro A4 c4 w4 h4 g4; have O4 := Lib.hid h4; have E4 := Lib.hid (E3.out.grown g4 (fun k hk => (O3.out.base_ k hk).1)); clear h4 g4))
  go_ret
  exact ⟨A4, c4, by unfold msgB; first | rfl | simp, by unfold msgB; simpa using O4.out, E4.out⟩
end Go.Proofs.YtlgngnkaiidbeaaDoor
