/- acct.without, statement. -/
import Derived.Test.YtkbjnlbbfapgdaaDoorAcctH
import Derived.Test.YtkbjnlbbfapgdaaDoorCopyV
import Derived.Deep.RegionLaw
set_option maxRecDepth 100000
set_option linter.unusedVariables false
set_option linter.unusedSimpArgs false
namespace Go.Proofs.YtkbjnlbbfapgdaaDoor
open Go.RowKit

theorem flatMap_take {α β : Type} {f : α → List β} {k : Nat} (hk : ∀ x, (f x).length = k) (xs : List α) (n : Nat) : (xs.take n).flatMap f = (xs.flatMap f).take (n * k) := by
  induction xs generalizing n with
  | nil => simp
  | cons x xs ih =>
    cases n with
    | zero => simp
    | succ n =>
      rw [List.take_succ_cons, List.flatMap_cons, List.flatMap_cons, ih, List.take_append, hk, List.take_of_length_le (show (f x).length ≤ (n + 1) * k by rw [hk, Nat.succ_mul]; omega), show (n + 1) * k - k = n * k by rw [Nat.succ_mul]; omega]
theorem flatMap_drop {α β : Type} {f : α → List β} {k : Nat} (hk : ∀ x, (f x).length = k) (xs : List α) (n : Nat) : (xs.drop n).flatMap f = (xs.flatMap f).drop (n * k) := by
  induction xs generalizing n with
  | nil => simp
  | cons x xs ih =>
    cases n with
    | zero => simp
    | succ n =>
      rw [List.drop_succ_cons, List.flatMap_cons, ih, List.drop_append, hk, List.drop_of_length_le (show (f x).length ≤ (n + 1) * k by rw [hk, Nat.succ_mul]; omega), show (n + 1) * k - k = n * k by rw [Nat.succ_mul]; omega, List.nil_append]
theorem OwnV.of_arr {w : World} {g : Nat} {e : TypeId} {xs : List Value} (H : Arr w g e xs.toArray) (base size n : Nat) (hb : base ≤ g) (hn : xs.length = n * size) (hm : n ≤ 9223372036854775807) : OwnV w base e size (some ⟨g, 0, none⟩) n n xs :=
  ⟨hn, .inr ⟨g, n, xs.toArray, rfl, hb, H, Nat.le_refl _, hm, by simpa using hn, by simp [← hn]⟩⟩
theorem erase_eq {α : Type} (xs : List α) (k : Nat) (h : k < xs.length) : xs.eraseIdx k = xs.take k ++ xs.drop (k + 1) := List.eraseIdx_eq_take_drop_succ xs k

def RetOL (w : World) (ls : List Lz) (e : Ending) (w' : World) : Prop := ∃ A c, e = .returned (.slice A ls.length c) ∧ OwnV w' w.heap.size 64 2 A ls.length c (ls.flatMap Lz.cs) ∧ Ext w w'

set_option maxHeartbeats 4000000 in
theorem without_calls (A : Option Addr) (c k : Nat) (ls : List Lz) (w : World) (hb : RdE Lz.cs w A ls) (hl : ls.length ≤ 100000) (hk : k < ls.length) (hc : ls.length ≤ c) (hcm : c ≤ 9223372036854775807) :
    Calls Tryd.prog 54 #[.slice A ls.length c, .int .i64 k] w (RetOL w (ls.eraseIdx k)) := by
  have HB := Lib.hid hb
  clear hb
  obtain ⟨n, hn⟩ : ∃ n, ls.length = n + 1 := ⟨ls.length - 1, by omega⟩
  have HER : Hid ((ls.eraseIdx k).length = n ∧ (ls.eraseIdx k).flatMap Lz.cs = (ls.take k).flatMap Lz.cs ++ (ls.drop (k + 1)).flatMap Lz.cs) := by
    refine ⟨by rw [List.length_eraseIdx, if_pos hk]; omega, ?_⟩
    rw [erase_eq _ _ hk, List.flatMap_append]
  obtain ⟨ad, rfl⟩ : ∃ ad, A = some ad := by obtain ⟨ad, h, _⟩ := HB.out.two hk; exact ⟨ad, h⟩
  have HC1 : Hid (∀ j v, ((ls.take k).flatMap Lz.cs)[j]? = some v → w.cell? (ad.add j) = some v) := by
    intro j v hj
    rw [flatMap_take Lz.cs_len] at hj
    obtain ⟨_, h, hc⟩ := Rd.take HB.out (k * 2) j v hj
    cases h
    exact hc
  have HC2 : Hid (∀ j v, ((ls.drop (k + 1)).flatMap Lz.cs)[j]? = some v → w.cell? ((ad.add ((k + 1) * 2)).add j) = some v) := by
    intro j v hj
    rw [flatMap_drop Lz.cs_len] at hj
    obtain ⟨_, h, hc⟩ := Rd.drop HB.out ((k + 1) * 2) j v hj
    cases h
    exact hc
  have HL1 : Hid (((ls.take k).flatMap Lz.cs).length = k * 2) := by show _ = _; rw [flat_length Lz.cs_len, List.length_take]; omega
  have HL2 : Hid (((ls.drop (k + 1)).flatMap Lz.cs).length = (n - k) * 2) := by show _ = _; rw [flat_length Lz.cs_len, List.length_drop]; omega
  have HO1 := Lib.hid (lz_one (ls.take k))
  have HO2 := Lib.hid (lz_one (ls.drop (k + 1)))
  generalize (ls.take k).flatMap Lz.cs = X at *
  generalize (ls.drop (k + 1)).flatMap Lz.cs = Y at *
  have HRE : Hid (ls.eraseIdx k = ls.eraseIdx k) := rfl
  generalize ls.eraseIdx k = es at *
  clear HB HRE
  rw [hn] at hl hk hc ⊢
  clear hn
  have u1 : IntKind.i64.wrap ((n : Int) + 1 - 1) = (n : Int) := by rw [IntWalk.i64_in _ (by omega)]; omega
  have u2 : IntKind.i64.wrap (((n + 1 : Nat) : Int) - 1) = (n : Int) := by rw [IntWalk.i64_in _ (by omega)]; omega
  have u3 : IntKind.i64.wrap ((k : Int) + 1) = (k : Int) + 1 := IntWalk.i64_in _ (by omega)
  go_enter Tryd.func54, Tryd.ntmps54
  go_wp2_with (first
    | (at_make; refine mkV _ rfl _ _ 23 64 rfl _ 2 16 Tryd.underlying23 info_lease _ n rfl rfl (by first | rfl | omega) (by omega) (by omega) ?_; intro g1 w1 cur hg hs hcl k1 e1; have HG := Lib.hid hg; have R1 := Lib.hid k1; have E1 := Lib.hid e1; have HCL := Lib.hid hcl; clear hg hs k1 e1 hcl)
    | ((with_reducible show wpList _ _ _ ({ dst := some 14, op := Op.call { callee := Callee.builtin Builtin.copy, args := _, argTypes := _ }, type := _, pos := _, after := _, guard := _ } :: _) _ _); refine cpV _ rfl (.tmp 10) (.tmp 13) 23 23 rfl 64 2 Tryd.underlying23 size_lease (some ⟨g1, 0, none⟩) (some ad) n n k c rfl rfl g1 0 cur 64 R1.out X k (by show min k n = k; omega) HL1.out (fun _ => ⟨rfl, ad, rfl, fun j v hj => E1.out.cell (HC1.out j v hj)⟩) (by have := HL1.out; have := HCL.out; omega) HO1.out ?_; intro w2 k2 g2; have R2 := Lib.hid k2; have E2 := Lib.hid (E1.out.grown g2 (fun q hq => by injection hq with hq; have := HG.out; omega)); clear k2 g2))
  have HCU : Hid (splice (splice cur 0 X) (k * 2) Y = X ++ Y) := splice2 cur X Y (k * 2) HL1.out (by rw [HL1.out, HL2.out, HCL.out]; omega)
  have HLS : Hid ((splice cur 0 X).length = n * 2) := by show _ = _; rw [length_splice _ _ _ (by rw [HL1.out, HCL.out]; omega)]; exact HCL.out
  generalize splice cur 0 X = cur2 at *
  have HB := Lib.hid (show w.heap.size ≤ g1 by have := HG.out; omega)
  have e1 : Hid (∀ j v, Y[j]? = some v → w2.cell? ((ad.add ((k + 1) * 2)).add j) = some v) := fun j v hj => E2.out.cell (HC2.out j v hj)
  clear HC1 HC2 HG R1 E1 HCL
  have t1 : ((k : Int) + 1).toNat = k + 1 := by omega
  have t2 : (0 : Int) ≤ (k : Int) + 1 := by omega
  by_cases hkn : k = n
  · have hy : ¬ 0 < Y.length := by have := HL2.out; omega
    have HY := Lib.hid hy
    have q3 : k ≤ n := by omega
    have q4 : k + 1 ≤ n + 1 := by omega
    obtain rfl : n = k := hkn.symm
    by_cases hc1 : c = n + 1
    · subst hc1
      refine wp_region_still_tail 7 (by kernel_rfl) (by kernel_rfl) ?_
      simp only [List.take_succ_cons, List.take_zero, List.drop_succ_cons, List.drop_zero]
      change wpStill _ _ w2.drew (fun a' => wpList _ _ _ _ a' w2.drew) _ _
      have R3 := Lib.hid R2.out.drew
      have E3 := Lib.hid E2.out.drew
      have C3 : Hid (∀ j v, Y[j]? = some v → w2.drew.cell? ((ad.add ((n + 1) * 2)).add j) = some v) := fun j v hj => (Ext.refl w2).drew.cell (e1.out j v hj)
      generalize w2.drew = w3 at *
      repeat still_step
      refine wpStill_nil ?_
      go_wp2_with ((with_reducible show wpList _ _ _ ({ dst := some 22, op := Op.call { callee := Callee.builtin Builtin.copy, args := _, argTypes := _ }, type := _, pos := _, after := _, guard := _ } :: _) _ _); refine cpV _ rfl (.tmp 17) (.tmp 21) 23 23 rfl 64 2 Tryd.underlying23 size_lease _ _ _ _ _ _ rfl rfl g1 (n * 2) cur2 64 R3.out Y (n - n) (by first | (simp; done) | (show min _ _ = _; omega)) HL2.out (fun h => absurd h HY.out) (by have := HL2.out; have := HLS.out; omega) HO2.out ?_; intro w4 k4 g4; have R4 := Lib.hid k4; have E4 := Lib.hid (E3.out.grown g4 (fun q hq => by injection hq with hq; have := HB.out; omega)); clear k4 g4)
      go_ret
      rw [HCU.out] at R4
      refine ⟨some ⟨g1, 0, none⟩, n, by rw [HER.out.1]; rfl, ?_, E4.out⟩
      rw [HER.out.1, HER.out.2]
      exact OwnV.of_arr R4.out _ 2 n HB.out (by rw [List.length_append, HL1.out, HL2.out]; omega) (by omega)
    · have q2 : ¬ c = n + 1 := hc1
      refine wp_region_still_tail 7 (by kernel_rfl) (by kernel_rfl) ?_
      simp only [List.take_succ_cons, List.take_zero, List.drop_succ_cons, List.drop_zero]
      change wpStill _ _ w2.drew (fun a' => wpList _ _ _ _ a' w2.drew) _ _
      have R3 := Lib.hid R2.out.drew
      have E3 := Lib.hid E2.out.drew
      have C3 : Hid (∀ j v, Y[j]? = some v → w2.drew.cell? ((ad.add ((n + 1) * 2)).add j) = some v) := fun j v hj => (Ext.refl w2).drew.cell (e1.out j v hj)
      generalize w2.drew = w3 at *
      repeat still_step
      refine wpStill_nil ?_
      go_wp2_with ((with_reducible show wpList _ _ _ ({ dst := some 22, op := Op.call { callee := Callee.builtin Builtin.copy, args := _, argTypes := _ }, type := _, pos := _, after := _, guard := _ } :: _) _ _); refine cpV _ rfl (.tmp 17) (.tmp 21) 23 23 rfl 64 2 Tryd.underlying23 size_lease _ _ _ _ _ _ rfl rfl g1 (n * 2) cur2 64 R3.out Y (n - n) (by first | (simp; done) | (show min _ _ = _; omega)) HL2.out (fun h => absurd h HY.out) (by have := HL2.out; have := HLS.out; omega) HO2.out ?_; intro w4 k4 g4; have R4 := Lib.hid k4; have E4 := Lib.hid (E3.out.grown g4 (fun q hq => by injection hq with hq; have := HB.out; omega)); clear k4 g4)
      go_ret
      rw [HCU.out] at R4
      refine ⟨some ⟨g1, 0, none⟩, n, by rw [HER.out.1]; rfl, ?_, E4.out⟩
      rw [HER.out.1, HER.out.2]
      exact OwnV.of_arr R4.out _ 2 n HB.out (by rw [List.length_append, HL1.out, HL2.out]; omega) (by omega)
  · have q1 : ¬ n = k := by omega
    have q2 : ¬ c = k + 1 := by omega
    have q3 : k ≤ n := by omega
    have q4 : k + 1 ≤ n + 1 := by omega
    refine wp_region_still_tail 7 (by kernel_rfl) (by kernel_rfl) ?_
    simp only [List.take_succ_cons, List.take_zero, List.drop_succ_cons, List.drop_zero]
    change wpStill _ _ w2.drew (fun a' => wpList _ _ _ _ a' w2.drew) _ _
    have R3 := Lib.hid R2.out.drew
    have E3 := Lib.hid E2.out.drew
    have C3 : Hid (∀ j v, Y[j]? = some v → w2.drew.cell? ((ad.add ((k + 1) * 2)).add j) = some v) := fun j v hj => (Ext.refl w2).drew.cell (e1.out j v hj)
    generalize w2.drew = w3 at *
    repeat still_step
    refine wpStill_nil ?_
    go_wp2_with ((with_reducible show wpList _ _ _ ({ dst := some 22, op := Op.call { callee := Callee.builtin Builtin.copy, args := _, argTypes := _ }, type := _, pos := _, after := _, guard := _ } :: _) _ _); refine cpV _ rfl (.tmp 17) (.tmp 21) 23 23 rfl 64 2 Tryd.underlying23 size_lease _ _ _ _ _ _ rfl rfl g1 (k * 2) cur2 64 R3.out Y (n - k) (by first | (simp; done) | (show min _ _ = _; omega)) HL2.out (fun _ => ⟨rfl, _, rfl, C3.out⟩) (by have := HL2.out; have := HLS.out; omega) HO2.out ?_; intro w4 k4 g4; have R4 := Lib.hid k4; have E4 := Lib.hid (E3.out.grown g4 (fun q hq => by injection hq with hq; have := HB.out; omega)); clear k4 g4)
    go_ret
    rw [HCU.out] at R4
    refine ⟨some ⟨g1, 0, none⟩, n, by rw [HER.out.1]; rfl, ?_, E4.out⟩
    rw [HER.out.1, HER.out.2]
    exact OwnV.of_arr R4.out _ 2 n HB.out (by rw [List.length_append, HL1.out, HL2.out]; omega) (by omega)

theorem pcE_cases' (x : Nat) : (prB x = true ∧ pcE x = 0) ∨ (prB x = false ∧ pcE x = 13) := by
  cases h : prB x
  · exact .inr ⟨rfl, pcE_bad h⟩
  · exact .inl ⟨rfl, pcE_ok h⟩
theorem size_u64 : (Tryd.prog.info? 22).map (·.size) = some 1 := by kernel_rfl
theorem stmt_due (a : Ac) : (pcE a.bits = 0 → (stmtOf a).due = dueV a.used a.bits) ∧ (pcE a.bits ≠ 0 → (stmtOf a).due = 0) := by
  refine ⟨fun _ => rfl, fun h => ?_⟩
  rcases pcE_cases' a.bits with ⟨_, h2⟩ | ⟨h1, _⟩
  · exact absurd h2 h
  · show dueV a.used a.bits = 0
    unfold dueV; rw [h1]; rfl
set_option maxHeartbeats 4000000 in
theorem astmt_calls (a : Ac) (AL AC : Option Addr) (cL cC : Nat) (w : World) (hok : a.ok) (hL : Laid w) :
    Calls Tryd.prog 58 #[acA a AL cL AC cC] w (RetV w (.agg (stV (stmtOf a)))) := by
  have HD : Hid (∀ W, Ext w W → Calls Tryd.prog 64 #[.int .u64 a.used, .int .u64 a.bits] W fun e w' => e = .returned (.tuple #[.int .u64 (dueV a.used a.bits), .int .i64 (pcE a.bits)]) ∧ W = w') := fun W e => due_calls a.used a.bits W hok.2.2.1 hok.2.2.2.1 (hL.ext e)
  have HS : Hid (stV (stmtOf a) = #[.string a.ten, .int .u64 a.per, .int .u64 a.used, .int .u64 a.cap, .int .u64 a.bits, .int .u64 (dueV a.used a.bits)]) := rfl
  have HZ := Lib.hid (stmt_due a)
  clear hok hL
  by_cases hp : pcE a.bits = 0
  · have hpp : (pcE a.bits == 0) = true := by rw [hp]; rfl
    clear hp HZ
    unfold acA
    go_enter Tryd.func58, Tryd.ntmps58
    go_wp2_with (first
      | ((with_reducible show wpList _ _ _ ({ dst := some 1, op := Op.box 26 _, type := _, pos := _, after := _, guard := _ } :: _) _ _); refine bxA _ rfl 26 _ rfl _ rfl ?_; intro g1 w1 hg hs1 k1 e1; have X1 := Lib.hid k1; have E1 := Lib.hid e1; clear hg hs1 k1 e1)
      | ((with_reducible show wpList _ _ _ ({ dst := some 2, op := Op.alloc 70, type := _, pos := _, after := _, guard := _ } :: _) _ _); refine alA _ rfl 70 rfl _ _ zero_stmt ?_; intro g2 w2 hg hs1 k1 e1; have G2 := Lib.hid (show w.heap.size ≤ g2 ∧ w1.heap.size ≤ g2 from ⟨by have := E1.out.size; omega, by omega⟩); have X2 := Lib.hid (X1.out.ext e1); have Y2 := Lib.hid k1; have E2 := Lib.hid (E1.out.trans e1); obtain ⟨a0, a1, a2, a3, a4, a5, a6⟩ := ac_cells X2.out; clear hg hs1 k1 e1)
      | ((with_reducible show wpList _ _ _ ({ dst := some 3, op := Op.alloc 70, type := _, pos := _, after := _, guard := _ } :: _) _ _); refine alA _ rfl 70 rfl _ _ zero_stmt ?_; intro g3 w3 hg hs1 k1 e1; have G3 := Lib.hid (show w2.heap.size ≤ g3 from by omega); have X3 := Lib.hid (X2.out.ext e1); have Y3 := Lib.hid (Y2.out.ext e1); have Z3 := Lib.hid k1; have E3 := Lib.hid (E2.out.trans e1); clear hg hs1 k1 e1 a0 a1 a2 a3 a4 a5 a6)
      | ((with_reducible show wpList _ _ _ ({ dst := none, op := Op.store 70 (Operand.tmp 3) _, type := _, pos := _, after := _, guard := _ } :: _) _ _); refine stA _ rfl 70 70 _ _ rfl g3 _ (stV ⟨a.ten, a.per, a.used, a.cap, a.bits, 0⟩) rfl rfl Z3.out size_stmt rfl (stV_one _) ?_; intro w4 hs k4 g4; have Z4 := Lib.hid k4; have E4 := Lib.hid (E3.out.grown g4 (fun q hq => by injection hq with hq; have := G3.out; have := E2.out.size; omega)); have X4 := Lib.hid (X3.out.grown g4 (by have := G3.out; have := X2.out.lt; intro hh; injection hh; omega)); have Y4 := Lib.hid (Y3.out.grown g4 (by have := G3.out; have := Y2.out.lt; intro hh; injection hh; omega)); obtain ⟨a0, a1, a2, a3, a4, a5, a6⟩ := ac_cells X4.out; clear hs k4 g4)
      | (go_at_call 64; refine (HD.out _ E4.out).mono ?_; rintro e w7 ⟨rfl, rfl⟩)
      | ((with_reducible show wpList _ _ _ ({ dst := none, op := Op.store 22 _ _, type := _, pos := _, after := _, guard := _ } :: _) _ _); refine stF _ rfl 22 _ _ rfl g3 5 (.int .u64 (dueV a.used a.bits)) _ _ rfl rfl Z4.out (by show 5 < 6; decide) size_u64 rfl ?_; intro w5 hs k5 g5; have Z5 := Lib.hid (show Arr w5 g3 70 (stV (stmtOf a)) from k5); have E5 := Lib.hid (E4.out.grown g5 (fun q hq => by injection hq with hq; have := G3.out; have := E2.out.size; omega)); have Y5 := Lib.hid (Y4.out.grown g5 (by have := G3.out; have := Y2.out.lt; intro hh; injection hh; omega)); clear hs k5 g5)
      | ((with_reducible show wpList _ _ _ ({ dst := some 29, op := Op.load 70 _, type := _, pos := _, after := _, guard := _ } :: _) _ _); refine ldA _ rfl 70 70 _ rfl g3 rfl _ _ Z5.out Tryd.underlying70 rfl size_stmt ?_)
      | ((with_reducible show wpList _ _ _ ({ dst := none, op := Op.store 70 (Operand.tmp 2) _, type := _, pos := _, after := _, guard := _ } :: _) _ _); refine stA _ rfl 70 70 _ _ rfl g2 _ (stV (stmtOf a)) rfl rfl Y5.out size_stmt rfl (stV_one _) ?_; intro w6 hs k6 g6; have Y6 := Lib.hid k6; have E6 := Lib.hid (E5.out.grown g6 (fun q hq => by injection hq with hq; have := G2.out; omega)); clear hs k6 g6))
    exact ret_row Tryd.results58 g2 _ _ _ rfl Y6.out Tryd.underlying70 rfl size_stmt ⟨rfl, E6.out⟩
  · have hpp : (pcE a.bits == 0) = false := beq_eq_false_iff_ne.2 hp
    have HZ3 : Hid (stmtOf a = ⟨a.ten, a.per, a.used, a.cap, a.bits, 0⟩) := by
      have hq := HZ.out.2 hp
      show _ = _
      unfold stmtOf at *; simp only at hq; rw [hq]
    clear hp HZ
    unfold acA
    go_enter Tryd.func58, Tryd.ntmps58
    go_wp2_with (first
      | ((with_reducible show wpList _ _ _ ({ dst := some 1, op := Op.box 26 _, type := _, pos := _, after := _, guard := _ } :: _) _ _); refine bxA _ rfl 26 _ rfl _ rfl ?_; intro g1 w1 hg hs1 k1 e1; have X1 := Lib.hid k1; have E1 := Lib.hid e1; clear hg hs1 k1 e1)
      | ((with_reducible show wpList _ _ _ ({ dst := some 2, op := Op.alloc 70, type := _, pos := _, after := _, guard := _ } :: _) _ _); refine alA _ rfl 70 rfl _ _ zero_stmt ?_; intro g2 w2 hg hs1 k1 e1; have G2 := Lib.hid (show w.heap.size ≤ g2 ∧ w1.heap.size ≤ g2 from ⟨by have := E1.out.size; omega, by omega⟩); have X2 := Lib.hid (X1.out.ext e1); have Y2 := Lib.hid k1; have E2 := Lib.hid (E1.out.trans e1); obtain ⟨a0, a1, a2, a3, a4, a5, a6⟩ := ac_cells X2.out; clear hg hs1 k1 e1)
      | ((with_reducible show wpList _ _ _ ({ dst := some 3, op := Op.alloc 70, type := _, pos := _, after := _, guard := _ } :: _) _ _); refine alA _ rfl 70 rfl _ _ zero_stmt ?_; intro g3 w3 hg hs1 k1 e1; have G3 := Lib.hid (show w2.heap.size ≤ g3 from by omega); have X3 := Lib.hid (X2.out.ext e1); have Y3 := Lib.hid (Y2.out.ext e1); have Z3 := Lib.hid k1; have E3 := Lib.hid (E2.out.trans e1); clear hg hs1 k1 e1 a0 a1 a2 a3 a4 a5 a6)
      | ((with_reducible show wpList _ _ _ ({ dst := none, op := Op.store 70 (Operand.tmp 3) _, type := _, pos := _, after := _, guard := _ } :: _) _ _); refine stA _ rfl 70 70 _ _ rfl g3 _ (stV ⟨a.ten, a.per, a.used, a.cap, a.bits, 0⟩) rfl rfl Z3.out size_stmt rfl (stV_one _) ?_; intro w4 hs k4 g4; have Z4 := Lib.hid (show Arr w4 g3 70 (stV (stmtOf a)) from by rw [HZ3.out]; exact k4); have E4 := Lib.hid (E3.out.grown g4 (fun q hq => by injection hq with hq; have := G3.out; have := E2.out.size; omega)); have X4 := Lib.hid (X3.out.grown g4 (by have := G3.out; have := X2.out.lt; intro hh; injection hh; omega)); have Y4 := Lib.hid (Y3.out.grown g4 (by have := G3.out; have := Y2.out.lt; intro hh; injection hh; omega)); obtain ⟨a0, a1, a2, a3, a4, a5, a6⟩ := ac_cells X4.out; clear hs k4 g4)
      | (go_at_call 64; refine (HD.out _ E4.out).mono ?_; rintro e w7 ⟨rfl, rfl⟩)
      | ((with_reducible show wpList _ _ _ ({ dst := some 29, op := Op.load 70 _, type := _, pos := _, after := _, guard := _ } :: _) _ _); refine ldA _ rfl 70 70 _ rfl g3 rfl _ _ Z4.out Tryd.underlying70 rfl size_stmt ?_)
      | ((with_reducible show wpList _ _ _ ({ dst := none, op := Op.store 70 (Operand.tmp 2) _, type := _, pos := _, after := _, guard := _ } :: _) _ _); refine stA _ rfl 70 70 _ _ rfl g2 _ (stV (stmtOf a)) rfl rfl Y4.out size_stmt rfl (stV_one _) ?_; intro w6 hs k6 g6; have Y6 := Lib.hid k6; have E6 := Lib.hid (E4.out.grown g6 (fun q hq => by injection hq with hq; have := G2.out; omega)); clear hs k6 g6))
    exact ret_row Tryd.results58 g2 _ _ _ rfl Y6.out Tryd.underlying70 rfl size_stmt ⟨rfl, E6.out⟩
end Go.Proofs.YtkbjnlbbfapgdaaDoor
