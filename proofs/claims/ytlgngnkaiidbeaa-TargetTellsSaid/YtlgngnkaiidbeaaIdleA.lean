/- idle.New, Touch, Drop, Now. -/
import Derived.Test.YtlgngnkaiidbeaaMapO
import Derived.Test.YtlgngnkaiidbeaaPlainIdle
import Derived.Test.YtlgngnkaiidbeaaArr2
import Derived.Test.YtlgngnkaiidbeaaQuietE
set_option maxRecDepth 100000
set_option linter.unusedVariables false
set_option linter.unusedSimpArgs false
namespace Go.Proofs.Ytlgngnkaiidbeaa
open Go.RowKit

def toKL (l : PL) : KL := l.map (fun q => (q.1, .int .u64 (q.2 : Int)))
theorem toKL_put (l : PL) (k : PK) (v : Nat) : putI (toKL l) k (.int .u64 (v : Int)) = toKL (putW l k v) := by
  induction l with
  | nil => rfl
  | cons q l ih =>
    show putI ((q.1, _) :: toKL l) _ _ = _
    unfold putI putW
    by_cases h : q.1 = k
    · rw [if_pos h, if_pos h]; rfl
    · rw [if_neg h, if_neg h, ih]; rfl
theorem toKL_del (l : PL) (k : PK) : delI (toKL l) k = toKL (delW l k) := by
  induction l with
  | nil => rfl
  | cons q l ih =>
    show delI ((q.1, _) :: toKL l) _ = _
    unfold delI delW
    by_cases h : q.1 = k
    · rw [if_pos h, if_pos h]
    · rw [if_neg h, if_neg h, ih]; rfl
theorem toKL_has (l : PL) (k : PK) : ∀ i, (fI (toKL l) k i).isSome = decide (k ∈ keysP l) := by
  induction l with
  | nil => intro i; rfl
  | cons q l ih =>
    intro i
    show (fI ((q.1, _) :: toKL l) _ _).isSome = _
    unfold fI keysP
    rw [List.map_cons]
    by_cases h : q.1 = k
    · rw [if_pos h]; simp [h]
    · rw [if_neg h, ih, Bool.eq_iff_iff]
      simp only [decide_eq_true_eq, List.mem_cons]
      constructor
      · exact fun a => .inr a
      · rintro (a | a)
        · exact absurd a.symm h
        · exact a
/-- the watch lies at gw, its map at gm -/
def IW (w : World) (gw gm now : Nat) (l : PL) : Prop := Arr w gw 137 #[.int .u64 (now : Int), .map (some gm)] ∧ MapI w gm (toKL l)
theorem IW.ext {w w1 : World} {gw gm now : Nat} {l : PL} (h : IW w gw gm now l) (e : Ext w w1) : IW w1 gw gm now l := ⟨h.1.ext e, h.2.ext e⟩
theorem IW.ne {w : World} {gw gm now : Nat} {l : PL} (h : IW w gw gm now l) : gw ≠ gm := by
  intro e
  subst e
  obtain ⟨es, c, h2, _⟩ := h.2
  have h1 := h.1
  unfold Arr at h1
  rw [h1] at h2; cases h2
/-- all but these two blocks is as it was -/
structure KpW (gw gm : Nat) (w w' : World) : Prop where
  os : w'.os = w.os
  tape : w'.tape = w.tape
  output : w'.output = w.output
  size : w.heap.size ≤ w'.heap.size
  block : ∀ k, k < w.heap.size → k ≠ gw → k ≠ gm → w'.heap[k]? = w.heap[k]?
section kpw
variable {gw gm : Nat} {w w1 w2 : World}
theorem KpW.refl (w : World) : KpW gw gm w w := ⟨rfl, rfl, rfl, Nat.le_refl _, fun _ _ _ _ => rfl⟩
theorem KpW.trans (h : KpW gw gm w w1) (k : KpW gw gm w1 w2) : KpW gw gm w w2 := ⟨k.os.trans h.os, k.tape.trans h.tape, k.output.trans h.output, Nat.le_trans h.size k.size, fun i hi h1 h2 => (k.block i (Nat.lt_of_lt_of_le hi h.size) h1 h2).trans (h.block i hi h1 h2)⟩
theorem Ext.kpw (h : Ext w w1) : KpW gw gm w w1 := ⟨h.os, h.tape, h.output, h.size, fun i hi _ _ => Below.block h i hi⟩
theorem KpW.of_map (h : w.grownBy w1 (some gm)) : KpW gw gm w w1 := ⟨h.os, h.tape, h.output, h.size, fun i hi _ h2 => h.block i hi (fun e => h2 (by injection e))⟩
theorem KpW.of_row (h : w.grownBy w1 (some gw)) : KpW gw gm w w1 := ⟨h.os, h.tape, h.output, h.size, fun i hi h1 _ => h.block i hi (fun e => h1 (by injection e))⟩
theorem KpW.ext {w0 : World} (e : Ext w0 w) (h : KpW gw gm w w1) (h1 : w0.heap.size ≤ gw) (h2 : w0.heap.size ≤ gm) : Ext w0 w1 :=
  ⟨h.os.trans e.os, h.tape.trans e.tape, h.output.trans e.output, Nat.le_trans e.size h.size, fun i hi => (h.block i (Nat.lt_of_lt_of_le hi e.size) (by omega) (by omega)).trans (Below.block e i hi)⟩
end kpw
theorem zero_int (w : World) : (zeroValue 26).run Try.prog w = .ok (.int .u64 0) w := by kernel_rfl
theorem zero_pair : (Try.prog.info? 89).map (fun i => (i.zero, i.size)) = some (some (.agg #[.int .i64 0, .int .i64 0]), 2) := by kernel_rfl
theorem size_pair : (Try.prog.info? 89).map (·.size) = some 2 := by kernel_rfl
theorem pr_one (k : PK) : ∀ v ∈ (#[.int .i64 k.1, .int .i64 k.2] : Array Value), v.oneCell' = true := by
  intro v hv
  simp at hv
  rcases hv with rfl | rfl <;> rfl
set_option maxHeartbeats 1000000 in
theorem inew_calls (w : World) : Calls Try.prog 46 #[] w fun e w' => ∃ gw gm, e = .returned (.pointer (some ⟨gw, 0, none⟩)) ∧ IW w' gw gm 0 [] ∧ Ext w w' ∧ w.heap.size ≤ gw ∧ w.heap.size ≤ gm := by
  go_enter Try.func46, Try.ntmps46
  go_wp2_with (first
    | ((with_reducible show wpList _ _ _ ({ dst := some 1, op := Op.makeMap 135 none, type := _, pos := _, after := _, guard := _ } :: _) _ _); refine mkI _ rfl _ rfl ?_; intro gm w1 hg hs1 k1 e1; have M1 := Lib.hid k1; have E1 := Lib.hid e1; have G1 := Lib.hid (Nat.le_of_eq hg); clear hg hs1 k1 e1)
    | ((with_reducible show wpList _ _ _ ({ dst := some 3, op := Op.box 137 _, type := _, pos := _, after := _, guard := _ } :: _) _ _); refine bxA _ rfl 137 _ rfl _ rfl ?_; intro gw w2 hg hs1 k1 e1; have M2 := Lib.hid (M1.out.ext e1); have X2 := Lib.hid k1; have E2 := Lib.hid (E1.out.trans e1); have G2 := Lib.hid (Nat.le_trans E1.out.size (Nat.le_of_eq hg)); clear hg hs1 k1 e1))
  go_ret
  exact ⟨gw, gm, rfl, ⟨X2.out, M2.out⟩, E2.out, G2.out, G1.out⟩
theorem inow_calls (gw gm now : Nat) (l : PL) (w : World) (h : IW w gw gm now l) : Calls Try.prog 57 #[.pointer (some ⟨gw, 0, none⟩)] w fun e w' => e = .returned (.int .u64 (now : Int)) ∧ w = w' := by
  have c0 : w.cell? ⟨gw, 0, none⟩ = some (.int .u64 (now : Int)) := h.1.cell 0
  clear h
  go_enter Try.func57, Try.ntmps57
  go_wp2_with fail
  go_ret
  exact ⟨rfl, rfl⟩
set_option maxHeartbeats 1000000 in
theorem itouch_calls (gw gm now : Nat) (tl : PL) (kk : PK) (w : World) (h : IW w gw gm now tl) : Calls Try.prog 47 #[.pointer (some ⟨gw, 0, none⟩), .int .i64 kk.1, .int .i64 kk.2] w fun e w' => e = .returned (.tuple #[]) ∧ IW w' gw gm now (putW tl kk now) ∧ KpW gw gm w w' := by
  have HI := Lib.hid h
  clear h
  go_enter Try.func47, Try.ntmps47
  go_wp2_with fail
  refine wp_region_still_tail 11 (by kernel_rfl) (by kernel_rfl) ?_
  simp only [List.take_succ_cons, List.take_zero, List.drop_succ_cons, List.drop_zero]
  change wpStill _ _ w.drew (fun a' => wpList _ _ _ _ a' w.drew) _ _
  have HD : Hid (IW w.drew gw gm now tl) := HI.out.ext (Ext.refl w).drew
  have HK : Hid (KpW gw gm w w.drew) := (Ext.refl w).drew.kpw
  clear HI
  generalize w.drew = w3 at *
  have c0 : w3.cell? ⟨gw, 0, none⟩ = some (.int .u64 (now : Int)) := HD.out.1.cell 0
  have c1 : w3.cell? ⟨gw, 1, none⟩ = some (.map (some gm)) := HD.out.1.cell 1
  repeat still_step
  refine wpStill_nil ?_
  refine upI _ rfl pairK Try.underlying135 _ _ _ rfl gm (toKL tl) kk (.int .u64 (now : Int)) rfl rfl rfl HD.out.2 ?_
  intro w4 h4 g4 s4
  have M4 := Lib.hid h4
  have K4 := Lib.hid (HK.out.trans (KpW.of_map g4))
  have A4 := Lib.hid (HD.out.1.grown g4 (fun e => HD.out.ne (by injection e)))
  clear h4 g4 s4 c0 c1
  go_frame

  go_wp2_with fail
  go_end0
  exact ⟨rfl, ⟨A4.out, by rw [← toKL_put]; exact M4.out⟩, K4.out⟩
theorem toKL_get (l : PL) (k : PK) : ∃ n : Nat, ((fI (toKL l) k 0).map (·.2)).getD (.int .u64 0) = .int .u64 (n : Int) := by
  have key : ∀ (l : PL) (i : Nat), ∃ n : Nat, ((fI (toKL l) k i).map (·.2)).getD (.int .u64 0) = .int .u64 (n : Int) := by
    intro l
    induction l with
    | nil => intro i; exact ⟨0, rfl⟩
    | cons q l ih =>
      intro i
      show ∃ n : Nat, ((fI ((q.1, _) :: toKL l) k i).map (·.2)).getD (.int .u64 0) = .int .u64 (n : Int)
      unfold fI
      by_cases h : q.1 = k
      · rw [if_pos h]; exact ⟨q.2, rfl⟩
      · rw [if_neg h]; exact ih _
  exact key l 0
set_option maxHeartbeats 1000000 in
theorem idrop_calls (gw gm now : Nat) (tl : PL) (kk : PK) (w : World) (h : IW w gw gm now tl) : Calls Try.prog 49 #[.pointer (some ⟨gw, 0, none⟩), .int .i64 kk.1, .int .i64 kk.2] w fun e w' => e = .returned (.bool (decide (kk ∈ keysP tl))) ∧ IW w' gw gm now (delW tl kk) ∧ KpW gw gm w w' := by
  have HI := Lib.hid h
  obtain ⟨n, hn⟩ := toKL_get tl kk
  have hh := toKL_has tl kk 0
  have HV : Hid ((.tuple #[((fI (toKL tl) kk 0).map (·.2)).getD (.int .u64 0), .bool (fI (toKL tl) kk 0).isSome] : Value) = .tuple #[.int .u64 (n : Int), .bool (decide (kk ∈ keysP tl))]) := by
    show _ = _
    rw [hn, hh]
  clear h hn hh
  generalize decide (kk ∈ keysP tl) = B at *
  go_enter Try.func49, Try.ntmps49
  go_wp2_with (first
    | ((with_reducible show wpList _ _ _ ({ dst := some 7, op := Op.alloc 89, type := _, pos := _, after := _, guard := _ } :: _) _ _); refine alA _ rfl 89 rfl _ _ zero_pair ?_; intro g5 w5 hg hs1 k3 e3; have X5 := Lib.hid k3; have T5 := Lib.hid e3; have G5 := Lib.hid (Nat.le_of_eq hg); clear hg hs1 k3 e3)
    | ((with_reducible show wpList _ _ _ ({ dst := none, op := Op.store 89 _ _, type := _, pos := _, after := _, guard := _ } :: _) _ _); refine stA _ rfl 89 89 _ _ rfl g5 _ #[.int .i64 kk.1, .int .i64 kk.2] rfl rfl X5.out size_pair rfl (pr_one kk) ?_; intro w6 hs k4 g4; have T6 := Lib.hid (show Ext w w6 from T5.out.grown g4 (fun kk hk => by injection hk with hk; have := G5.out; omega)); have X6 := Lib.hid k4; clear hs k4 g4))
  have KS : Hid (∀ W, Ext w6 W → W.cell? ⟨gw, 1, none⟩ = some (.map (some gm)) ∧ W.cell? ⟨g5, 0, none⟩ = some (.int .i64 kk.1) ∧ W.cell? ⟨g5, 1, none⟩ = some (.int .i64 kk.2) ∧
      (Instr.lookup 135 (.map (some gm)) (.agg #[.int .i64 kk.1, .int .i64 kk.2]) true).run Try.prog W = .ok (.tuple #[.int .u64 (n : Int), .bool B]) W) := fun W e => by
    have hx := X6.out.ext e
    have hi := (HI.out.ext T6.out).ext e
    refine ⟨hi.1.cell 1, hx.cell 0, hx.cell 1, ?_⟩
    rw [← HV.out]
    exact run_lookI pairK _ _ Try.underlying135 (.int .u64 0) W (zero_int W) gm (toKL tl) hi.2 kk
  refine wp_region_quietE w6 (Ext.refl _) (by kernel_rfl) (by kernel_rfl) ?_
  repeat (first | (apply wpq_skip; (focus rfl); (try simp only [Act.put, List.setIfInBounds_toArray, List.set_cons_zero, List.set_cons_succ])) | (apply wpq_take; (focus rfl); (focus (intro W hW; obtain ⟨c1, c2, c3, c4⟩ := KS.out W hW; go_simp; (first | done | with_reducible rfl))); (try simp only [Act.put, List.setIfInBounds_toArray, List.set_cons_zero, List.set_cons_succ])))
  refine wpq_nil ?_
  intro w7 e7
  go_wp2_with fail
  have HD : Hid (IW w7.drew gw gm now tl) := ((HI.out.ext T6.out).ext e7).ext (Ext.refl w7).drew
  have HK : Hid (Ext w w7.drew) := (T6.out.trans e7).drew
  have X7 : Hid (Arr w7.drew g5 89 #[.int .i64 kk.1, .int .i64 kk.2]) := (X6.out.ext e7).drew
  clear HI T5 T6 X5 X6 KS e7 HV
  refine wp_region_still_tail 5 (by kernel_rfl) (by kernel_rfl) ?_
  simp only [List.take_succ_cons, List.take_zero, List.drop_succ_cons, List.drop_zero]
  change wpStill _ _ w7.drew (fun a' => wpList _ _ _ _ a' w7.drew) _ _
  generalize w7.drew = w8 at *
  have c1 : w8.cell? ⟨gw, 1, none⟩ = some (.map (some gm)) := HD.out.1.cell 1
  have c2 : w8.cell? ⟨g5, 0, none⟩ = some (.int .i64 kk.1) := X7.out.cell 0
  have c3 : w8.cell? ⟨g5, 1, none⟩ = some (.int .i64 kk.2) := X7.out.cell 1
  repeat still_step
  refine wpStill_nil ?_
  refine dlI _ rfl pairK Try.underlying135 _ _ rfl gm (toKL tl) kk rfl rfl HD.out.2 ?_
  intro w9 h4 g4 s4
  have M4 := Lib.hid h4
  have K4 : Hid (KpW gw gm w w9) := Lib.hid (HK.out.kpw.trans (KpW.of_map g4))
  have A4 := Lib.hid (HD.out.1.grown g4 (fun e => HD.out.ne (by injection e)))
  clear h4 g4 s4 c1 c2 c3
  go_frame
  go_wp2_with fail
  go_ret
  exact ⟨rfl, ⟨A4.out, by rw [← toKL_del]; exact M4.out⟩, K4.out⟩
end Go.Proofs.Ytlgngnkaiidbeaa
