/- idle.keys: a watch's keys in order. -/
import Derived.Test.YtlgngnkaiidbeaaIdleA
import Derived.Test.YtlgngnkaiidbeaaSortOwn
import Derived.Test.YtlgngnkaiidbeaaAppW
import Derived.Test.YtlgngnkaiidbeaaSrt
import Derived.Deep.RegionHeld3
import Derived.WalkMore
set_option maxRecDepth 100000
set_option linter.unusedVariables false
set_option linter.unusedSimpArgs false
namespace Go.Proofs.Ytlgngnkaiidbeaa
open Go.RowKit Go.Shelf

def prC (k : PK) : List Value := [nv k.1, nv k.2]
theorem prC_len (k : PK) : (prC k).length = 2 := rfl
theorem pr_one1 (k : PK) : ∀ u ∈ prC k, u.oneCell' = true := by
  intro v hv
  simp [prC] at hv
  rcases hv with rfl | rfl <;> rfl
theorem info_pair : (Try.prog.info? 89).map (fun i => (i.zero, i.size, i.bytes)) = some (some (.agg #[.int .i64 0, .int .i64 0]), 2, 16) := by kernel_rfl
theorem RngI.left {w : World} {r b : Nat} {l todo : KL} (h : RngI w r b l todo) : w.rangeLeft b r = todo.length := by
  obtain ⟨es, clock, seen, c0, h1, h2, _, _, _, _, h7⟩ := h
  unfold World.rangeLeft
  rw [h1, h2]
  have := congrArg List.length h7
  simpa using this

/-- the order of keys -/
def cmpP (p q : PK) : Int := orL [Lib.compareInt p.1 q.1, Lib.compareInt p.2 q.2]
theorem cmpI3 (a b : Int) : (a < b ∧ Lib.compareInt a b = -1) ∨ (b < a ∧ Lib.compareInt a b = 1) ∨ (a = b ∧ Lib.compareInt a b = 0) := by
  unfold Lib.compareInt
  by_cases h : a < b
  · exact .inl ⟨h, by simp [h]⟩
  · by_cases k : b < a
    · exact .inr (.inl ⟨k, by simp [h, k]⟩)
    · exact .inr (.inr ⟨by omega, by simp [h, k]⟩)
theorem cmpP_lt (p q : PK) : cmpP p q < 0 ↔ ltP p q := by
  unfold cmpP orL ltP
  rcases cmpI3 p.1 q.1 with ⟨h, e⟩ | ⟨h, e⟩ | ⟨h, e⟩
  · rw [e, if_neg (by decide)]; omega
  · rw [e, if_neg (by decide)]; omega
  · rw [e, if_pos rfl]
    unfold orL
    rcases cmpI3 p.2 q.2 with ⟨h2, e2⟩ | ⟨h2, e2⟩ | ⟨h2, e2⟩
    · rw [e2, if_neg (by decide)]; omega
    · rw [e2, if_neg (by decide)]; omega
    · rw [e2, if_pos rfl]; simp only [orL]; omega
theorem cmpP_swo : Sort.SWO (ltOf cmpP) where
  irrefl x := by unfold ltOf; simp only [decide_eq_false_iff_not, cmpP_lt]; exact ltP_irrefl x
  trans x y z h1 h2 := by unfold ltOf at *; simp only [decide_eq_true_eq, cmpP_lt] at *; exact ltP_trans h1 h2
  ntrans x y z h1 h2 := by unfold ltOf at *; simp only [decide_eq_false_iff_not, cmpP_lt] at *; unfold ltP at *; omega
set_option maxHeartbeats 2000000 in
theorem sortp_calls (p q : PK) (w : World) : Calls Try.prog 123 #[.agg #[.int .i64 p.1, .int .i64 p.2], .agg #[.int .i64 q.1, .int .i64 q.2]] w fun e w' => e = .returned (.int .i64 (cmpP p q)) ∧ ExtD w w' := by
  obtain ⟨a0, a1⟩ := p
  obtain ⟨b0, b1⟩ := q
  show Calls Try.prog 123 #[.agg #[.int .i64 a0, .int .i64 a1], .agg #[.int .i64 b0, .int .i64 b1]] w fun e w' => e = .returned (.int .i64 (orL [Lib.compareInt a0 b0, Lib.compareInt a1 b1])) ∧ ExtD w w'
  go_enter Try.func123, Try.ntmps123
  go_wp2_with fail
  have A1 : Arr ((w.alloc (.cells #[.int .i64 a0, .int .i64 a1] 89)).alloc (.cells #[.int .i64 b0, .int .i64 b1] 89)) w.heap.size 89 #[.int .i64 a0, .int .i64 a1] := (Arr.new w _ _).ext ((Ext.refl _).alloc _)
  have A2 : Arr ((w.alloc (.cells #[.int .i64 a0, .int .i64 a1] 89)).alloc (.cells #[.int .i64 b0, .int .i64 b1] 89)) (w.heap.size + 1) 89 #[.int .i64 b0, .int .i64 b1] := by
    have := Arr.new (w.alloc (.cells #[.int .i64 a0, .int .i64 a1] 89)) 89 #[.int .i64 b0, .int .i64 b1]
    rw [World.size_alloc] at this
    exact this
  have E1 : ExtD w ((w.alloc (.cells #[.int .i64 a0, .int .i64 a1] 89)).alloc (.cells #[.int .i64 b0, .int .i64 b1] 89)) := ((ExtD.refl w).alloc _).alloc _
  generalize (w.alloc (.cells #[.int .i64 a0, .int .i64 a1] 89)).alloc (.cells #[.int .i64 b0, .int .i64 b1] 89) = w1 at *
  generalize w.heap.size + 1 = g2 at *
  generalize w.heap.size = g1 at *
  have KS : Hid (∀ w', ExtD w w' → Ext w1 w' → ExtD w w' ∧ Ext w1 w' ∧ w'.cell? ⟨g1, 0, none⟩ = some (.int .i64 a0) ∧ w'.cell? ⟨g1, 1, none⟩ = some (.int .i64 a1) ∧ w'.cell? ⟨g2, 0, none⟩ = some (.int .i64 b0) ∧ w'.cell? ⟨g2, 1, none⟩ = some (.int .i64 b1)) :=
    fun w' e e2 => ⟨e, e2, (A1.ext e2).cell_some rfl, (A1.ext e2).cell_some rfl, (A2.ext e2).cell_some rfl, (A2.ext e2).cell_some rfl⟩
  have E1 := Lib.hid E1
  have HO : Hid (∀ W g, Arr W g 3 #[.int .i64 (Lib.compareInt a0 b0), .int .i64 (Lib.compareInt a1 b1)] → Calls Try.prog 95 #[.slice (some ⟨g, 0, none⟩) 2 2] W fun e w' => e = .returned (.int .i64 (orL [Lib.compareInt a0 b0, Lib.compareInt a1 b1])) ∧ W = w') :=
    fun W g h => orI_calls [Lib.compareInt a0 b0, Lib.compareInt a1 b1] (some ⟨g, 0, none⟩) 2 W (by simp) (by simp) h.rd
  clear A1 A2
  go_region_held3 (fun w' => ExtD w w' ∧ Ext w1 w' ∧ w'.cell? ⟨g1, 0, none⟩ = some (.int .i64 a0) ∧ w'.cell? ⟨g1, 1, none⟩ = some (.int .i64 a1) ∧ w'.cell? ⟨g2, 0, none⟩ = some (.int .i64 b0) ∧ w'.cell? ⟨g2, 1, none⟩ = some (.int .i64 b1))
    (first | exact KS.out _ E1.out.drew (Ext.refl _).drew | exact KS.out _ (E1.out.alloc _).drew ((Ext.refl _).alloc _).drew | exact KS.out _ (E1.out.drew.alloc _) ((Ext.refl _).drew.alloc _) | exact KS.out _ (ExtD.alloc (by assumption) _) (Ext.alloc (by assumption) _) | exact KS.out _ (by assumption) (by assumption))
    (first | (go_at_call 96; refine (cmpI_calls _ _ _).mono ?_; rintro e w5 ⟨rfl, rfl⟩) | (go_at_call 95; refine (HO.out _ _ (by first | exact (Arr.new w1 _ _).drew | exact Arr.new w1 _ _ | exact Arr.new w1.drew _ _)).mono ?_; rintro e w5 ⟨rfl, rfl⟩))
  go_wp2_with fail
  go_ret
  exact ⟨rfl, by first | exact (E1.out.alloc _).drew | assumption⟩
theorem eg_sortp : ∀ args w, (callFunc 123 args).run Try.prog w = .ok (.enter 123 args) w := enters_of Try.func123 (by kernel_rfl) rfl
theorem aggP (w : World) : (isAgg 89).run Try.prog w = .ok true w := by kernel_rfl
theorem sizP (w : World) : (Go.sizeOf 89).run Try.prog w = .ok 2 w := by kernel_rfl
theorem psort_calls (A : Option Addr) (n c base : Nat) (xs : List PK) (w : World) (hown : OwnV w base 89 2 A n c (xs.flatMap prC)) (hn : n ≤ 1000000) :
    Calls Try.prog 122 #[.slice A n c, .func (.func 123) #[] #[]] w fun e1 w' => e1 = .returned (.tuple #[]) ∧ ∃ ys : List PK, ys.Perm xs ∧ ys.Pairwise (fun x y => ¬ cmpP y x < 0) ∧ OwnV w' base 89 2 A n c (ys.flatMap prC) ∧ w.grownBy w' (blk A) := by
  have h := sort_own (cs := prC) Try.sortPair (by decide) aggP sizP prC_len (fun x v hv => pr_one1 x v hv) cmpP cmpP_swo 123 eg_sortp (fun W x y => sortp_calls x y W) A n c base 89 xs w hown (by omega)
  exact h
end Go.Proofs.Ytlgngnkaiidbeaa
