/- share.Sort: turns in order, each once. -/
import Derived.Test.YtlgngnkaiidbeaaSortOwn
import Derived.Test.YtlgngnkaiidbeaaPlainTurn2
import Derived.Test.YtlgngnkaiidbeaaArr2
import Derived.Test.YtlgngnkaiidbeaaSrt
import Derived.Laws.StructEq
import Derived.Deep.CutRange
set_option maxRecDepth 100000
set_option linter.unusedVariables false
set_option linter.unusedSimpArgs false
namespace Go.Proofs.Ytlgngnkaiidbeaa
open Go.RowKit Go.Shelf

def tnV (x : Tn) : Array Value := #[.int .i64 x.a, .int .i64 x.b, .int .i64 x.c]
theorem tn_cells {w : World} {g : Nat} {t : TypeId} {x : Tn} (h : Arr w g t (tnV x)) : w.cell? ⟨g, 0, none⟩ = some (.int .i64 x.a) ∧ w.cell? ⟨g, 1, none⟩ = some (.int .i64 x.b) ∧ w.cell? ⟨g, 2, none⟩ = some (.int .i64 x.c) := ⟨h.cell 0, h.cell 1, h.cell 2⟩
theorem tnV_one (x : Tn) : ∀ v ∈ tnV x, v.oneCell' = true := by
  intro v hv
  simp [tnV] at hv
  rcases hv with rfl | rfl | rfl <;> rfl
theorem cells_new (w : World) (t : TypeId) (cs : List Value) : ∀ (j : Nat) (u : Value), cs[j]? = some u → (w.alloc (.cells cs.toArray t)).cell? (Addr.add ⟨w.heap.size, 0, none⟩ j) = some u := by
  intro j u hu
  rw [add_mk, Nat.zero_add]
  exact (Arr.new w t cs.toArray).cell_some (by simpa using hu)
theorem own_base {w w1 w8 : World} {base : Nat} {w0 : World} {A : Option Addr} {e : TypeId} {size n c : Nat} {xs : List Value} (E : Ext w0 w) (O : OwnV w base e size A n c xs) (he : Ext w w1) (hb : w0.heap.size ≤ base) (g8 : w1.grownBy w8 (blk A)) : Ext w0 w8 :=
  (E.trans he).grown g8 (fun k hk => by have := O.base_ k hk; omega)
theorem RdE.three {w : World} {A : Option Addr} {xs : List Tn} (h : RdE Tn.cs w A xs) {i : Nat} (hi : i < xs.length) : ∃ ad, A = some ad ∧ w.cell? (ad.add (i * 3)) = some (.int .i64 xs[i].a) ∧ w.cell? ⟨(ad.add (i * 3)).block, (ad.add (i * 3)).off + 1, none⟩ = some (.int .i64 xs[i].b) ∧ w.cell? ⟨(ad.add (i * 3)).block, (ad.add (i * 3)).off + 2, none⟩ = some (.int .i64 xs[i].c) := by
  obtain ⟨ad, ha, hc⟩ := RdE.at_ Tn.cs_len h hi (by decide)
  refine ⟨ad, ha, hc 0 _ rfl, ?_, ?_⟩
  · rw [← add_off _ 1 (by decide)]; exact hc 1 _ rfl
  · rw [← add_off _ 2 (by decide)]; exact hc 2 _ rfl
theorem part_int (xs : Array Value) (i : Nat) (w : World) : (part 3 xs i).run Try.prog w = match xs[i]? with | some v => .ok v w | none => (stuck "part: no such cell" : Sem Value).run Try.prog w := by
  have h : ∀ w, (isAgg 3).run Try.prog w = .ok false w := fun w => by kernel_rfl
  simp only [part, Sem.run_bind, h, Result.andThen_ok, Bool.false_eq_true, if_false]
  cases xs[i]? <;> rfl
theorem eqTn (x y : Tn) (w : World) : (Op.equalIn 10000 93 (.agg #[.int .i64 x.a, .int .i64 x.b, .int .i64 x.c]) (.agg #[.int .i64 y.a, .int .i64 y.b, .int .i64 y.c])).run Try.prog w = .ok (decide (x = y)) w := by
  have hp : Try.prog.stoodInHeld 93 = false := by kernel_rfl
  have hu : Try.prog.underlying 93 = some (.struct (Try.prog.fieldsOf 93)) := by kernel_rfl
  rw [run_equalIn_struct w 9999 _ _ _ hu hp]
  have hf : Try.prog.fieldsOf 93 = #[{ name := "Session", type := 3, offset := 0, embedded := false, tag := "", pkgPath := "", byteOffset := 0 }, { name := "Stream", type := 3, offset := 1, embedded := false, tag := "", pkgPath := "", byteOffset := 8 }, { name := "Way", type := 3, offset := 2, embedded := false, tag := "", pkgPath := "", byteOffset := 16 }] := by kernel_rfl
  rw [hf]
  simp [Op.eqFields, part_int, run_equalIn_int (P := Try.prog) w _ 3 .i64 .i64 _ _ Try.underlying3, Tn.eq_iff]
  by_cases h1 : x.a = y.a <;> by_cases h2 : x.b = y.b <;> by_cases h3 : x.c = y.c <;> simp [h1, h2, h3]
theorem neTn (x y : Tn) (w : World) : (binOp .neq 93 (.agg #[.int .i64 x.a, .int .i64 x.b, .int .i64 x.c]) (.agg #[.int .i64 y.a, .int .i64 y.b, .int .i64 y.c])).run Try.prog w = .ok (.bool (!decide (x = y))) w := by
  rw [run_neq_struct, eqTn]; rfl
theorem qqTn (x y : Tn) (w : World) : (binOp .eql 93 (.agg #[.int .i64 x.a, .int .i64 x.b, .int .i64 x.c]) (.agg #[.int .i64 y.a, .int .i64 y.b, .int .i64 y.c])).run Try.prog w = .ok (.bool (decide (x = y))) w := by
  rw [run_eql_struct, eqTn]; rfl
theorem eg_sort : ∀ args w, (callFunc 94 args).run Try.prog w = .ok (.enter 94 args) w := enters_of Try.func94 (by kernel_rfl) rfl
theorem aggT (w : World) : (isAgg 93).run Try.prog w = .ok true w := by kernel_rfl
theorem sizT (w : World) : (Go.sizeOf 93).run Try.prog w = .ok 3 w := by kernel_rfl
theorem zero_turn : (Try.prog.info? 93).map (fun i => (i.zero, i.size)) = some (some (.agg #[.int .i64 0, .int .i64 0, .int .i64 0]), 3) := by kernel_rfl
theorem size_turn : (Try.prog.info? 93).map (·.size) = some 3 := by kernel_rfl
theorem ssort_calls (A : Option Addr) (n c base : Nat) (xs : List Tn) (w : World) (hown : OwnV w base 93 3 A n c (xs.flatMap Tn.cs)) (hn : n ≤ 1000000) :
    Calls Try.prog 93 #[.slice A n c, .func (.func 94) #[] #[]] w fun e1 w' => e1 = .returned (.tuple #[]) ∧ ∃ ys : List Tn, ys.Perm xs ∧ ys.Pairwise (fun x y => ¬ ltT y x) ∧ OwnV w' base 93 3 A n c (ys.flatMap Tn.cs) ∧ w.grownBy w' (blk A) := by
  have h := sort_own (cs := Tn.cs) Try.sortTurn (by decide) aggT sizT Tn.cs_len (fun x v hv => tn_one [x] v (by simpa using hv)) cmpTn cmpTn_swo 94 eg_sort (fun W x y => sortc_calls x.a x.b x.c y.a y.b y.c W) A n c base 93 xs w hown (by omega)
  exact h
theorem tn_one1 (x : Tn) : ∀ u ∈ x.cs, u.oneCell' = true := fun u hu => tn_one [x] u (by simpa using hu)

set_option maxHeartbeats 8000000 in
theorem ssortT_calls (A : Option Addr) (c : Nat) (xs : List Tn) (w : World) (hb : RdE Tn.cs w A xs) (hl : xs.length ≤ 100000) (hn0 : A = none → c = 0) :
    Calls Try.prog 62 #[.slice A xs.length c] w fun e w' => ∃ A' c', e = .returned (.slice A' (sortT xs).length c') ∧ OwnV w' w.heap.size 93 3 A' (sortT xs).length c' ((sortT xs).flatMap Tn.cs) ∧ Ext w w' := by
  have HCL := Lib.hid (cloneTn A c xs w hb hl hn0)
  clear hb hn0
  go_enter Try.func62, Try.ntmps62
  go_wp2_with fail
  refine HCL.out.mono ?_
  rintro e w1 ⟨A1, c1, rfl, o1, e1⟩
  have HSO : Hid _ := Lib.hid (ssort_calls A1 xs.length c1 w.heap.size xs w1 o1 (by omega))
  have B1 := Lib.hid o1.base_
  have E1 := Lib.hid e1
  clear o1 e1 HCL
  go_wp2_with fail
  refine HSO.out.mono ?_
  rintro e w2 ⟨rfl, ys, hp, hpw, o2, g2⟩
  have hyl : ys.length = xs.length := hp.length_eq
  have HFIN : Hid (∀ out, StrictOf ys out → out = sortT xs) := fun out h => (h.perm hp).eq
  have HPW := Lib.hid hpw
  have O2 := Lib.hid o2
  have E2 := Lib.hid (E1.out.grown g2 (fun k hk => (B1.out k hk).1))
  rw [← hyl] at O2
  rw [← hyl]
  replace hl : ys.length ≤ 100000 := by omega
  clear hp hpw o2 g2 HSO hyl
  go_wp2_with fail
  go_loopw [4, 13] (fun o i wr => ∃ k : Nat, ∃ A3 c3, ∃ out : List Tn, k ≤ ys.length ∧ i = .int .i64 (k : Int) ∧ o = .slice A3 out.length c3 ∧ out.length ≤ k ∧ StrictOf (ys.take k) out ∧ OwnV wr w2.heap.size 93 3 A3 out.length c3 (out.flatMap Tn.cs) ∧ Ext w2 wr) (fun _ i _ => ys.length - (intOf i).toNat)
  case atStart => exact ⟨0, none, 0, [], by omega, rfl, rfl, Nat.le_refl _, by rw [List.take_zero]; exact StrictOf.nil, OwnV.nil _ _ _ _, Ext.refl _⟩
  case round =>
    obtain ⟨k, A3, c3, out, hk, rfl, rfl, hol, hst, o3, e3⟩ := hrel
    have HST := Lib.hid hst
    have O3 := Lib.hid o3
    have E3 := Lib.hid e3
    have HOL := Lib.hid hol
    clear hst o3 e3 hol
    by_cases hlt : k < ys.length
    · have k1 : (k : Int) < (ys.length : Int) := by omega
      have R3 := Lib.hid (O2.out.ext E3.out).rd
      obtain ⟨ad, rfl, x0, x1, x2⟩ := RdE.three (show RdE Tn.cs wr A1 ys from R3.out) hlt
      by_cases h0 : k = 0
      · subst h0
        have HX2 := Lib.hid (HST.out.snoc HPW.out hlt (.inl rfl))
        simp only [Nat.zero_mul, add_zero'] at x0 x1 x2
        clear R3 HST
        generalize ys[0] = x at *
        have hol : out.length ≤ 100000 := by have := HOL.out; omega
        go_wp2_with (first
          | ((with_reducible show wpList _ _ _ ({ dst := some 6, op := Op.alloc 93, type := _, pos := _, after := _, guard := _ } :: _) _ _); refine alA _ rfl 93 rfl _ _ zero_turn ?_; intro g5 w5 hg hs1 k3 e3; have X5 := Lib.hid k3; have T5 := Lib.hid e3; have G5 := Lib.hid (Nat.le_of_eq hg); clear hg hs1 k3 e3)
          | ((with_reducible show wpList _ _ _ ({ dst := none, op := Op.store 93 _ _, type := _, pos := _, after := _, guard := _ } :: _) _ _); refine stA _ rfl 93 93 _ _ rfl g5 _ (tnV x) rfl rfl X5.out size_turn rfl (tnV_one _) ?_; intro w6 hs k4 g4; have T6 := Lib.hid (show Ext wr w6 from T5.out.grown g4 (fun k hk => by injection hk with hk; have := G5.out; omega)); have X6 := Lib.hid k4; obtain ⟨y0, y1, y2⟩ := tn_cells k4; clear hs k4 g4 x0 x1 x2))
        go_quiet (fail)
        have T7 := Lib.hid (T6.out.drewN nq); have O7 := Lib.hid ((O3.out.ext T6.out).ext ((Ext.refl _).drewN nq)); have X7 := Lib.hid (X6.out.drewN nq); have E7 := Lib.hid (E3.out.trans T7.out); generalize w6.drewN nq = w7 at *; clear y0 y1 y2; obtain ⟨y0, y1, y2⟩ := tn_cells X7.out
        go_wp2_with (at_builtin; refine appV _ rfl (.tmp 29) (.tmp 31) 91 rfl 93 (.agg #[.int .i64 0, .int .i64 0, .int .i64 0]) 3 24 Try.underlying91 info_turn rfl (by decide) w2.heap.size A3 out.length c3 (out.flatMap Tn.cs) rfl ⟨w7.heap.size, 0, none⟩ 1 1 x.cs rfl ?_ (O7.out.ext ((Ext.refl _).alloc _)) rfl (cells_new w7 _ _) (tn_one1 x) (by omega) (by omega) (by have := E7.out.size; simp; omega); intro A8 c8 w8 h8 g8 b8; have E8 := Lib.hid (own_base E7.out O7.out ((Ext.refl _).alloc _) (Nat.le_refl _) g8); have O8 := Lib.hid h8; clear h8 g8 b8 y0 y1 y2)
        go_roundw
        case rel => exact ⟨0 + 1, A8, c8, out ++ [x], by omega, by go_num, by simp, by have := HOL.out; rw [List.length_append, List.length_singleton]; omega, HX2.out, by simpa using O8.out, E8.out⟩
        case measure => simp [intOf]; omega
      · obtain ⟨p, hp⟩ : ∃ p, k = p + 1 := ⟨k - 1, by omega⟩
        have u1 : IntKind.i64.wrap ((k : Int) - 1) = (p : Int) := by rw [IntWalk.i64_in _ (by omega)]; omega
        have e0 : ((k : Int) == 0) = false := by simp; omega
        have hpl : p < ys.length := by omega
        have HX3 := Lib.hid (HST.out.snocp hp HPW.out hlt hpl)
        have HY3 := Lib.hid (HST.out.skipp hp hlt hpl)
        have HCp : Hid (∀ W, Ext wr W → W.cell? (ad.add (p * 3)) = some (.int .i64 ys[p].a) ∧ W.cell? ⟨(ad.add (p * 3)).block, (ad.add (p * 3)).off + 1, none⟩ = some (.int .i64 ys[p].b) ∧ W.cell? ⟨(ad.add (p * 3)).block, (ad.add (p * 3)).off + 2, none⟩ = some (.int .i64 ys[p].c)) := fun W hW => by
          obtain ⟨ad', ha, h⟩ := RdE.three (show RdE Tn.cs W (some ad) ys from R3.out.ext hW) (i := p) (by omega)
          cases ha
          exact h
        have p1 : (p : Int) < (ys.length : Int) := by omega
        clear h0 hp R3 HST
        generalize ys[k] = x at *
        generalize ys[p] = y at *
        by_cases hxy : x = y
        · have HT := Lib.hid (HY3.out hxy)
          have hne := neTn x y
          rw [decide_eq_true hxy] at hne
          clear HX3 HY3 hxy
          go_wp2_with (first
            | ((with_reducible show wpList _ _ _ ({ dst := some 6, op := Op.alloc 93, type := _, pos := _, after := _, guard := _ } :: _) _ _); refine alA _ rfl 93 rfl _ _ zero_turn ?_; intro g5 w5 hg hs1 k3 e3; have X5 := Lib.hid k3; have T5 := Lib.hid e3; have G5 := Lib.hid (Nat.le_of_eq hg); clear hg hs1 k3 e3)
            | ((with_reducible show wpList _ _ _ ({ dst := none, op := Op.store 93 _ _, type := _, pos := _, after := _, guard := _ } :: _) _ _); refine stA _ rfl 93 93 _ _ rfl g5 _ (tnV x) rfl rfl X5.out size_turn rfl (tnV_one _) ?_; intro w6 hs k4 g4; have T6 := Lib.hid (show Ext wr w6 from T5.out.grown g4 (fun k hk => by injection hk with hk; have := G5.out; omega)); have X6 := Lib.hid k4; obtain ⟨y0, y1, y2⟩ := tn_cells k4; clear hs k4 g4 x0 x1 x2; obtain ⟨z0, z1, z2⟩ := HCp.out _ T6.out))
          go_quiet (fail)
          have E7 := Lib.hid (E3.out.trans (T6.out.drewN nq))
          have O7 := Lib.hid ((O3.out.ext T6.out).ext ((Ext.refl _).drewN nq))
          go_wp2_with fail
          go_roundw
          case rel => exact ⟨k + 1, A3, c3, out, by omega, by go_num, rfl, by have := HOL.out; omega, HT.out, O7.out, E7.out⟩
          case measure => simp [intOf]; omega
        · have HX2 := Lib.hid (HX3.out hxy)
          have hne := neTn x y
          rw [decide_eq_false hxy] at hne
          have hol : out.length ≤ 100000 := by have := HOL.out; omega
          clear HX3 HY3 hxy
          go_wp2_with (first
            | ((with_reducible show wpList _ _ _ ({ dst := some 6, op := Op.alloc 93, type := _, pos := _, after := _, guard := _ } :: _) _ _); refine alA _ rfl 93 rfl _ _ zero_turn ?_; intro g5 w5 hg hs1 k3 e3; have X5 := Lib.hid k3; have T5 := Lib.hid e3; have G5 := Lib.hid (Nat.le_of_eq hg); clear hg hs1 k3 e3)
            | ((with_reducible show wpList _ _ _ ({ dst := none, op := Op.store 93 _ _, type := _, pos := _, after := _, guard := _ } :: _) _ _); refine stA _ rfl 93 93 _ _ rfl g5 _ (tnV x) rfl rfl X5.out size_turn rfl (tnV_one _) ?_; intro w6 hs k4 g4; have T6 := Lib.hid (show Ext wr w6 from T5.out.grown g4 (fun k hk => by injection hk with hk; have := G5.out; omega)); have X6 := Lib.hid k4; obtain ⟨y0, y1, y2⟩ := tn_cells k4; clear hs k4 g4 x0 x1 x2; obtain ⟨z0, z1, z2⟩ := HCp.out _ T6.out))
          go_quiet (fail)
          have T7 := Lib.hid (T6.out.drewN nq); have O7 := Lib.hid ((O3.out.ext T6.out).ext ((Ext.refl _).drewN nq)); have X7 := Lib.hid (X6.out.drewN nq); have E7 := Lib.hid (E3.out.trans T7.out); generalize w6.drewN nq = w7 at *; clear y0 y1 y2; obtain ⟨y0, y1, y2⟩ := tn_cells X7.out
          clear z0 z1 z2
          go_wp2_with (at_builtin; refine appV _ rfl (.tmp 29) (.tmp 31) 91 rfl 93 (.agg #[.int .i64 0, .int .i64 0, .int .i64 0]) 3 24 Try.underlying91 info_turn rfl (by decide) w2.heap.size A3 out.length c3 (out.flatMap Tn.cs) rfl ⟨w7.heap.size, 0, none⟩ 1 1 x.cs rfl ?_ (O7.out.ext ((Ext.refl _).alloc _)) rfl (cells_new w7 _ _) (tn_one1 x) (by omega) (by omega) (by have := E7.out.size; simp; omega); intro A8 c8 w8 h8 g8 b8; have E8 := Lib.hid (own_base E7.out O7.out ((Ext.refl _).alloc _) (Nat.le_refl _) g8); have O8 := Lib.hid h8; clear h8 g8 b8 y0 y1 y2)
          go_roundw
          case rel => exact ⟨k + 1, A8, c8, out ++ [x], by omega, by go_num, by simp, by have := HOL.out; rw [List.length_append, List.length_singleton]; omega, HX2.out, by simpa using O8.out, E8.out⟩
          case measure => simp [intOf]; omega
    · have HE : Hid (out = sortT xs) := HFIN.out out (by have := HST.out; rwa [List.take_of_length_le (by omega)] at this)
      have hkn : ¬ (k : Int) < (ys.length : Int) := by omega
      go_wp2_with fail
      go_ret
      have he := HE.out
      subst he
      exact ⟨A3, c3, rfl, O3.out.lower (by have := E2.out.size; omega), E2.out.trans E3.out⟩
end Go.Proofs.Ytlgngnkaiidbeaa
