/- share.Choose; ref30.Less, Sort, Choose, Same. -/
import Derived.Test.YtlgngnkaiidbeaaShareE
import Derived.Test.YtlgngnkaiidbeaaAppW
import Derived.Test.YtlgngnkaiidbeaaQuietE
import Derived.Test.YtlgngnkaiidbeaaPickA
import Derived.Test.YtlgngnkaiidbeaaPickB
set_option maxRecDepth 100000
set_option exponentiation.threshold 3000
set_option linter.unusedVariables false
set_option linter.unusedSimpArgs false
namespace Go.Proofs.Ytlgngnkaiidbeaa
open Go.RowKit Go.Shelf

theorem ret_rowT {P : Program} {fn : Func} {p u : Tmp} {ty : TypeId} {w : World} {tmps : Array Value} {R : Ending → World → Prop} (h : fn.results = #[.cell p ty, .tmp u]) (g : Nat) (t : TypeId) (cs : Array Value) (d : TypeDesc) (x : Value)
    (hp : tmps.getD p undef = .pointer (some ⟨g, 0, none⟩)) (hx : tmps.getD u undef = x) (hg : Arr w g t cs)
    (hu : P.underlying ty = some d) (hd : (match d with | .struct _ | .array _ _ => true | _ => false) = true) (hi : (P.info? ty).map (·.size) = some cs.size)
    (hR : R (.returned (.tuple #[.agg cs, x])) w) : bodyPost P fn R Exit.ret { tmps := tmps, defers := [] } w := by
  refine bodyPost_ret (v := .tuple #[.agg cs, x]) ?_ rfl hR
  rw [results_cell_tmp h]
  simp only [hp, hx, asAddr, Sem.run_pure, Result.andThen_ok, run_loadVar_row w g t ty cs (0, 0) d hg hu hd hi]
theorem ret_bool {a b : Bool} (h : a = b) : Ending.returned (.bool a) = .returned (.bool b) := by rw [h]

/-- the turn that a fraction chooses -/
def choT (xs : List Tn) (x : Nat) : Tn × Bool := match (sortT xs)[(pickN x (sortT xs).length).toNat]? with
  | some t => (t, true)
  | none => (⟨0, 0, 0⟩, false)
theorem choT_nil {xs : List Tn} {x : Nat} (h : sortT xs = []) : choT xs x = (⟨0, 0, 0⟩, false) := by unfold choT; rw [h]; rfl
theorem choT_some {xs : List Tn} {x P : Nat} (hP : pickN x (sortT xs).length = (P : Int)) (h : P < (sortT xs).length) : choT xs x = ((sortT xs)[P], true) := by
  unfold choT
  rw [hP, Int.toNat_natCast, List.getElem?_eq_getElem h]
theorem choT_mem {xs : List Tn} {x : Nat} (hb : (choT xs x).2 = true) : (choT xs x).1 ∈ xs := by
  unfold choT at *
  cases hq : (sortT xs)[(pickN x (sortT xs).length).toNat]? with
  | none => rw [hq] at hb; cases hb
  | some t => exact ((sortT_strict xs).2 t).1 (List.mem_of_getElem? hq)
theorem own_none_cap {w : World} {base : Nat} {e : TypeId} {size n c : Nat} {xs : List Value} (h : OwnV w base e size none n c xs) : c = 0 := by
  rcases h.2 with ⟨hv, _⟩ | ⟨g, cap, cur, hv, _⟩
  · injection hv
  · injection hv with hA; cases hA

set_option maxHeartbeats 4000000 in
theorem schoose_calls (A : Option Addr) (c : Nat) (xs : List Tn) (x : Nat) (w : World) (hb : RdE Tn.cs w A xs) (hl : xs.length ≤ 100000) (hn0 : A = none → c = 0) (hx : x < 18446744073709551616) :
    Calls Try.prog 59 #[.slice A xs.length c, .int .u64 (x : Int)] w fun e w' => e = .returned (.tuple #[.agg (tnV (choT xs x).1), .bool (choT xs x).2]) ∧ Ext w w' := by
  have HS : Hid (∀ W, Ext w W → _) := fun W e => ssortT_calls A c xs W (hb.ext e) hl hn0
  have HL := Lib.hid (Nat.le_trans (sortT_len xs) hl)
  have HCN := Lib.hid (@choT_nil xs x)
  have HCS : Hid (∀ (P : Nat) (hP : pickN x (sortT xs).length = (P : Int)) (h : P < (sortT xs).length), choT xs x = ((sortT xs)[P], true)) := fun P hP h => choT_some hP h
  clear hb hn0 hl
  generalize choT xs x = V at *
  generalize hS : sortT xs = S at *
  clear hS
  go_enter Try.func59, Try.ntmps59
  go_wp2_with ((with_reducible show wpList _ _ _ ({ dst := some 4, op := Op.alloc 93, type := _, pos := _, after := _, guard := _ } :: _) _ _); refine alA _ rfl 93 rfl _ _ zero_turn ?_; intro g5 w5 hg hs1 k3 e3; have X5 := Lib.hid k3; have T5 := Lib.hid e3; have G5 := Lib.hid (Nat.le_of_eq hg); clear hg hs1 k3 e3)
  refine (HS.out _ T5.out).mono ?_
  rintro e w6 ⟨A1, c1, rfl, o1, e1⟩
  have E1 := Lib.hid e1
  have E6 := Lib.hid (T5.out.trans e1)
  have X6 := Lib.hid (X5.out.ext e1)
  have R6 := Lib.hid (show RdE Tn.cs w6 A1 S from o1.rd)
  clear o1 e1 X5 HS
  have hsl : S.length ≤ 100000 := HL.out
  by_cases h0 : S = []
  · have HV0 := Lib.hid (HCN.out h0)
    clear HCN HCS
    subst h0
    have HPK : Hid (∀ W, Calls Try.prog 25 #[.int .u64 (x : Int), .int .i64 0] W fun e w' => e = .returned (.int .i64 (-1)) ∧ W = w') := fun W => by
      have h := pick_calls x 0 W hx (by omega) (by omega)
      have hp : pickN x 0 = -1 := by unfold pickN; rw [if_pos (by omega)]
      rw [hp] at h
      exact h
    go_wp2_with fail
    refine (HPK.out _).mono ?_
    rintro e w' ⟨rfl, rfl⟩
    go_wp2_with ((with_reducible show wpList _ _ _ ({ dst := none, op := Op.store 93 _ _, type := _, pos := _, after := _, guard := _ } :: _) _ _); refine stA _ rfl 93 93 _ _ rfl g5 _ (tnV ⟨0, 0, 0⟩) rfl rfl X6.out size_turn rfl (tnV_one _) ?_; intro w7 hs k4 g4; have T7 := Lib.hid (show Ext w w7 from E6.out.grown g4 (fun k hk => by injection hk with hk; have := G5.out; omega)); have X7 := Lib.hid k4; clear hs k4 g4)
    exact ret_rowT Try.results59 g5 _ _ _ _ rfl rfl X7.out Try.underlying93 rfl size_turn ⟨by rw [HV0.out]; rfl, T7.out⟩
  · have hpos : 0 < S.length := List.length_pos_iff.2 h0
    obtain ⟨P, hP⟩ : ∃ P : Nat, pickN x (S.length : Int) = (P : Int) := ⟨(pickN x (S.length : Int)).toNat, by have := pick_rng (n := (S.length : Int)) hx (by omega); omega⟩
    have hPn : P < S.length := by have := pick_rng (n := (S.length : Int)) hx (by omega); omega
    have HPK : Hid (∀ W, Calls Try.prog 25 #[.int .u64 (x : Int), .int .i64 (S.length : Int)] W fun e w' => e = .returned (.int .i64 (P : Int)) ∧ W = w') := fun W => by
      have h := pick_calls x (S.length : Int) W hx (by omega) (by omega)
      rw [hP] at h
      exact h
    have HV := Lib.hid (HCS.out P hP hPn)
    obtain ⟨ad, rfl, x0, x1, x2⟩ := RdE.three R6.out hPn
    clear h0 hP HCN HCS hx
    generalize S[P] = t at *
    go_wp2_with fail
    refine (HPK.out _).mono ?_
    rintro e w' ⟨rfl, rfl⟩
    go_wp2_with ((with_reducible show wpList _ _ _ ({ dst := none, op := Op.store 93 _ _, type := _, pos := _, after := _, guard := _ } :: _) _ _); refine stA _ rfl 93 93 _ _ rfl g5 _ (tnV t) rfl rfl X6.out size_turn rfl (tnV_one _) ?_; intro w7 hs k4 g4; have T7 := Lib.hid (show Ext w w7 from E6.out.grown g4 (fun k hk => by injection hk with hk; have := G5.out; omega)); have X7 := Lib.hid k4; clear hs k4 g4)
    exact ret_rowT Try.results59 g5 _ _ _ _ rfl rfl X7.out Try.underlying93 rfl size_turn ⟨by rw [HV.out]; rfl, T7.out⟩

set_option maxHeartbeats 2000000 in
theorem tless_calls (x y : Tn) (w : World) : Calls Try.prog 97 #[.agg #[.int .i64 x.a, .int .i64 x.b, .int .i64 x.c], .agg #[.int .i64 y.a, .int .i64 y.b, .int .i64 y.c]] w (RetV w (.bool (decide (ltT x y)))) := by
  have HV : Hid (decide (ltT x y) = if x.a = y.a then (if x.b = y.b then decide (x.c < y.c) else decide (x.b < y.b)) else decide (x.a < y.a)) := by
    show _ = _
    by_cases h1 : x.a = y.a
    · rw [if_pos h1]
      by_cases h2 : x.b = y.b
      · rw [if_pos h2, Bool.eq_iff_iff]; simp only [decide_eq_true_eq, ltT_iff]; omega
      · rw [if_neg h2, Bool.eq_iff_iff]; simp only [decide_eq_true_eq, ltT_iff]; omega
    · rw [if_neg h1, Bool.eq_iff_iff]; simp only [decide_eq_true_eq, ltT_iff]; omega
  generalize decide (ltT x y) = V at *
  by_cases h1 : x.a = y.a
  · have q1 : (x.a != y.a) = false := by simp [h1]
    have HV1 := Lib.hid (HV.out.trans (if_pos h1))
    by_cases h2 : x.b = y.b
    · have q2 : (x.b != y.b) = false := by simp [h2]
      have HV2 := Lib.hid (HV1.out.trans (if_pos h2))
      clear HV HV1 h1 h2
      go_enter Try.func97, Try.ntmps97
      go_wp2_with (first | ((with_reducible show wpList _ _ _ ({ dst := some 2, op := Op.box 93 _, type := _, pos := _, after := _, guard := _ } :: _) _ _); refine bxA _ rfl 93 _ rfl _ rfl ?_; intro g1 w1 hg hs1 k1 e1; have X1 := Lib.hid (show Arr w1 g1 93 (tnV x) from k1); have E1 := Lib.hid e1; clear hg hs1 k1 e1) | ((with_reducible show wpList _ _ _ ({ dst := some 3, op := Op.box 93 _, type := _, pos := _, after := _, guard := _ } :: _) _ _); refine bxA _ rfl 93 _ rfl _ rfl ?_; intro g2 w2 hg hs1 k1 e1; have E2 := Lib.hid (E1.out.trans e1); obtain ⟨x0, x1, x2⟩ := tn_cells (X1.out.ext e1); obtain ⟨y0, y1, y2⟩ := tn_cells (show Arr w2 g2 93 (tnV y) from k1); clear hg hs1 k1 e1))
      go_ret
      exact ⟨ret_bool HV2.out.symm, E2.out⟩
    · have q2 : (x.b != y.b) = true := by simp [h2]
      have HV2 := Lib.hid (HV1.out.trans (if_neg h2))
      clear HV HV1 h1 h2
      go_enter Try.func97, Try.ntmps97
      go_wp2_with (first | ((with_reducible show wpList _ _ _ ({ dst := some 2, op := Op.box 93 _, type := _, pos := _, after := _, guard := _ } :: _) _ _); refine bxA _ rfl 93 _ rfl _ rfl ?_; intro g1 w1 hg hs1 k1 e1; have X1 := Lib.hid (show Arr w1 g1 93 (tnV x) from k1); have E1 := Lib.hid e1; clear hg hs1 k1 e1) | ((with_reducible show wpList _ _ _ ({ dst := some 3, op := Op.box 93 _, type := _, pos := _, after := _, guard := _ } :: _) _ _); refine bxA _ rfl 93 _ rfl _ rfl ?_; intro g2 w2 hg hs1 k1 e1; have E2 := Lib.hid (E1.out.trans e1); obtain ⟨x0, x1, x2⟩ := tn_cells (X1.out.ext e1); obtain ⟨y0, y1, y2⟩ := tn_cells (show Arr w2 g2 93 (tnV y) from k1); clear hg hs1 k1 e1))
      go_ret
      exact ⟨ret_bool HV2.out.symm, E2.out⟩
  · have q1 : (x.a != y.a) = true := by simp [h1]
    have HV2 := Lib.hid (HV.out.trans (if_neg h1))
    clear HV h1
    go_enter Try.func97, Try.ntmps97
    go_wp2_with (first | ((with_reducible show wpList _ _ _ ({ dst := some 2, op := Op.box 93 _, type := _, pos := _, after := _, guard := _ } :: _) _ _); refine bxA _ rfl 93 _ rfl _ rfl ?_; intro g1 w1 hg hs1 k1 e1; have X1 := Lib.hid (show Arr w1 g1 93 (tnV x) from k1); have E1 := Lib.hid e1; clear hg hs1 k1 e1) | ((with_reducible show wpList _ _ _ ({ dst := some 3, op := Op.box 93 _, type := _, pos := _, after := _, guard := _ } :: _) _ _); refine bxA _ rfl 93 _ rfl _ rfl ?_; intro g2 w2 hg hs1 k1 e1; have E2 := Lib.hid (E1.out.trans e1); obtain ⟨x0, x1, x2⟩ := tn_cells (X1.out.ext e1); obtain ⟨y0, y1, y2⟩ := tn_cells (show Arr w2 g2 93 (tnV y) from k1); clear hg hs1 k1 e1))
    go_ret
    exact ⟨ret_bool HV2.out.symm, E2.out⟩
end Go.Proofs.Ytlgngnkaiidbeaa
