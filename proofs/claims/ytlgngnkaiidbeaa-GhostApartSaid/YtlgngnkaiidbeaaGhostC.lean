/- ghost.search, Find, Rise; ref37.Less, Rise, Find, Large. -/
import Derived.Test.YtlgngnkaiidbeaaGhostB
set_option maxRecDepth 100000
set_option linter.unusedVariables false
set_option linter.unusedSimpArgs false
namespace Go.Proofs.Ytlgngnkaiidbeaa
open Go.RowKit

theorem gsearch_calls (A : Option Addr) (c : Nat) (xs : List Gh) (k : GK) (w : World) (hb : RdE Gh.cs w A xs) (hl : xs.length ≤ 100000) (hr : Rz xs) :
    Calls Try.prog 77 #[.slice A xs.length c, .string k.1, .int .u64 (k.2 : Int)] w (RetV w (.tuple #[.int .i64 (posG xs k), .bool (thG xs k)])) := by
  have HS : Hid (∀ W, Ext w W → Calls Try.prog 109 #[.slice A xs.length c, .agg #[.string k.1, .int .u64 (k.2 : Int), .int .u64 0, .int .u64 0, .int .u64 0], .func (.func 75) #[] #[]] W (RetV W (.tuple #[.int .i64 (posG xs k), .bool (thG xs k)]))) := fun W e => bsearchG_calls A c xs k W (RdE.ext hb e) hl hr
  clear hb hr
  generalize posG xs k = p at *
  generalize thG xs k = th at *
  go_enter Try.func77, Try.ntmps77
  go_wp2_with fail
  refine (HS.out _ (Ext.refl _)).mono ?_
  rintro e w1 ⟨rfl, e1⟩
  have E1 := Lib.hid e1
  clear e1
  go_wp2_with fail
  go_ret2
  exact ⟨rfl, E1.out⟩
set_option maxHeartbeats 4000000 in
theorem gfind_calls (A : Option Addr) (c : Nat) (xs : List Gh) (k : GK) (w : World) (hb : RdE Gh.cs w A xs) (hl : xs.length ≤ 100000) (hr : Rz xs) :
    Calls Try.prog 33 #[.slice A xs.length c, .string k.1, .int .u64 (k.2 : Int)] w (RetV w (.agg (ghV (lookG xs k)))) := by
  have HB := Lib.hid hb
  have HS : Hid (∀ W, Ext w W → _) := fun W e => gsearch_calls A c xs k W (RdE.ext hb e) hl hr
  clear hb
  cases ht : thG xs k with
  | true =>
    obtain ⟨hp, hv, hkk⟩ := look_there hr ht
    rw [ht] at HS
    have HV := Lib.hid hv
    obtain ⟨ad, rfl, hx⟩ := RdE.fiveW HB.out hp
    have HX := Lib.hid hx
    have k1 : (posG xs k : Int) < (xs.length : Int) := by omega
    clear hv ht hx hr hkk
    generalize xs[posG xs k] = x at *
    clear hp
    generalize posG xs k = p at *
    go_enter Try.func33, Try.ntmps33
    go_wp2_with ((with_reducible show wpList _ _ _ ({ dst := some 6, op := Op.alloc 50, type := _, pos := _, after := _, guard := _ } :: _) _ _); refine alA _ rfl 50 rfl _ _ zero_gh ?_; intro g6 w6 hg hs1 k3 e3; have X6 := Lib.hid k3; have T6 := Lib.hid e3; have G6 := Lib.hid (Nat.le_of_eq hg); clear hg hs1 k3 e3)
    refine (HS.out _ T6.out).mono ?_
    rintro e w7 ⟨rfl, e7⟩
    have T7 := Lib.hid (T6.out.trans e7)
    have X7 := Lib.hid (X6.out.ext e7)
    obtain ⟨x0, x1, x2, x3, x4⟩ := HX.out w7 (T6.out.trans e7)
    clear e7
    go_wp2_with ((with_reducible show wpList _ _ _ ({ dst := none, op := Op.store 50 _ _, type := _, pos := _, after := _, guard := _ } :: _) _ _); refine stA _ rfl 50 50 _ _ rfl g6 _ (ghV x) rfl rfl X7.out size_gh rfl (ghV_one _) ?_; intro w8 hs k4 q4; have T8 := Lib.hid (show Ext w w8 from (T7.out).grown q4 (fun k hk => by injection hk with hk; have := G6.out; omega)); have X8 := Lib.hid k4; clear hs k4 q4)
    exact ret_row Try.results33 g6 _ _ _ rfl X8.out Try.underlying50 rfl size_gh ⟨by rw [HV.out], T8.out⟩
  | false =>
    have HV := Lib.hid (look_none ht)
    rw [ht] at HS
    clear ht hr
    generalize posG xs k = p at *
    go_enter Try.func33, Try.ntmps33
    go_wp2_with ((with_reducible show wpList _ _ _ ({ dst := some 6, op := Op.alloc 50, type := _, pos := _, after := _, guard := _ } :: _) _ _); refine alA _ rfl 50 rfl _ _ zero_gh ?_; intro g6 w6 hg hs1 k3 e3; have X6 := Lib.hid k3; have T6 := Lib.hid e3; have G6 := Lib.hid (Nat.le_of_eq hg); clear hg hs1 k3 e3)
    refine (HS.out _ T6.out).mono ?_
    rintro e w7 ⟨rfl, e7⟩
    have T7 := Lib.hid (T6.out.trans e7)
    have X7 := Lib.hid (X6.out.ext e7)
    clear e7
    go_wp2_with ((with_reducible show wpList _ _ _ ({ dst := none, op := Op.store 50 _ _, type := _, pos := _, after := _, guard := _ } :: _) _ _); refine stA _ rfl 50 50 _ _ rfl g6 _ (ghV (ghNone k)) rfl rfl X7.out size_gh rfl (ghV_one _) ?_; intro w8 hs k4 q4; have T8 := Lib.hid (show Ext w w8 from (T7.out).grown q4 (fun k hk => by injection hk with hk; have := G6.out; omega)); have X8 := Lib.hid k4; clear hs k4 q4)
    exact ret_row Try.results33 g6 _ _ _ rfl X8.out Try.underlying50 rfl size_gh ⟨by rw [HV.out], T8.out⟩
/-- they stand in their order, as a test -/
def riseG (l : List Gh) : Bool := (List.range (l.length - 1)).all (fun i => match l[i]?, l[i + 1]? with
  | some a, some b => decide (cG a.k b.k < 0)
  | _, _ => true)
theorem rise_iff (l : List Gh) : riseG l = true ↔ Rz l := by
  rw [rz_adj]
  unfold riseG
  rw [List.all_eq_true]
  constructor
  · intro h i hi
    have := h i (List.mem_range.2 (by omega))
    rw [List.getElem?_eq_getElem (by omega), List.getElem?_eq_getElem hi] at this
    exact of_decide_eq_true this
  · intro h i hi
    rw [List.mem_range] at hi
    rw [List.getElem?_eq_getElem (by omega), List.getElem?_eq_getElem (by omega)]
    exact decide_eq_true (h i (by omega))
theorem rise_not {l : List Gh} {i : Nat} (h : i + 1 < l.length) (hc : 0 ≤ cG l[i].k l[i + 1].k) : riseG l = false := by
  cases hr : riseG l with
  | false => rfl
  | true =>
    have := (rz_adj l).1 ((rise_iff l).1 hr) i h
    omega
theorem rise_yes {l : List Gh} (h : ∀ i (h : i + 1 < l.length), cG l[i].k l[i + 1].k < 0) : riseG l = true := (rise_iff l).2 ((rz_adj l).2 h)
set_option maxHeartbeats 4000000 in
theorem grise_calls (A : Option Addr) (c : Nat) (xs : List Gh) (w : World) (hb : RdE Gh.cs w A xs) (hl : xs.length ≤ 100000) :
    Calls Try.prog 31 #[.slice A xs.length c] w (RetV w (.bool (riseG xs))) := by
  have HB := Lib.hid hb
  clear hb
  go_enter Try.func31, Try.ntmps31
  go_wp2_with fail
  go_loopw [3] (fun i wr => ∃ k : Nat, i = .int .i64 ((k + 1 : Nat) : Int) ∧ k ≤ xs.length ∧ (∀ i (h : i + 1 < xs.length), i < k → cG xs[i].k xs[i + 1].k < 0) ∧ Ext w wr) (fun i _ => (xs.length + 1 - (intOf i).toNat))
  case atStart => exact ⟨0, rfl, by omega, fun i h h2 => by omega, Ext.refl _⟩
  case round =>
    obtain ⟨k, rfl, hk, hn, hE⟩ := hrel
    have HN := Lib.hid hn
    have E0 := Lib.hid hE
    clear hn hE
    by_cases hlt : k + 1 < xs.length
    · have k1 : ((k + 1 : Nat) : Int) < (xs.length : Int) := by omega
      have hk0 : k < xs.length := by omega
      have k2 : (k : Int) < (xs.length : Int) := by omega
      have u1 : IntKind.i64.wrap (((k + 1 : Nat) : Int) - 1) = (k : Int) := by rw [IntWalk.i64_in _ (by omega)]; omega
      have u2 : IntKind.i64.wrap ((k : Int) + 1 - 1) = (k : Int) := by rw [IntWalk.i64_in _ (by omega)]; omega
      have k3 : (0 : Int) ≤ (k : Int) + 1 := by omega
      have k4 : (k : Int) + 1 < (xs.length : Int) := by omega
      have u3 : IntKind.i64.wrap (k : Int) = (k : Int) := by rw [IntWalk.i64_in _ (by omega)]
      obtain ⟨ad, rfl, hx⟩ := RdE.fiveW HB.out hk0
      obtain ⟨ad', had, hy⟩ := RdE.fiveW HB.out hlt
      cases had
      have HX := Lib.hid hx
      have HY := Lib.hid hy
      have HC2 : Hid (∀ W, Ext wr W → Calls Try.prog 75 #[.agg (ghV xs[k]), .agg (ghV xs[k + 1])] W (RetV W (.int .i64 (cG xs[k].k xs[k + 1].k)))) := fun W _ => gcmp_calls _ _ W
      have HR := Lib.hid (@rise_not xs k hlt)
      have HN2 : Hid (cG xs[k].k xs[k + 1].k < 0 → ∀ i (h : i + 1 < xs.length), i < k + 1 → cG xs[i].k xs[i + 1].k < 0) := fun hc i h h2 => by
        rcases Nat.lt_or_ge i k with h3 | h3
        · exact HN.out i h h3
        · obtain rfl : i = k := by omega
          exact hc
      clear hx hy
      generalize xs[k] = x at *
      generalize xs[k + 1] = y at *
      have KS : Hid (∀ W, Ext wr W → _ ∧ _) := fun W e => ⟨HX.out W (E0.out.trans e), HY.out W (E0.out.trans e)⟩
      clear HX HY
      generalize cG x.k y.k = v at *
      unfold ghV at HC2
      by_cases hv : 0 ≤ v
      · have HF := Lib.hid (HR.out hv)
        have q1 : decide (0 ≤ v) = true := decide_eq_true hv
        go_wp2_with fail
        refine wp_region_quietE wr (Ext.refl _) (by kernel_rfl) (by kernel_rfl) ?_
        repeat (first | (apply wpq_skip; (focus rfl); (try simp only [Act.put, List.setIfInBounds_toArray, List.set_cons_zero, List.set_cons_succ])) | ((with_reducible show QGoal _ _ _ _ ({ dst := _, op := Op.call { callee := Callee.value (Operand.func 75), args := _, argTypes := _ }, type := _, pos := _, after := _, guard := _ } :: _) _); apply wpq_call (hc := HC2.out); (focus rfl); (focus (intro W hW; go_simp; (first | done | with_reducible rfl))); (try simp only [Act.put, List.setIfInBounds_toArray, List.set_cons_zero, List.set_cons_succ])) | (apply wpq_take; (focus rfl); (focus (intro W hW; obtain ⟨⟨x0, x1, x2, x3, x4⟩, ⟨y0, y1, y2, y3, y4⟩⟩ := KS.out W hW; go_simp; (first | done | with_reducible rfl))); (try simp only [Act.put, List.setIfInBounds_toArray, List.set_cons_zero, List.set_cons_succ])))
        refine wpq_nil ?_
        intro w7 e7
        have E7 := Lib.hid (E0.out.trans e7)
        clear e7
        go_wp2_with fail
        go_ret
        exact ⟨by rw [HF.out]; rfl, E7.out⟩
      · have HF := Lib.hid (HN2.out (by omega))
        have q1 : decide (0 ≤ v) = false := decide_eq_false hv
        go_wp2_with fail
        refine wp_region_quietE wr (Ext.refl _) (by kernel_rfl) (by kernel_rfl) ?_
        repeat (first | (apply wpq_skip; (focus rfl); (try simp only [Act.put, List.setIfInBounds_toArray, List.set_cons_zero, List.set_cons_succ])) | ((with_reducible show QGoal _ _ _ _ ({ dst := _, op := Op.call { callee := Callee.value (Operand.func 75), args := _, argTypes := _ }, type := _, pos := _, after := _, guard := _ } :: _) _); apply wpq_call (hc := HC2.out); (focus rfl); (focus (intro W hW; go_simp; (first | done | with_reducible rfl))); (try simp only [Act.put, List.setIfInBounds_toArray, List.set_cons_zero, List.set_cons_succ])) | (apply wpq_take; (focus rfl); (focus (intro W hW; obtain ⟨⟨x0, x1, x2, x3, x4⟩, ⟨y0, y1, y2, y3, y4⟩⟩ := KS.out W hW; go_simp; (first | done | with_reducible rfl))); (try simp only [Act.put, List.setIfInBounds_toArray, List.set_cons_zero, List.set_cons_succ])))
        refine wpq_nil ?_
        intro w7 e7
        have E7 := Lib.hid (E0.out.trans e7)
        clear e7
        go_wp2_with fail
        go_roundw
        case rel => exact ⟨k + 1, by go_num, by omega, HF.out, E7.out⟩
        case measure => simp [intOf]; omega
    · have k1 : ¬ ((k + 1 : Nat) : Int) < (xs.length : Int) := by omega
      have HF := Lib.hid (rise_yes (fun i h => HN.out i h (by omega)))
      go_wp2_with fail
      go_ret
      exact ⟨by rw [HF.out]; rfl, E0.out⟩
end Go.Proofs.Ytlgngnkaiidbeaa
