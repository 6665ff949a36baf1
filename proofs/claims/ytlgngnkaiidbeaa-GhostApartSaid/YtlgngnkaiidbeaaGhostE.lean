/- ghost.Send, Raise, Lose; ref37.Less, Rise, Find, Large; equality of ghosts. -/
import Derived.Test.YtlgngnkaiidbeaaGhostD
import Derived.Laws.StructEq
set_option maxRecDepth 100000
set_option linter.unusedVariables false
set_option linter.unusedSimpArgs false
namespace Go.Proofs.Ytlgngnkaiidbeaa
open Go.RowKit

/-- ghosts in a row of the call's own are handed back -/
def RetGs (w : World) (ys : List Gh) (e : Ending) (w' : World) : Prop := ∃ A c, e = .returned (.slice A ys.length c) ∧ OwnV w' w.heap.size 50 5 A ys.length c (ys.flatMap Gh.cs) ∧ Ext w w'
theorem eg_send : ∀ args w, (callFunc 106 args).run Try.prog w = .ok (.enter 106 args) w := enters_of Try.func106 (by kernel_rfl) rfl
theorem eg_raise : ∀ args w, (callFunc 110 args).run Try.prog w = .ok (.enter 110 args) w := enters_of Try.func110 (by kernel_rfl) rfl
theorem eg_lose : ∀ args w, (callFunc 104 args).run Try.prog w = .ok (.enter 104 args) w := enters_of Try.func104 (by kernel_rfl) rfl
theorem gsend_calls (A : Option Addr) (c : Nat) (xs : List Gh) (k : GK) (n : Nat) (w : World) (hb : RdE Gh.cs w A xs) (hl : xs.length ≤ 900) (hr : Rz xs) (hn0 : A = none → c = 0) (hok : ∀ x ∈ xs, x.ok) (hk : k.2 < 18446744073709551616) (hn : n < 18446744073709551616) :
    Calls Try.prog 74 #[.slice A xs.length c, .string k.1, .int .u64 (k.2 : Int), .int .u64 (n : Int)] w (RetGs w (chG xs k (fSend n))) := by
  have HCH : Hid (∀ (W : World) (gn : Nat), Ext w W → W.cell? ⟨gn, 0, none⟩ = some (.int .u64 (n : Int)) → Calls Try.prog 103 #[.slice A xs.length c, .string k.1, .int .u64 (k.2 : Int), .func (.func 106) #[] #[.pointer (some ⟨gn, 0, none⟩)]] W (RetGs W (chG xs k (fSend n)))) := fun W gn e h0 => gchange_calls A c xs k 106 #[.pointer (some ⟨gn, 0, none⟩)] (fSend n) W eg_send (RdE.ext hb e) hl hr hn0 (send_by gn n W h0 hn) hok hk; clear hb hr hn0 hok
  generalize chG xs k (fSend n) = R at *
  go_enter Try.func74, Try.ntmps74
  go_wp2_with fail
  have e1 := (Ext.refl w).alloc (.cells #[.int .u64 (n : Int)] 26)
  refine (HCH.out _ w.heap.size e1 ((Arr.new w _ _).cell_some rfl)).mono ?_
  rintro e w2 ⟨A2, c2, rfl, o2, e2⟩
  have O2 := Lib.hid (o2.lower e1.size)
  have E2 := Lib.hid (e1.trans e2)
  clear o2 e2 e1
  go_wp2_with fail
  go_ret
  exact ⟨A2, c2, rfl, O2.out, E2.out⟩
theorem graise_calls (A : Option Addr) (c : Nat) (xs : List Gh) (k : GK) (n : Nat) (w : World) (hb : RdE Gh.cs w A xs) (hl : xs.length ≤ 900) (hr : Rz xs) (hn0 : A = none → c = 0) (hok : ∀ x ∈ xs, x.ok) (hk : k.2 < 18446744073709551616) (hn : n < 18446744073709551616) :
    Calls Try.prog 78 #[.slice A xs.length c, .string k.1, .int .u64 (k.2 : Int), .int .u64 (n : Int)] w (RetGs w (chG xs k (fRaise n))) := by
  have HCH : Hid (∀ (W : World) (gn : Nat), Ext w W → W.cell? ⟨gn, 0, none⟩ = some (.int .u64 (n : Int)) → Calls Try.prog 103 #[.slice A xs.length c, .string k.1, .int .u64 (k.2 : Int), .func (.func 110) #[] #[.pointer (some ⟨gn, 0, none⟩)]] W (RetGs W (chG xs k (fRaise n)))) := fun W gn e h0 => gchange_calls A c xs k 110 #[.pointer (some ⟨gn, 0, none⟩)] (fRaise n) W eg_raise (RdE.ext hb e) hl hr hn0 (raise_by gn n W h0 hn) hok hk; clear hb hr hn0 hok
  generalize chG xs k (fRaise n) = R at *
  go_enter Try.func78, Try.ntmps78
  go_wp2_with fail
  have e1 := (Ext.refl w).alloc (.cells #[.int .u64 (n : Int)] 26)
  refine (HCH.out _ w.heap.size e1 ((Arr.new w _ _).cell_some rfl)).mono ?_
  rintro e w2 ⟨A2, c2, rfl, o2, e2⟩
  have O2 := Lib.hid (o2.lower e1.size)
  have E2 := Lib.hid (e1.trans e2)
  clear o2 e2 e1
  go_wp2_with fail
  go_ret
  exact ⟨A2, c2, rfl, O2.out, E2.out⟩
theorem glose_calls (A : Option Addr) (c : Nat) (xs : List Gh) (k : GK) (n : Nat) (w : World) (hb : RdE Gh.cs w A xs) (hl : xs.length ≤ 900) (hr : Rz xs) (hn0 : A = none → c = 0) (hok : ∀ x ∈ xs, x.ok) (hk : k.2 < 18446744073709551616) (hn : n < 18446744073709551616) :
    Calls Try.prog 73 #[.slice A xs.length c, .string k.1, .int .u64 (k.2 : Int), .int .u64 (n : Int)] w (RetGs w (chG xs k (fLose n))) := by
  have HCH : Hid (∀ (W : World) (gn : Nat), Ext w W → W.cell? ⟨gn, 0, none⟩ = some (.int .u64 (n : Int)) → Calls Try.prog 103 #[.slice A xs.length c, .string k.1, .int .u64 (k.2 : Int), .func (.func 104) #[] #[.pointer (some ⟨gn, 0, none⟩)]] W (RetGs W (chG xs k (fLose n)))) := fun W gn e h0 => gchange_calls A c xs k 104 #[.pointer (some ⟨gn, 0, none⟩)] (fLose n) W eg_lose (RdE.ext hb e) hl hr hn0 (lose_by gn n W h0 hn) hok hk; clear hb hr hn0 hok
  generalize chG xs k (fLose n) = R at *
  go_enter Try.func73, Try.ntmps73
  go_wp2_with fail
  have e1 := (Ext.refl w).alloc (.cells #[.int .u64 (n : Int)] 26)
  refine (HCH.out _ w.heap.size e1 ((Arr.new w _ _).cell_some rfl)).mono ?_
  rintro e w2 ⟨A2, c2, rfl, o2, e2⟩
  have O2 := Lib.hid (o2.lower e1.size)
  have E2 := Lib.hid (e1.trans e2)
  clear o2 e2 e1
  go_wp2_with fail
  go_ret
  exact ⟨A2, c2, rfl, O2.out, E2.out⟩
theorem ret_boolG {a b : Bool} (h : a = b) : Ending.returned (.bool a) = .returned (.bool b) := by rw [h]
set_option maxHeartbeats 2000000 in
theorem rless_calls (x y : Gh) (w : World) : Calls Try.prog 76 #[.agg (ghV x), .agg (ghV y)] w (RetV w (.bool (decide (cG x.k y.k < 0)))) := by
  have l1 : Op.bytesLess x.t.toList y.t.toList = decide (cB x.t.data.toList y.t.data.toList < 0) := by rw [ByteArray.toList_eq, ByteArray.toList_eq]; exact less_cB _ _
  have l2 := eq_cB x.t y.t
  have HV : Hid (cG x.k y.k = if cB x.t.data.toList y.t.data.toList = 0 then cP x.p y.p else cB x.t.data.toList y.t.data.toList) := rfl
  generalize cG x.k y.k = V at *
  generalize cB x.t.data.toList y.t.data.toList = v at *
  unfold ghV
  have HP : Hid (cP x.p y.p < 0 ↔ x.p < y.p) := by
    show _ ↔ _
    unfold cP
    split
    · omega
    · split <;> omega
  by_cases h1 : v < 0
  · rw [decide_eq_true h1] at l1
    have HF : Hid (decide (V < 0) = true) := by show _ = _; rw [HV.out, if_neg (by omega)]; exact decide_eq_true h1
    clear h1 l2 HV
    go_enter Try.func76, Try.ntmps76
    go_wp2_with (first | ((with_reducible show wpList _ _ _ ({ dst := some 2, op := Op.box 50 _, type := _, pos := _, after := _, guard := _ } :: _) _ _); refine bxA _ rfl 50 _ rfl (ghV x) rfl ?_; intro g1 w1 hg hs1 k1 e1; have X1 := Lib.hid k1; have E1 := Lib.hid e1; clear hg hs1 k1 e1) | ((with_reducible show wpList _ _ _ ({ dst := some 3, op := Op.box 50 _, type := _, pos := _, after := _, guard := _ } :: _) _ _); refine bxA _ rfl 50 _ rfl (ghV y) rfl ?_; intro g2 w2 hg hs1 k1 e1; have E2 := Lib.hid (E1.out.trans e1); obtain ⟨x0, x1, x2, x3, x4⟩ := gh_cells (X1.out.ext e1); obtain ⟨y0, y1, y2, y3, y4⟩ := gh_cells k1; clear hg hs1 k1 e1))
    go_ret
    exact ⟨ret_boolG HF.out.symm, E2.out⟩
  · rw [decide_eq_false h1] at l1
    by_cases h2 : v = 0
    · rw [decide_eq_true h2] at l2
      have HF : Hid (decide (V < 0) = decide (x.p < y.p)) := by show _ = _; rw [HV.out, if_pos h2, Bool.eq_iff_iff, decide_eq_true_eq, decide_eq_true_eq]; exact HP.out
      clear h1 h2 HV HP
      by_cases h3 : x.p < y.p
      · have k3 : (x.p : Int) < (y.p : Int) := by omega
        go_enter Try.func76, Try.ntmps76
        go_wp2_with (first | ((with_reducible show wpList _ _ _ ({ dst := some 2, op := Op.box 50 _, type := _, pos := _, after := _, guard := _ } :: _) _ _); refine bxA _ rfl 50 _ rfl (ghV x) rfl ?_; intro g1 w1 hg hs1 k1 e1; have X1 := Lib.hid k1; have E1 := Lib.hid e1; clear hg hs1 k1 e1) | ((with_reducible show wpList _ _ _ ({ dst := some 3, op := Op.box 50 _, type := _, pos := _, after := _, guard := _ } :: _) _ _); refine bxA _ rfl 50 _ rfl (ghV y) rfl ?_; intro g2 w2 hg hs1 k1 e1; have E2 := Lib.hid (E1.out.trans e1); obtain ⟨x0, x1, x2, x3, x4⟩ := gh_cells (X1.out.ext e1); obtain ⟨y0, y1, y2, y3, y4⟩ := gh_cells k1; clear hg hs1 k1 e1))
        go_ret
        exact ⟨ret_boolG (by rw [HF.out]; simp [h3]), E2.out⟩
      · have k3 : ¬ (x.p : Int) < (y.p : Int) := by omega
        go_enter Try.func76, Try.ntmps76
        go_wp2_with (first | ((with_reducible show wpList _ _ _ ({ dst := some 2, op := Op.box 50 _, type := _, pos := _, after := _, guard := _ } :: _) _ _); refine bxA _ rfl 50 _ rfl (ghV x) rfl ?_; intro g1 w1 hg hs1 k1 e1; have X1 := Lib.hid k1; have E1 := Lib.hid e1; clear hg hs1 k1 e1) | ((with_reducible show wpList _ _ _ ({ dst := some 3, op := Op.box 50 _, type := _, pos := _, after := _, guard := _ } :: _) _ _); refine bxA _ rfl 50 _ rfl (ghV y) rfl ?_; intro g2 w2 hg hs1 k1 e1; have E2 := Lib.hid (E1.out.trans e1); obtain ⟨x0, x1, x2, x3, x4⟩ := gh_cells (X1.out.ext e1); obtain ⟨y0, y1, y2, y3, y4⟩ := gh_cells k1; clear hg hs1 k1 e1))
        go_ret
        exact ⟨ret_boolG (by rw [HF.out]; simp [h3]), E2.out⟩
    · rw [decide_eq_false h2] at l2
      have HF : Hid (decide (V < 0) = false) := by show _ = _; rw [HV.out, if_neg h2]; exact decide_eq_false h1
      clear h1 h2 HV HP
      go_enter Try.func76, Try.ntmps76
      go_wp2_with (first | ((with_reducible show wpList _ _ _ ({ dst := some 2, op := Op.box 50 _, type := _, pos := _, after := _, guard := _ } :: _) _ _); refine bxA _ rfl 50 _ rfl (ghV x) rfl ?_; intro g1 w1 hg hs1 k1 e1; have X1 := Lib.hid k1; have E1 := Lib.hid e1; clear hg hs1 k1 e1) | ((with_reducible show wpList _ _ _ ({ dst := some 3, op := Op.box 50 _, type := _, pos := _, after := _, guard := _ } :: _) _ _); refine bxA _ rfl 50 _ rfl (ghV y) rfl ?_; intro g2 w2 hg hs1 k1 e1; have E2 := Lib.hid (E1.out.trans e1); obtain ⟨x0, x1, x2, x3, x4⟩ := gh_cells (X1.out.ext e1); obtain ⟨y0, y1, y2, y3, y4⟩ := gh_cells k1; clear hg hs1 k1 e1))
      go_ret
      exact ⟨ret_boolG HF.out.symm, E2.out⟩
set_option maxHeartbeats 4000000 in
theorem rrise_calls (A : Option Addr) (c : Nat) (xs : List Gh) (w : World) (hb : RdE Gh.cs w A xs) (hl : xs.length ≤ 100000) :
    Calls Try.prog 32 #[.slice A xs.length c] w (RetV w (.bool (riseG xs))) := by
  have HB := Lib.hid hb
  clear hb
  go_enter Try.func32, Try.ntmps32
  go_wp2_with fail
  go_loopw [3] (fun i wr => ∃ k : Nat, i = .int .i64 ((k + 1 : Nat) : Int) ∧ k ≤ xs.length ∧ (∀ i (h : i + 1 < xs.length), i < k → cG xs[i].k xs[i + 1].k < 0) ∧ Ext w wr) (fun i _ => (xs.length + 1 - (intOf i).toNat))
  case atStart => exact ⟨0, rfl, by omega, fun i h h2 => by omega, Ext.refl _⟩
  case round =>
    obtain ⟨k, rfl, hk, hn, hE⟩ := hrel
    have HN := Lib.hid hn
    have E0 := Lib.hid hE
    clear hn hE
    by_cases hlt : k + 1 < xs.length
    · have k1 : ((k + 1 : Nat) : Int) < (xs.length : Int) := by omega
      have hk0 : k < xs.length := by omega
      have k2 : (k : Int) < (xs.length : Int) := by omega
      have u1 : IntKind.i64.wrap (((k + 1 : Nat) : Int) - 1) = (k : Int) := by rw [IntWalk.i64_in _ (by omega)]; omega
      have u2 : IntKind.i64.wrap ((k : Int) + 1 - 1) = (k : Int) := by rw [IntWalk.i64_in _ (by omega)]; omega
      have k3 : (0 : Int) ≤ (k : Int) + 1 := by omega
      have k4 : (k : Int) + 1 < (xs.length : Int) := by omega
      have u3 : IntKind.i64.wrap (k : Int) = (k : Int) := by rw [IntWalk.i64_in _ (by omega)]
      obtain ⟨ad, rfl, hx⟩ := RdE.fiveW HB.out hk0
      obtain ⟨ad', had, hy⟩ := RdE.fiveW HB.out hlt
      cases had
      have HX := Lib.hid hx
      have HY := Lib.hid hy
      have HC2 : Hid (∀ W, Ext wr W → Calls Try.prog 76 #[.agg (ghV xs[k]), .agg (ghV xs[k + 1])] W (RetV W (.bool (decide (cG xs[k].k xs[k + 1].k < 0))))) := fun W _ => rless_calls _ _ W
      have HR := Lib.hid (@rise_not xs k hlt)
      have HN2 : Hid (cG xs[k].k xs[k + 1].k < 0 → ∀ i (h : i + 1 < xs.length), i < k + 1 → cG xs[i].k xs[i + 1].k < 0) := fun hc i h h2 => by
        rcases Nat.lt_or_ge i k with h3 | h3
        · exact HN.out i h h3
        · obtain rfl : i = k := by omega
          exact hc
      clear hx hy
      generalize xs[k] = x at *
      generalize xs[k + 1] = y at *
      have KS : Hid (∀ W, Ext wr W → _ ∧ _) := fun W e => ⟨HX.out W (E0.out.trans e), HY.out W (E0.out.trans e)⟩
      clear HX HY
      generalize cG x.k y.k = v at *
      unfold ghV at HC2
      by_cases hv : 0 ≤ v
      · have HF := Lib.hid (HR.out hv)
        rw [show decide (v < 0) = false from decide_eq_false (by omega)] at HC2
        clear hv
        go_wp2_with fail
        refine wp_region_quietE wr (Ext.refl _) (by kernel_rfl) (by kernel_rfl) ?_
        repeat (first | (apply wpq_skip; (focus rfl); (try simp only [Act.put, List.setIfInBounds_toArray, List.set_cons_zero, List.set_cons_succ])) | ((with_reducible show QGoal _ _ _ _ ({ dst := _, op := Op.call { callee := Callee.value (Operand.func 76), args := _, argTypes := _ }, type := _, pos := _, after := _, guard := _ } :: _) _); apply wpq_call (hc := HC2.out); (focus rfl); (focus (intro W hW; go_simp; (first | done | with_reducible rfl))); (try simp only [Act.put, List.setIfInBounds_toArray, List.set_cons_zero, List.set_cons_succ])) | (apply wpq_take; (focus rfl); (focus (intro W hW; obtain ⟨⟨x0, x1, x2, x3, x4⟩, ⟨y0, y1, y2, y3, y4⟩⟩ := KS.out W hW; go_simp; (first | done | with_reducible rfl))); (try simp only [Act.put, List.setIfInBounds_toArray, List.set_cons_zero, List.set_cons_succ])))
        refine wpq_nil ?_
        intro w7 e7
        have E7 := Lib.hid (E0.out.trans e7)
        clear e7
        go_wp2_with fail
        go_ret
        exact ⟨by rw [HF.out]; rfl, E7.out⟩
      · have HF := Lib.hid (HN2.out (by omega))
        rw [show decide (v < 0) = true from decide_eq_true (by omega)] at HC2
        clear hv
        go_wp2_with fail
        refine wp_region_quietE wr (Ext.refl _) (by kernel_rfl) (by kernel_rfl) ?_
        repeat (first | (apply wpq_skip; (focus rfl); (try simp only [Act.put, List.setIfInBounds_toArray, List.set_cons_zero, List.set_cons_succ])) | ((with_reducible show QGoal _ _ _ _ ({ dst := _, op := Op.call { callee := Callee.value (Operand.func 76), args := _, argTypes := _ }, type := _, pos := _, after := _, guard := _ } :: _) _); apply wpq_call (hc := HC2.out); (focus rfl); (focus (intro W hW; go_simp; (first | done | with_reducible rfl))); (try simp only [Act.put, List.setIfInBounds_toArray, List.set_cons_zero, List.set_cons_succ])) | (apply wpq_take; (focus rfl); (focus (intro W hW; obtain ⟨⟨x0, x1, x2, x3, x4⟩, ⟨y0, y1, y2, y3, y4⟩⟩ := KS.out W hW; go_simp; (first | done | with_reducible rfl))); (try simp only [Act.put, List.setIfInBounds_toArray, List.set_cons_zero, List.set_cons_succ])))
        refine wpq_nil ?_
        intro w7 e7
        have E7 := Lib.hid (E0.out.trans e7)
        clear e7
        go_wp2_with fail
        go_roundw
        case rel => exact ⟨k + 1, by go_num, by omega, HF.out, E7.out⟩
        case measure => simp [intOf]; omega
    · have k1 : ¬ ((k + 1 : Nat) : Int) < (xs.length : Int) := by omega
      have HF := Lib.hid (rise_yes (fun i h => HN.out i h (by omega)))
      go_wp2_with fail
      go_ret
      exact ⟨by rw [HF.out]; rfl, E0.out⟩
theorem look_at {xs : List Gh} {key : GK} {i : Nat} (hi : i < xs.length) (hn : ∀ j (h : j < xs.length), j < i → xs[j].k ≠ key) (he : xs[i].k = key) : lookG xs key = xs[i] := by
  have h : xs.find? (fun a => decide (cG a.k key = 0)) = some xs[i] := by
    rw [List.find?_eq_some_iff_getElem]
    refine ⟨decide_eq_true (cG_zero.2 he), i, hi, rfl, fun j hj => ?_⟩
    have := hn j (by omega) hj
    simpa using fun h => this (cG_zero.1 h)
  unfold lookG
  rw [h]; rfl
theorem look_no {xs : List Gh} {key : GK} (hn : ∀ j (h : j < xs.length), xs[j].k ≠ key) : lookG xs key = ghNone key := by
  refine look_none ?_
  unfold thG
  rw [List.any_eq_false]
  intro a ha
  obtain ⟨j, hj, rfl⟩ := List.mem_iff_getElem.1 ha
  simpa using fun h => hn j hj (cG_zero.1 h)
end Go.Proofs.Ytlgngnkaiidbeaa
