/- The watch and the document's keys together; law29.awake; a watch that is nil. -/
import Derived.Test.YtlgngnkaiidbeaaIdleF
import Derived.Test.YtlgngnkaiidbeaaIdleG
set_option maxRecDepth 100000
set_option linter.unusedVariables false
set_option linter.unusedSimpArgs false
namespace Go.Proofs.Ytlgngnkaiidbeaa
open Go.RowKit Go.Shelf

/-- a watch of one's own and its keys, as the document has them -/
def WS (w0 W : World) (gw gm now : Nat) (x : PL) : Prop := ∃ tl, IW W gw gm now tl ∧ RelW now tl x ∧ Ext w0 W ∧ w0.heap.size ≤ gw ∧ w0.heap.size ≤ gm
section ws
variable {w0 W W' : World} {gw gm now : Nat} {x : PL}
theorem WS.ext (h : WS w0 W gw gm now x) (e : Ext W W') : WS w0 W' gw gm now x := let ⟨tl, h1, h2, h3, h4, h5⟩ := h; ⟨tl, h1.ext e, h2, h3.trans e, h4, h5⟩
theorem WS.e (h : WS w0 W gw gm now x) : Ext w0 W := let ⟨_, _, _, h3, _⟩ := h; h3
theorem OwnV.kpw {base : Nat} {e : TypeId} {size n c : Nat} {A : Option Addr} {xs : List Value} (h : OwnV W base e size A n c xs) (k : KpW gw gm W W') (h1 : blk A ≠ some gw) (h2 : blk A ≠ some gm) : OwnV W' base e size A n c xs := by
  refine ⟨h.1, ?_⟩
  rcases h.2 with h3 | ⟨g, cap, cur, hv, hb, hh, r⟩
  · exact .inl h3
  · have hA : blk A = some g := by injection hv with hA; subst hA; rfl
    refine .inr ⟨g, cap, cur, hv, hb, ?_, r⟩
    rw [k.block g (Array.getElem?_eq_some_iff.1 hh).1 (fun e => h1 (by rw [hA, e])) (fun e => h2 (by rw [hA, e]))]
    exact hh
theorem own_ne_watchK {base : Nat} {size n c : Nat} {A : Option Addr} {xs : List Value} {b : Nat} {cs : Array Value} (h : OwnV W base 139 size A n c xs) (hr : Arr W b 137 cs) : blk A ≠ some b := by
  intro hb
  rcases h.2 with ⟨hv, _⟩ | ⟨g, cap, cur, hv, _, hh, _⟩
  · injection hv with hA _ _; subst hA; simp [blk] at hb
  · injection hv with hA _ _
    subst hA
    simp [blk] at hb
    subst hb
    unfold Arr at hr
    rw [hr] at hh
    injection hh with hh
    injection hh with _ h9 _
    exact absurd h9 (by decide)
theorem WS.keep {base n c : Nat} {A : Option Addr} {xs : List Value} (h : WS w0 W gw gm now x) (k : KpW gw gm W W') (o : OwnV W base 139 3 A n c xs) : OwnV W' base 139 3 A n c xs := by
  obtain ⟨tl, h1, _⟩ := h
  exact o.kpw k (own_ne_watchK o h1.1) (own_ne_map o h1.2)
theorem wtouch_calls (kk : PK) (h : WS w0 W gw gm now x) : Calls Try.prog 47 #[.pointer (some ⟨gw, 0, none⟩), .int .i64 kk.1, .int .i64 kk.2] W fun e W' => e = .returned (.tuple #[]) ∧ WS w0 W' gw gm now (touchP x kk) ∧ KpW gw gm W W' := by
  obtain ⟨tl, h1, h2, h3, h4, h5⟩ := h
  refine (itouch_calls gw gm now tl kk W h1).mono ?_
  rintro e W' ⟨rfl, hI, hK⟩
  exact ⟨rfl, ⟨_, hI, h2.touch kk, hK.ext h3 h4 h5, h4, h5⟩, hK⟩
theorem wdrop_calls (kk : PK) (h : WS w0 W gw gm now x) : Calls Try.prog 49 #[.pointer (some ⟨gw, 0, none⟩), .int .i64 kk.1, .int .i64 kk.2] W fun e W' => e = .returned (.bool (decide (kk ∈ keysP x))) ∧ WS w0 W' gw gm now (withoutP x kk) ∧ KpW gw gm W W' := by
  obtain ⟨tl, h1, h2, h3, h4, h5⟩ := h
  refine (idrop_calls gw gm now tl kk W h1).mono ?_
  rintro e W' ⟨rfl, hI, hK⟩
  exact ⟨by rw [show decide (kk ∈ keysP tl) = decide (kk ∈ keysP x) by rw [Bool.eq_iff_iff]; simp only [decide_eq_true_eq]; exact h2.has kk], ⟨_, hI, h2.drop kk, hK.ext h3 h4 h5, h4, h5⟩, hK⟩
theorem wtick_calls (h : WS w0 W gw gm now x) (hl : x.length ≤ 100000) (hn : now ≤ 1000000) : Calls Try.prog 54 #[.pointer (some ⟨gw, 0, none⟩)] W fun e W' => ∃ A c, e = .returned (.slice A (toldP x).length c) ∧ OwnV W' W.heap.size 89 2 A (toldP x).length c ((toldP x).flatMap prC) ∧ WS w0 W' gw gm (now + 1) (stayP x) ∧ KpW gw gm W W' := by
  obtain ⟨tl, h1, h2, h3, h4, h5⟩ := h
  refine (itick_calls gw gm now tl x W h1 h2 (Nat.le_trans h2.len hl) hn).mono ?_
  rintro e W' ⟨A, c, rfl, ho, hI, hK⟩
  exact ⟨A, c, rfl, ho, ⟨_, hI, h2.tick, hK.ext h3 h4 h5, h4, h5⟩, hK⟩
theorem wkeys_calls (h : WS w0 W gw gm now x) (hl : x.length ≤ 100000) : Calls Try.prog 55 #[.pointer (some ⟨gw, 0, none⟩)] W fun e W' => ∃ A c, e = .returned (.slice A (keysP x).length c) ∧ OwnV W' W.heap.size 89 2 A (keysP x).length c ((keysP x).flatMap prC) ∧ Ext W W' := by
  obtain ⟨tl, h1, h2, h3, h4, h5⟩ := h
  exact ikeysA_calls gw gm now tl x W h1 h2 (Nat.le_trans h2.len hl)
theorem wnow_calls (h : WS w0 W gw gm now x) : Calls Try.prog 57 #[.pointer (some ⟨gw, 0, none⟩)] W fun e W' => e = .returned (.int .u64 (now : Int)) ∧ W = W' := by
  obtain ⟨tl, h1, _⟩ := h
  exact inow_calls gw gm now tl W h1
end ws
theorem wnew_calls (w : World) : Calls Try.prog 46 #[] w fun e w' => ∃ gw gm, e = .returned (.pointer (some ⟨gw, 0, none⟩)) ∧ WS w w' gw gm 0 [] := by
  refine (inew_calls w).mono ?_
  rintro e w' ⟨gw, gm, rfl, h1, h2, h3, h4⟩
  exact ⟨gw, gm, rfl, [], h1, RelW.start, h2, h3, h4⟩
theorem qqPr (p q : PK) (w : World) : (binOp .eql 89 (.agg #[.int .i64 p.1, .int .i64 p.2]) (.agg #[.int .i64 q.1, .int .i64 q.2])).run Try.prog w = .ok (.bool (decide (p = q))) w := by
  have h := pairK.eq p.1 p.2 q.1 q.2 w
  have e : (decide (p.1 = q.1) && decide (p.2 = q.2)) = decide (p = q) := by
    rw [Bool.eq_iff_iff]; simp [Prod.ext_iff]
  have h2 : (Op.equalIn 10000 89 (.agg #[.int .i64 p.1, .int .i64 p.2]) (.agg #[.int .i64 q.1, .int .i64 q.2])).run Try.prog w = _ := h
  rw [run_eql_struct, h2, e]; rfl
set_option maxHeartbeats 8000000 in
theorem awake29 (w : World) : Calls Try.prog 45 #[] w (RetV w (.bool true)) := by
  go_enter Try.func45, Try.ntmps45
  go_wp2_with fail
  refine (wnew_calls w).mono ?_
  rintro e w1 ⟨gw, gm, rfl, h1⟩
  have W1 := Lib.hid h1
  clear h1
  go_wp2_with fail
  refine (wtouch_calls (1, 2) W1.out).mono ?_
  rintro e w2 ⟨rfl, h2, _⟩
  rw [touch_one (1, 2) [] (by simp)] at h2
  have W2 := Lib.hid h2
  clear h2 W1
  go_wp2_with fail
  go_loopw [2] (fun i wr => ∃ k : Nat, k ≤ 9 ∧ i = .int .i64 (k : Int) ∧ WS w wr gw gm k [((1, 2), k)]) (fun i _ => 9 - (intOf i).toNat)
  case atStart => exact ⟨0, by omega, rfl, W2.out⟩
  case round =>
    obtain ⟨k, hk, rfl, h3⟩ := hrel
    have W3 := Lib.hid h3
    have HT := Lib.hid (wtick_calls h3 (by simp) (by omega))
    clear h3
    by_cases hlt : k < 9
    · have k1 : (k : Int) < 9 := by omega
      rw [told_one, stay_one, if_neg (by omega), if_pos (by omega)] at HT
      go_wp2_with fail
      refine HT.out.mono ?_
      rintro e w4 ⟨A4, c4, rfl, _, h4, _⟩
      have W4 := Lib.hid h4
      clear h4
      go_wp2_with fail
      go_roundw
      case rel => exact ⟨k + 1, by omega, by go_num, W4.out⟩
      case measure => simp [intOf]; omega
    · have hk9 : k = 9 := by omega
      subst hk9
      rw [told_one, stay_one, if_pos (by omega), if_neg (by omega)] at HT
      go_wp2_with fail
      refine HT.out.mono ?_
      rintro e w4 ⟨A4, c4, rfl, o4, h4, _⟩
      have W4 := Lib.hid h4
      obtain ⟨ad, rfl, x0, x1⟩ := RdE.pair (show RdE prC w4 A4 [((1 : Int), (2 : Int))] from o4.rd) (i := 0) (by decide)
      simp only [Nat.zero_mul, add_zero', List.getElem_cons_zero] at x0 x1
      have hqq := qqPr ((1 : Int), (2 : Int)) ((1 : Int), (2 : Int))
      rw [decide_eq_true rfl] at hqq
      have HK := Lib.hid (wkeys_calls W4.out (by simp))
      clear h4 o4
      go_wp2_with (go_at_call 55; refine HK.out.mono ?_; rintro e w5 ⟨A5, c5, rfl, _, e5⟩; have E5 := Lib.hid e5; clear e5)
      go_ret
      exact ⟨rfl, (W4.out.ext E5.out).e⟩
section nil_
variable (w : World)
theorem nil_touch (a b : Int) : Calls Try.prog 47 #[.pointer none, .int .i64 a, .int .i64 b] w fun e w' => e = .returned (.tuple #[]) ∧ w = w' := by
  go_enter Try.func47, Try.ntmps47
  go_wp2_with fail
  refine bodyPost_ret (results_none rfl _ _ _) rfl ?_
  exact ⟨rfl, rfl⟩
theorem nil_drop (a b : Int) : Calls Try.prog 49 #[.pointer none, .int .i64 a, .int .i64 b] w fun e w' => e = .returned (.bool false) ∧ w = w' := by
  go_enter Try.func49, Try.ntmps49
  go_wp2_with fail
  go_ret
  exact ⟨rfl, rfl⟩
theorem nil_tick : Calls Try.prog 54 #[.pointer none] w fun e w' => e = .returned (.slice none 0 0) ∧ Ext w w' := by
  go_enter Try.func54, Try.ntmps54
  go_wp2_with fail
  go_ret
  exact ⟨rfl, (Ext.refl _).alloc _⟩
theorem nil_now : Calls Try.prog 57 #[.pointer none] w fun e w' => e = .returned (.int .u64 0) ∧ w = w' := by
  go_enter Try.func57, Try.ntmps57
  go_wp2_with fail
  go_ret
  exact ⟨rfl, rfl⟩
theorem nil_keys : Calls Try.prog 55 #[.pointer none] w fun e w' => e = .returned (.slice none 0 0) ∧ w = w' := by
  go_enter Try.func55, Try.ntmps55
  go_wp2_with fail
  go_ret
  exact ⟨rfl, rfl⟩
end nil_
end Go.Proofs.Ytlgngnkaiidbeaa
