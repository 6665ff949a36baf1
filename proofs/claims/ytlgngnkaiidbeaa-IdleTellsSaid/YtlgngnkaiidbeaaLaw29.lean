/- IdleTells, walked; the steps that came in. -/
import Derived.Test.YtlgngnkaiidbeaaIdleH
import Derived.Test.YtlgngnkaiidbeaaArgEl
import Derived.Deep.RegionHeld3
set_option maxRecDepth 100000
set_option linter.unusedVariables false
set_option linter.unusedSimpArgs false
namespace Go.Proofs.Ytlgngnkaiidbeaa
open Go.RowKit Go.Shelf Go.ChangeShapes Go.WideShapes Go.ChangeAt Go.Deep

/-- a step: what kind, and the key -/
structure Sp where
  k : Int
  a : Int
  b : Int
instance : Inhabited Sp := ⟨⟨0, 0, 0⟩⟩
def Sp.cs (l : Sp) : List Value := [nv l.k, nv l.a, nv l.b]
theorem Sp.cs_len (l : Sp) : l.cs.length = 3 := rfl
def spV (x : Sp) : Array Value := #[.int .i64 x.k, .int .i64 x.a, .int .i64 x.b]
theorem sp_cells {w : World} {g : Nat} {t : TypeId} {x : Sp} (h : Arr w g t (spV x)) : w.cell? ⟨g, 0, none⟩ = some (.int .i64 x.k) ∧ w.cell? ⟨g, 1, none⟩ = some (.int .i64 x.a) ∧ w.cell? ⟨g, 2, none⟩ = some (.int .i64 x.b) := ⟨h.cell_some rfl, h.cell_some rfl, h.cell_some rfl⟩
theorem spV_one (x : Sp) : ∀ v ∈ spV x, v.oneCell' = true := by
  intro v hv
  simp [spV] at hv
  rcases hv with rfl | rfl | rfl <;> rfl
theorem zero_sp : (Try.prog.info? 77).map (fun i => (i.zero, i.size)) = some (some (.agg #[.int .i64 0, .int .i64 0, .int .i64 0]), 3) := by kernel_rfl
theorem size_sp : (Try.prog.info? 77).map (·.size) = some 3 := by kernel_rfl
theorem RdE.sp {w : World} {A : Option Addr} {xs : List Sp} (h : RdE Sp.cs w A xs) {i : Nat} (hi : i < xs.length) : ∃ ad, A = some ad ∧ w.cell? (ad.add (i * 3)) = some (.int .i64 xs[i].k) ∧ w.cell? ⟨(ad.add (i * 3)).block, (ad.add (i * 3)).off + 1, none⟩ = some (.int .i64 xs[i].a) ∧ w.cell? ⟨(ad.add (i * 3)).block, (ad.add (i * 3)).off + 2, none⟩ = some (.int .i64 xs[i].b) := by
  obtain ⟨ad, ha, hc⟩ := RdE.at_ Sp.cs_len h hi (by decide)
  refine ⟨ad, ha, hc 0 _ rfl, ?_, ?_⟩
  · rw [← add_off _ 1 (by decide)]; exact hc 1 _ rfl
  · rw [← add_off _ 2 (by decide)]; exact hc 2 _ rfl
theorem q_sp : Try.prog.cellsOf 77 = 3 := by kernel_rfl
theorem cells_sp {H : Type} {enc : TypeId × Value → H} {w : World} (m : Nat) (cs : List Value) (x : DataW H × List MemPlace) (hl : cs.length = 3) (h : DataW.trod enc Try.prog w 0 (fun _ => true) true m 77 cs = some x) : ∃ y : Sp, cs = y.cs ∧ True := by
  obtain ⟨xs, m, _, _, _, hxl, hx⟩ := DataW.trod_struct Try.underlying77 h
  have hxl' : xs.length = 3 := hxl
  match cs, hl with
  | [a0, a1, a2], _ =>
    have g0 := hx 0 _ rfl
    have g1 := hx 1 _ rfl
    have g2 := hx 2 _ rfl
    simp only [List.getElem_toArray, List.getElem_cons_zero, List.getElem_cons_succ, q_int, List.drop_zero, List.drop_succ_cons, List.take_succ_cons, List.take_zero] at g0 g1 g2
    rw [List.getElem?_eq_getElem (by omega)] at g0 g1 g2
    obtain ⟨z0, e0, _, w0⟩ := DataW.trod_int Try.underlying3 g0
    obtain ⟨z1, e1, _, w1⟩ := DataW.trod_int Try.underlying3 g1
    obtain ⟨z2, e2, _, w2⟩ := DataW.trod_int Try.underlying3 g2
    simp only [List.cons.injEq, and_true] at e0 e1 e2
    subst e0 e1 e2
    exact ⟨⟨z0, z1, z2⟩, rfl, trivial⟩
theorem arg_sps {H : Type} {enc : TypeId × Value → H} {w : World} {b0 : Nat} {v : Value} {d : DataW H} {p : List MemPlace} (o : Value.okWide Try.prog w .any b0 72 v) (h : DataW.Trod enc Try.prog w 0 (fun _ => true) true 72 v d p) :
    ∃ A c, ∃ xs : List Sp, v = .slice A xs.length c ∧ RdE Sp.cs w A xs ∧ xs.length ≤ c ∧ c ≤ 9223372036854775807 ∧ (A = none → c = 0) := by
  obtain ⟨a0, len0, cap0, rfl⟩ := okWide_slice Try.underlying72 o
  obtain ⟨fuel, hf⟩ := h
  obtain ⟨A, c, ys, e1, r1, r2, r3, r4, r5⟩ := cells_elems Sp.cs (fun _ => True) Sp.cs_len (by decide) Try.underlying72 q_sp cells_sp hf
  simp [Value.cells] at e1
  obtain ⟨rfl, rfl, rfl⟩ := e1
  exact ⟨a0, cap0, ys, rfl, r1, r3, r4, r5⟩
theorem WS.ne {w0 W : World} {gw gm now g : Nat} {x : PL} (h : WS w0 W gw gm now x) (hg : W.heap.size ≤ g) : g ≠ gw ∧ g ≠ gm := by
  obtain ⟨tl, h1, _⟩ := h
  have a := h1.1.lt
  have b := h1.2.lt
  exact ⟨by omega, by omega⟩
theorem wkeepP {w0 W W' : World} {gw gm now base n c : Nat} {x : PL} {A : Option Addr} {xs : List Value} (h : WS w0 W gw gm now x) (k : KpW gw gm W W') (o : OwnV W base 89 2 A n c xs) : OwnV W' base 89 2 A n c xs := by
  obtain ⟨tl, h1, _⟩ := h
  exact o.kpw k (own_ne_watch o h1.1) (own_ne_map o h1.2)
theorem Arr.kpw {W W' : World} {g gw gm : Nat} {t : TypeId} {cs : Array Value} (h : Arr W g t cs) (k : KpW gw gm W W') (n : g ≠ gw ∧ g ≠ gm) : Arr W' g t cs := by
  have h1 := k.block g h.lt n.1 n.2
  unfold Arr at *
  rw [h1]; exact h
set_option maxHeartbeats 16000000 in
theorem idleTells_walk (A : Option Addr) (c : Nat) (l : List Sp) (w : World) (hb : RdE Sp.cs w A l) (hlm : l.length ≤ 9223372036854775807) :
    Calls Try.prog 9 #[.slice A l.length c] w (RetV w (.bool true)) := by
  by_cases hbig : 200 < l.length
  · clear hb
    go_enter Try.func9, Try.ntmps9
    go_wp2_with fail
    refine (awake29 _).mono ?_
    rintro e w' ⟨rfl, x1⟩
    have X := Lib.hid x1
    clear x1
    go_wp2_with fail
    go_ret
    exact ⟨rfl, X.out⟩
  have hl : l.length ≤ 200 := by omega
  have HB := Lib.hid hb
  clear hb hbig hlm
  go_enter Try.func9, Try.ntmps9
  go_wp2_with fail
  refine (wnew_calls w).mono ?_
  rintro e w1 ⟨gw, gm, rfl, h1⟩
  have W1 := Lib.hid h1
  clear h1
  go_wp2_with fail
  go_loopw [4, 5, 6] (fun xv tv i wr => ∃ k now : Nat, ∃ x : PL, ∃ A4 c4, k ≤ l.length ∧ i = .int .i64 (k : Int) ∧ tv = .int .u64 (now : Int) ∧ xv = .slice A4 x.length c4 ∧ WS w wr gw gm now x ∧ OwnV wr w.heap.size 139 3 A4 x.length c4 (x.flatMap rkC) ∧ x.length ≤ k ∧ now ≤ k) (fun _ _ i _ => l.length - (intOf i).toNat)
  case atStart => exact ⟨0, 0, [], none, 0, by omega, rfl, rfl, rfl, W1.out, OwnV.nil _ _ _ _, Nat.le_refl _, Nat.le_refl _⟩
  case round =>
    obtain ⟨k, now, x, A4, c4, hk, rfl, rfl, rfl, hw, ho, hxl, hnl⟩ := hrel
    have WR := Lib.hid hw
    have OR_ := Lib.hid ho
    have HXL := Lib.hid (And.intro hxl hnl)
    have hxx : x.length ≤ 200 := by omega
    clear hw ho hxl hnl
    by_cases hlt : k < l.length
    · have k1 : (k : Int) < (l.length : Int) := by omega
      obtain ⟨ad, rfl, x0, x1, x2⟩ := RdE.sp (show RdE Sp.cs wr A l from HB.out.ext WR.out.e) hlt
      generalize l[k] = s at *
      obtain ⟨kd, a, b⟩ := s
      dsimp only at x0 x1 x2
      by_cases h1 : kd = 1
      · subst h1
        have HTL := Lib.hid (touch_len x (a, b))
        go_wp2_with (first | ((with_reducible show wpList _ _ _ ({ dst := some 7, op := Op.alloc 77, type := _, pos := _, after := _, guard := _ } :: _) _ _); refine alA _ rfl 77 rfl _ _ zero_sp ?_; intro g7 w7 hg hs1 k3 e3; have X7 := Lib.hid k3; have T7 := Lib.hid e3; have G7 := Lib.hid (Nat.le_of_eq hg); clear hg hs1 k3 e3) | ((with_reducible show wpList _ _ _ ({ dst := none, op := Op.store 77 _ _, type := _, pos := _, after := _, guard := _ } :: _) _ _); refine stA _ rfl 77 77 _ _ rfl g7 _ (spV ⟨1, a, b⟩) rfl rfl X7.out size_sp rfl (spV_one _) ?_; intro w8 hs k4 g4; have T8 := Lib.hid (show Ext wr w8 from T7.out.grown g4 (fun k hk => by injection hk with hk; have := G7.out; omega)); have X8 := Lib.hid k4; have W8 := Lib.hid (WR.out.ext T8.out); have O8 := Lib.hid (OR_.out.ext T8.out); have N8 := Lib.hid (WR.out.ne G7.out); obtain ⟨y0, y1, y2⟩ := sp_cells k4; clear hs k4 g4 x0 x1 x2 X7 T7))
        refine (show Calls Try.prog 47 #[.pointer (some ⟨gw, 0, none⟩), .int .i64 a, .int .i64 b] w8 _ from wtouch_calls (a, b) W8.out).mono ?_
        rintro e w9 ⟨rfl, h9, k9⟩
        have W9 := Lib.hid h9
        have O9 := Lib.hid (W8.out.keep k9 O8.out)
        have P9 := Lib.hid (show RdE rkC w9 A4 x from O9.out.rd)
        have X9 := Lib.hid (X8.out.kpw k9 N8.out)
        clear h9 k9 y0 y1 y2
        obtain ⟨y0, y1, y2⟩ := sp_cells X9.out
        go_wp2_with fail
        refine (rtouch_calls A4 c4 x a b w9 P9.out (by omega)).mono ?_
        rintro e wz ⟨A1, c1, rfl, oz, ez⟩
        have WZ0 := Lib.hid (W9.out.ext ez)
        have OZ0 := Lib.hid (oz.lower (show w.heap.size ≤ w9.heap.size from W9.out.e.size))
        clear oz ez y0 y1 y2
        generalize touchP x (a, b) = x1 at *
        have HL1 : Hid (x1.length ≤ k + 1 ∧ x1.length ≤ 201) := ⟨by have := HTL.out; have := HXL.out; omega, by have := HTL.out; omega⟩
        have WZ := WZ0
        have OZ := OZ0
        obtain ⟨n1, hn1⟩ : ∃ n1, n1 = now := ⟨_, rfl⟩
        have HN1 : Hid (n1 ≤ k) := by have := HXL.out; show n1 ≤ k; omega
        rw [← hn1] at WZ ⊢
        clear hn1 WZ0 OZ0 HTL HXL WR OR_ W8 O8 W9 O9 P9 X8 X9
        go_wp2_with (first | (go_at_call 55; refine (wkeys_calls WZ.out (by have := HL1.out; omega)).mono ?_; rintro e wk ⟨Ak, ck, rfl, ok, ek⟩; have PKk := Lib.hid (show RdE prC wk Ak (keysP x1) from ok.rd); have EKk := Lib.hid ek; clear ok ek) | (go_at_call 56; refine (rkeys_calls A1 c1 x1 wk (show RdE rkC wk A1 x1 from (OZ.out.ext EKk.out).rd) (by have := HL1.out; omega)).mono ?_; rintro e wl ⟨Al, cl, rfl, ol, el⟩; have QKk := Lib.hid (show RdE prC wl Al (keysP x1) from ol.rd); have ELl := Lib.hid el; clear ol el) | (go_at_call 53; refine (rsameP_calls Ak Al ck cl (keysP x1) wl (RdE.ext PKk.out ELl.out) QKk.out (by have := HL1.out; unfold keysP; rw [List.length_map]; omega)).mono ?_; rintro e wm ⟨rfl, em⟩; have EMm := Lib.hid (EKk.out.trans (ELl.out.trans em)); clear em) | (go_at_call 57; refine (wnow_calls (WZ.out.ext EMm.out)).mono ?_; rintro e wn ⟨rfl, rfl⟩)); go_roundw
        case rel => exact ⟨k + 1, n1, x1, A1, c1, by omega, by go_num, rfl, rfl, WZ.out.ext EMm.out, OZ.out.ext EMm.out, by have := HL1.out; omega, by have := HN1.out; omega⟩
        case measure => simp [intOf]; omega
      · have e1 : (kd == 1) = false := by simpa using h1
        by_cases h2 : kd = 2
        · subst h2
          have HTL := Lib.hid (without_len x (a, b))
          go_wp2_with (first | ((with_reducible show wpList _ _ _ ({ dst := some 7, op := Op.alloc 77, type := _, pos := _, after := _, guard := _ } :: _) _ _); refine alA _ rfl 77 rfl _ _ zero_sp ?_; intro g7 w7 hg hs1 k3 e3; have X7 := Lib.hid k3; have T7 := Lib.hid e3; have G7 := Lib.hid (Nat.le_of_eq hg); clear hg hs1 k3 e3) | ((with_reducible show wpList _ _ _ ({ dst := none, op := Op.store 77 _ _, type := _, pos := _, after := _, guard := _ } :: _) _ _); refine stA _ rfl 77 77 _ _ rfl g7 _ (spV ⟨2, a, b⟩) rfl rfl X7.out size_sp rfl (spV_one _) ?_; intro w8 hs k4 g4; have T8 := Lib.hid (show Ext wr w8 from T7.out.grown g4 (fun k hk => by injection hk with hk; have := G7.out; omega)); have X8 := Lib.hid k4; have W8 := Lib.hid (WR.out.ext T8.out); have O8 := Lib.hid (OR_.out.ext T8.out); have N8 := Lib.hid (WR.out.ne G7.out); obtain ⟨y0, y1, y2⟩ := sp_cells k4; clear hs k4 g4 x0 x1 x2 X7 T7))
          have DW := Lib.hid (W8.out.ext (Ext.refl _).drew)
          have DO := Lib.hid (O8.out.ext (Ext.refl _).drew)
          have DX := Lib.hid (X8.out.ext (Ext.refl _).drew)
          have PD : RdE rkC w8.drew A4 x := DO.out.rd
          obtain ⟨_, d1, d2⟩ := sp_cells DX.out
          have HDR := Lib.hid (show Calls Try.prog 49 #[.pointer (some ⟨gw, 0, none⟩), .int .i64 a, .int .i64 b] w8.drew _ from wdrop_calls (a, b) DW.out)
          by_cases hm : (a, b) ∈ keysP x
          · have HM : Hid ((a, b) ∈ keysP x) := hm
            rw [decide_eq_true hm] at HDR
            clear hm
            go_region_held3 (fun W => (W.cell? ⟨g7, 1, none⟩ = some (.int .i64 a) ∧ W.cell? ⟨g7, 2, none⟩ = some (.int .i64 b)) ∧ True)
              (first | exact ⟨⟨d1, d2⟩, trivial⟩ | exact ⟨⟨f1, f2⟩, trivial⟩ | exact ⟨⟨by assumption, by assumption⟩, trivial⟩)
              (first | (go_at_call 49; refine HDR.out.mono ?_; rintro e w9 ⟨rfl, h9, k9⟩; have W9 := Lib.hid h9; have O9 := Lib.hid (DW.out.keep k9 DO.out); have X9 := Lib.hid (DX.out.kpw k9 N8.out); have P9 : RdE rkC w9 A4 x := O9.out.rd; obtain ⟨_, f1, f2⟩ := sp_cells X9.out; clear h9 k9) | (go_at_call 50; refine (rfindK_calls A4 c4 x a b _ (by assumption) (by omega)).mono ?_; rintro e w10 ⟨z, rfl, hz, rfl⟩; have z0 : 0 ≤ z := hz.2 HM.out; clear hz))
            all_goals (go_wp2_with fail; refine (rwithout_calls A4 c4 x a b w9 P9 (by omega)).mono ?_; rintro e wz ⟨A1, c1, rfl, oz, ez⟩; have WZ := Lib.hid (W9.out.ext ez); have OZ := Lib.hid (oz.lower (show w.heap.size ≤ w9.heap.size from W9.out.e.size)); clear oz ez f1 f2 z0 d1 d2 PD P9 y0 y1 y2; generalize withoutP x (a, b) = x1 at *; have HL1 : Hid (x1.length ≤ k + 1 ∧ x1.length ≤ 201) := ⟨(by have := HTL.out; have := HXL.out; omega), (by have := HTL.out; omega)⟩; obtain ⟨n1, rfl⟩ : ∃ v, v = now := ⟨now, rfl⟩; have HN1 : Hid (n1 ≤ k) := HXL.out.2; clear HTL HXL WR OR_ W8 O8 W9 O9 X8 X9 DW DO DX HDR HM; go_wp2_with (first | (go_at_call 55; refine (wkeys_calls WZ.out (by have := HL1.out; omega)).mono ?_; rintro e wk ⟨Ak, ck, rfl, ok, ek⟩; have PKk := Lib.hid (show RdE prC wk Ak (keysP x1) from ok.rd); have EKk := Lib.hid ek; clear ok ek) | (go_at_call 56; refine (rkeys_calls A1 c1 x1 wk (show RdE rkC wk A1 x1 from (OZ.out.ext EKk.out).rd) (by have := HL1.out; omega)).mono ?_; rintro e wl ⟨Al, cl, rfl, ol, el⟩; have QKk := Lib.hid (show RdE prC wl Al (keysP x1) from ol.rd); have ELl := Lib.hid el; clear ol el) | (go_at_call 53; refine (rsameP_calls Ak Al ck cl (keysP x1) wl (RdE.ext PKk.out ELl.out) QKk.out (by have := HL1.out; unfold keysP; rw [List.length_map]; omega)).mono ?_; rintro e wm ⟨rfl, em⟩; have EMm := Lib.hid (EKk.out.trans (ELl.out.trans em)); clear em) | (go_at_call 57; refine (wnow_calls (WZ.out.ext EMm.out)).mono ?_; rintro e wn ⟨rfl, rfl⟩)); go_roundw)
            all_goals first | (exact ⟨k + 1, n1, x1, A1, c1, by omega, by go_num, rfl, rfl, WZ.out.ext EMm.out, OZ.out.ext EMm.out, by have := HL1.out; omega, by have := HN1.out; omega⟩) | (simp [intOf]; omega)
          · have HM : Hid (¬ (a, b) ∈ keysP x) := hm
            rw [decide_eq_false hm] at HDR
            clear hm
            go_region_held3 (fun W => (W.cell? ⟨g7, 1, none⟩ = some (.int .i64 a) ∧ W.cell? ⟨g7, 2, none⟩ = some (.int .i64 b)) ∧ True)
              (first | exact ⟨⟨d1, d2⟩, trivial⟩ | exact ⟨⟨f1, f2⟩, trivial⟩ | exact ⟨⟨by assumption, by assumption⟩, trivial⟩)
              (first | (go_at_call 49; refine HDR.out.mono ?_; rintro e w9 ⟨rfl, h9, k9⟩; have W9 := Lib.hid h9; have O9 := Lib.hid (DW.out.keep k9 DO.out); have X9 := Lib.hid (DX.out.kpw k9 N8.out); have P9 : RdE rkC w9 A4 x := O9.out.rd; obtain ⟨_, f1, f2⟩ := sp_cells X9.out; clear h9 k9) | (go_at_call 50; refine (rfindK_calls A4 c4 x a b _ (by assumption) (by omega)).mono ?_; rintro e w10 ⟨z, rfl, hz, rfl⟩; have z0 : ¬ 0 ≤ z := fun h => HM.out (hz.1 h); clear hz))
            all_goals (go_wp2_with fail; refine (rwithout_calls A4 c4 x a b w9 P9 (by omega)).mono ?_; rintro e wz ⟨A1, c1, rfl, oz, ez⟩; have WZ := Lib.hid (W9.out.ext ez); have OZ := Lib.hid (oz.lower (show w.heap.size ≤ w9.heap.size from W9.out.e.size)); clear oz ez f1 f2 z0 d1 d2 PD P9 y0 y1 y2; generalize withoutP x (a, b) = x1 at *; have HL1 : Hid (x1.length ≤ k + 1 ∧ x1.length ≤ 201) := ⟨(by have := HTL.out; have := HXL.out; omega), (by have := HTL.out; omega)⟩; obtain ⟨n1, rfl⟩ : ∃ v, v = now := ⟨now, rfl⟩; have HN1 : Hid (n1 ≤ k) := HXL.out.2; clear HTL HXL WR OR_ W8 O8 W9 O9 X8 X9 DW DO DX HDR HM; go_wp2_with (first | (go_at_call 55; refine (wkeys_calls WZ.out (by have := HL1.out; omega)).mono ?_; rintro e wk ⟨Ak, ck, rfl, ok, ek⟩; have PKk := Lib.hid (show RdE prC wk Ak (keysP x1) from ok.rd); have EKk := Lib.hid ek; clear ok ek) | (go_at_call 56; refine (rkeys_calls A1 c1 x1 wk (show RdE rkC wk A1 x1 from (OZ.out.ext EKk.out).rd) (by have := HL1.out; omega)).mono ?_; rintro e wl ⟨Al, cl, rfl, ol, el⟩; have QKk := Lib.hid (show RdE prC wl Al (keysP x1) from ol.rd); have ELl := Lib.hid el; clear ol el) | (go_at_call 53; refine (rsameP_calls Ak Al ck cl (keysP x1) wl (RdE.ext PKk.out ELl.out) QKk.out (by have := HL1.out; unfold keysP; rw [List.length_map]; omega)).mono ?_; rintro e wm ⟨rfl, em⟩; have EMm := Lib.hid (EKk.out.trans (ELl.out.trans em)); clear em) | (go_at_call 57; refine (wnow_calls (WZ.out.ext EMm.out)).mono ?_; rintro e wn ⟨rfl, rfl⟩)); go_roundw)
            all_goals first | (exact ⟨k + 1, n1, x1, A1, c1, by omega, by go_num, rfl, rfl, WZ.out.ext EMm.out, OZ.out.ext EMm.out, by have := HL1.out; omega, by have := HN1.out; omega⟩) | (simp [intOf]; omega)
        · have e2 : (kd == 2) = false := by simpa using h2
          by_cases h3 : kd = 3
          · subst h3
            have HTL := Lib.hid (And.intro (stay_len x) (told_len x))
            have HAG : Hid (∀ q ∈ x, q.2 ≤ 1000000) := fun q hq => by
              obtain ⟨_, _, hr, _⟩ := WR.out
              have := hr.ago q hq
              have := HXL.out
              omega
            obtain ⟨n1, hn1⟩ : ∃ n1, n1 = now + 1 := ⟨_, rfl⟩
            have u1 : IntKind.u64.wrap ((now : Int) + 1) = (n1 : Int) := by have := HXL.out; rw [IntKind.wrap_u64]; omega
            have HN1 : Hid (n1 ≤ k + 1) := by have := HXL.out; show n1 ≤ k + 1; omega
            have HNN := Lib.hid hn1
            clear hn1
            go_wp2_with (first | ((with_reducible show wpList _ _ _ ({ dst := some 7, op := Op.alloc 77, type := _, pos := _, after := _, guard := _ } :: _) _ _); refine alA _ rfl 77 rfl _ _ zero_sp ?_; intro g7 w7 hg hs1 k3 e3; have X7 := Lib.hid k3; have T7 := Lib.hid e3; have G7 := Lib.hid (Nat.le_of_eq hg); clear hg hs1 k3 e3) | ((with_reducible show wpList _ _ _ ({ dst := none, op := Op.store 77 _ _, type := _, pos := _, after := _, guard := _ } :: _) _ _); refine stA _ rfl 77 77 _ _ rfl g7 _ (spV ⟨3, a, b⟩) rfl rfl X7.out size_sp rfl (spV_one _) ?_; intro w8 hs k4 g4; have T8 := Lib.hid (show Ext wr w8 from T7.out.grown g4 (fun k hk => by injection hk with hk; have := G7.out; omega)); have X8 := Lib.hid k4; have W8 := Lib.hid (WR.out.ext T8.out); have O8 := Lib.hid (OR_.out.ext T8.out); have N8 := Lib.hid (WR.out.ne G7.out); obtain ⟨y0, y1, y2⟩ := sp_cells k4; clear hs k4 g4 x0 x1 x2 X7 T7))
            refine (rtick_calls A4 c4 x w8 O8.out.rd (by omega) HAG.out).mono ?_
            rintro e w9 ⟨A1, c1, A2, c2, rfl, o1, o2, e9⟩
            have W9 := Lib.hid (W8.out.ext e9)
            have O9 := Lib.hid (o1.lower (show w.heap.size ≤ w8.heap.size from W8.out.e.size))
            have T9 := Lib.hid o2
            clear o1 o2 e9 y0 y1 y2
            go_wp2_with fail
            refine (wtick_calls W9.out (by omega) (by have := HXL.out; omega)).mono ?_
            rintro e w10 ⟨A3, c3, rfl, o3, h10, k10⟩
            rw [← HNN.out] at h10
            have W10 := Lib.hid h10
            have P10 := Lib.hid (show RdE prC w10 A3 (toldP x) from o3.rd)
            have O10 := Lib.hid (W9.out.keep k10 O9.out)
            have Q10 := Lib.hid (show RdE prC w10 A2 (toldP x) from (wkeepP W9.out k10 T9.out).rd)
            clear o3 h10 k10
            have HL1 : Hid ((stayP x).length ≤ k + 1 ∧ (stayP x).length ≤ 201) := ⟨by have := HTL.out.1; have := HXL.out; omega, by have := HTL.out.1; omega⟩
            have HTT : Hid ((toldP x).length ≤ 201) := by have := HTL.out.2; show _ ≤ _; omega
            generalize stayP x = x1 at *
            generalize toldP x = td at *
            go_wp2_with fail
            refine (rsameP_calls A3 A2 c3 c2 td w10 P10.out Q10.out (by have := HTT.out; omega)).mono ?_
            rintro e w11 ⟨rfl, e11⟩
            have WZ := Lib.hid (W10.out.ext e11)
            have OZ := Lib.hid (O10.out.ext e11)
            clear e11 HTL HXL WR OR_ W8 O8 W9 O9 T9 P10 Q10 O10 W10 X8 HNN HAG HTT u1
            go_wp2_with (first | (go_at_call 55; refine (wkeys_calls WZ.out (by have := HL1.out; omega)).mono ?_; rintro e wk ⟨Ak, ck, rfl, ok, ek⟩; have PKk := Lib.hid (show RdE prC wk Ak (keysP x1) from ok.rd); have EKk := Lib.hid ek; clear ok ek) | (go_at_call 56; refine (rkeys_calls A1 c1 x1 wk (show RdE rkC wk A1 x1 from (OZ.out.ext EKk.out).rd) (by have := HL1.out; omega)).mono ?_; rintro e wl ⟨Al, cl, rfl, ol, el⟩; have QKk := Lib.hid (show RdE prC wl Al (keysP x1) from ol.rd); have ELl := Lib.hid el; clear ol el) | (go_at_call 53; refine (rsameP_calls Ak Al ck cl (keysP x1) wl (RdE.ext PKk.out ELl.out) QKk.out (by have := HL1.out; unfold keysP; rw [List.length_map]; omega)).mono ?_; rintro e wm ⟨rfl, em⟩; have EMm := Lib.hid (EKk.out.trans (ELl.out.trans em)); clear em) | (go_at_call 57; refine (wnow_calls (WZ.out.ext EMm.out)).mono ?_; rintro e wn ⟨rfl, rfl⟩)); go_roundw
            case rel => exact ⟨k + 1, n1, x1, A1, c1, by omega, by go_num, rfl, rfl, WZ.out.ext EMm.out, OZ.out.ext EMm.out, by have := HL1.out; omega, by have := HN1.out; omega⟩
            case measure => simp [intOf]; omega
          · have e3 : (kd == 3) = false := by simpa using h3
            clear h1 h2 h3
            go_wp2_with (first | ((with_reducible show wpList _ _ _ ({ dst := some 7, op := Op.alloc 77, type := _, pos := _, after := _, guard := _ } :: _) _ _); refine alA _ rfl 77 rfl _ _ zero_sp ?_; intro g7 w7 hg hs1 k3 e3; have X7 := Lib.hid k3; have T7 := Lib.hid e3; have G7 := Lib.hid (Nat.le_of_eq hg); clear hg hs1 k3 e3) | ((with_reducible show wpList _ _ _ ({ dst := none, op := Op.store 77 _ _, type := _, pos := _, after := _, guard := _ } :: _) _ _); refine stA _ rfl 77 77 _ _ rfl g7 _ (spV ⟨kd, a, b⟩) rfl rfl X7.out size_sp rfl (spV_one _) ?_; intro w8 hs k4 g4; have T8 := Lib.hid (show Ext wr w8 from T7.out.grown g4 (fun k hk => by injection hk with hk; have := G7.out; omega)); have X8 := Lib.hid k4; have W8 := Lib.hid (WR.out.ext T8.out); have O8 := Lib.hid (OR_.out.ext T8.out); have N8 := Lib.hid (WR.out.ne G7.out); obtain ⟨y0, y1, y2⟩ := sp_cells k4; clear hs k4 g4 x0 x1 x2 X7 T7))
            obtain ⟨x1, rfl⟩ : ∃ v, v = x := ⟨x, rfl⟩
            obtain ⟨A1, rfl⟩ : ∃ v, v = A4 := ⟨A4, rfl⟩
            obtain ⟨c1, rfl⟩ : ∃ v, v = c4 := ⟨c4, rfl⟩
            obtain ⟨n1, rfl⟩ : ∃ v, v = now := ⟨now, rfl⟩
            have HL1 : Hid (x1.length ≤ k + 1 ∧ x1.length ≤ 201) := ⟨by have := HXL.out; omega, by omega⟩
            have HN1 : Hid (n1 ≤ k) := HXL.out.2
            have WZ := W8
            have OZ := O8
            clear HXL WR OR_ W8 O8 X8 y0 y1 y2
            go_wp2_with (first | (go_at_call 55; refine (wkeys_calls WZ.out (by have := HL1.out; omega)).mono ?_; rintro e wk ⟨Ak, ck, rfl, ok, ek⟩; have PKk := Lib.hid (show RdE prC wk Ak (keysP x1) from ok.rd); have EKk := Lib.hid ek; clear ok ek) | (go_at_call 56; refine (rkeys_calls A1 c1 x1 wk (show RdE rkC wk A1 x1 from (OZ.out.ext EKk.out).rd) (by have := HL1.out; omega)).mono ?_; rintro e wl ⟨Al, cl, rfl, ol, el⟩; have QKk := Lib.hid (show RdE prC wl Al (keysP x1) from ol.rd); have ELl := Lib.hid el; clear ol el) | (go_at_call 53; refine (rsameP_calls Ak Al ck cl (keysP x1) wl (RdE.ext PKk.out ELl.out) QKk.out (by have := HL1.out; unfold keysP; rw [List.length_map]; omega)).mono ?_; rintro e wm ⟨rfl, em⟩; have EMm := Lib.hid (EKk.out.trans (ELl.out.trans em)); clear em) | (go_at_call 57; refine (wnow_calls (WZ.out.ext EMm.out)).mono ?_; rintro e wn ⟨rfl, rfl⟩)); go_roundw
            case rel => exact ⟨k + 1, n1, x1, A1, c1, by omega, by go_num, rfl, rfl, WZ.out.ext EMm.out, OZ.out.ext EMm.out, by have := HL1.out; omega, by have := HN1.out; omega⟩
            case measure => simp [intOf]; omega
    · have k1 : ¬ (k : Int) < (l.length : Int) := by omega
      go_wp2_with fail
      refine (awake29 _).mono ?_
      rintro e w9 ⟨rfl, x1⟩
      have X := Lib.hid (WR.out.e.trans x1)
      clear x1
      go_wp2_with fail
      go_ret
      exact ⟨rfl, X.out⟩
end Go.Proofs.Ytlgngnkaiidbeaa
