/- The contract of wire.Decode. -/
import Derived.Test.YtlgngnkaiidbeaaWDec2
set_option maxRecDepth 100000
set_option linter.unusedVariables false
set_option linter.unusedSimpArgs false
namespace Go.Proofs.Ytlgngnkaiidbeaa
open Go.RowKit

abbrev Fr := Nat × Nat × Nat × List UInt8 × List UInt8
def zFr : Fr := (0, 0, 0, [], [])
/-- behind the head: kind, fields -/
def decF (bs : List UInt8) (k : Nat) (er : Int) : Fr × Int :=
  let a := numC bs k er 1
  if knownF a.1 = false then (zFr, 5) else
  let s := fldC bs (fS a.1) 1 a.2.1 a.2.2
  let n := fldC bs (fN a.1) 2 s.2.1 s.2.2
  let t := txtC bs (fT a.1) n.2.1 n.2.2
  if t.2.2 ≠ 0 then (zFr, 1) else
  let d := datC bs (fD a.1) t.2.1 t.2.2
  if doneC bs d.2.1 d.2.2 ≠ 0 then (zFr, 2) else
  if wErr a.1 s.1 n.1 t.1 d.1.length ≠ 0 then (zFr, wErr a.1 s.1 n.1 t.1 d.1.length) else ((a.1, s.1, n.1, t.1, d.1), 0)
/-- wire.Decode, by definition -/
def decW (bs : List UInt8) : Fr × Int :=
  let h := numC bs 0 0 2
  if h.2.2 ≠ 0 then (zFr, 1) else
  if bs.length - h.2.1 < h.1 then (zFr, 1) else
  if h.1 < bs.length - h.2.1 then (zFr, 2) else
  if h.1 = 0 then (zFr, 1) else decF bs h.2.1 h.2.2

/-- a frame in new memory, and a value -/
def RetF (w : World) (f : Fr) (x : Value) (e : Ending) (w' : World) : Prop :=
  ∃ A c, e = .returned (.tuple #[fraA f.1 f.2.1 f.2.2.1 ⟨f.2.2.2.1.toArray⟩ A f.2.2.2.2.length c, x]) ∧ OwnB w' w.heap.size A c f.2.2.2.2 ∧ Ext w w'

theorem zero_fra : (Try.prog.info? 65).map (fun i => (i.zero, i.size)) = some (some (.agg zfra), 5) := by kernel_rfl
theorem zero_cur : (Try.prog.info? 165).map (fun i => (i.zero, i.size)) = some (some (.pointer none), 1) := by kernel_rfl
theorem size_cur : (Try.prog.info? 165).map (·.size) = some 1 := by kernel_rfl
theorem size_fra : (Try.prog.info? 65).map (·.size) = some 5 := by kernel_rfl

/-- ahead of the frame's variable: the result's variable, the cursor's, the cursor -/
def DH (w W : World) (g2 gv gc : Nat) (bs : List UInt8) (k : Nat) (er : Int) : Prop :=
  Ext w W ∧ Arr W g2 65 zfra ∧ Arr W gv 165 #[.pointer (some ⟨gc, 0, none⟩)] ∧ Cur W gc bs k er ∧ (w.heap.size ≤ g2 ∧ w.heap.size ≤ gv ∧ w.heap.size ≤ gc) ∧ (g2 ≠ gv ∧ g2 ≠ gc ∧ gv ≠ gc)
theorem DH.cur {w W W1 : World} {g2 gv gc : Nat} {bs : List UInt8} {k k' : Nat} {er er' : Int} (h : DH w W g2 gv gc bs k er) (hg : W.grownBy W1 (some gc)) (hc : Cur W1 gc bs k' er') : DH w W1 g2 gv gc bs k' er' := by
  obtain ⟨h1, h2, h3, h5, h6, h7⟩ := h
  exact ⟨h1.grown hg (fun k hk => by injection hk with hk; omega), h2.grown hg (by intro e; injection e with e; omega), h3.grown hg (by intro e; injection e with e; omega), hc, h6, h7⟩
theorem DH.ext {w W W1 : World} {g2 gv gc : Nat} {bs : List UInt8} {k : Nat} {er : Int} (h : DH w W g2 gv gc bs k er) (e : Ext W W1) : DH w W1 g2 gv gc bs k er :=
  ⟨h.1.trans e, h.2.1.ext e, h.2.2.1.ext e, h.2.2.2.1.ext e, h.2.2.2.2⟩

set_option maxHeartbeats 4000000 in
theorem wdecode_calls (A : Option Addr) (c : Nat) (bs : List UInt8) (w : World) (hb : RdB w A bs) (hl : bs.length ≤ 1000000) :
    Calls Try.prog 119 #[.slice A bs.length c] w (RetF w (decW bs).1 (.int .i64 (decW bs).2)) := by
  have Hb := Lib.hid hb
  clear hb
  have HW : Hid (decW bs = if (numC bs 0 0 2).2.2 ≠ 0 then (zFr, 1) else if bs.length - (numC bs 0 0 2).2.1 < (numC bs 0 0 2).1 then (zFr, 1) else if (numC bs 0 0 2).1 < bs.length - (numC bs 0 0 2).2.1 then (zFr, 2) else if (numC bs 0 0 2).1 = 0 then (zFr, 1) else decF bs (numC bs 0 0 2).2.1 (numC bs 0 0 2).2.2) := rfl
  have hn2 := num2_lt bs 0 0
  go_enter Try.func119, Try.ntmps119
  go_wp2_with ((with_reducible show wpList _ _ _ ({ dst := some 2, op := Op.alloc 65, type := _, pos := _, after := _, guard := _ } :: _) _ _); refine alA _ rfl 65 rfl _ _ zero_fra ?_; intro g2 w1 hg hs1 h1 e1; have HG2 := Lib.hid hg; have A1 := Lib.hid h1; have E1 := Lib.hid e1; clear hg hs1 h1 e1)
  refine (newCursor_calls A c bs _ (Hb.out.ext E1.out) hl).mono ?_
  rintro e w2 ⟨gc, rfl, hgc, c2, e2⟩
  have C2 := Lib.hid c2
  have E2 := Lib.hid (E1.out.trans e2)
  have A2 := Lib.hid (A1.out.ext e2)
  have HGC := Lib.hid (show w.heap.size ≤ gc ∧ g2 < gc from by have := E1.out.size; have := A1.out.lt; omega)
  clear c2 e2 hgc A1 E1
  go_wp2_with (first | ((with_reducible show wpList _ _ _ ({ dst := some 4, op := Op.alloc 165, type := _, pos := _, after := _, guard := _ } :: _) _ _); refine alC _ rfl 165 rfl _ _ zero_cur rfl ?_; intro gv w3 hg hs1 h1 e1; have HGV := Lib.hid (show gc < gv from by have := C2.out.lt; omega); have A3 := Lib.hid (A2.out.ext e1); have C3 := Lib.hid (C2.out.ext e1); have V3 := Lib.hid h1; have E3 := Lib.hid (E2.out.trans e1); clear hg hs1 h1 e1) | ((with_reducible show wpList _ _ _ ({ dst := none, op := Op.store 165 (.tmp 4) (.tmp 14), type := _, pos := _, after := _, guard := _ } :: _) _ _); refine stC _ rfl 165 165 _ _ rfl gv _ (.pointer (some ⟨gc, 0, none⟩)) rfl rfl V3.out size_cur rfl rfl ?_; intro w4 hs1 h1 g1; have D4 := Lib.hid (show DH w w4 g2 gv gc bs 0 0 from ⟨E3.out.grown g1 (fun k hk => by injection hk with hk; have := HGC.out; have := HGV.out; omega), A3.out.grown g1 (by intro e; injection e with e; have := HGC.out; have := HGV.out; omega), h1, C3.out.keep g1 (by have := HGV.out; omega) V3.out (by simp), by have := HG2.out; have := HGC.out; have := HGV.out; omega, by have := HG2.out; have := HGC.out; have := HGV.out; omega⟩); have dv := h1.cell 0; simp at dv; clear hs1 h1 g1 A3 C3 V3 E3))
  refine (cnumber_calls gc bs 0 0 2 _ D4.out.2.2.2.1 hl).mono ?_
  rintro e w5 ⟨rfl, q5, c5⟩
  have D5 := Lib.hid (D4.out.cur q5 c5)
  clear q5 c5 dv D4 A2 C2 E2 HG2 HGC HGV
  have dv := D5.out.2.2.1.cell 0
  simp at dv
  generalize numC bs 0 0 2 = h at *
  obtain ⟨n0, k0, e0⟩ := h
  dsimp only at *
  go_wp2_with fail
  refine (cerr_calls gc bs k0 e0 _ D5.out.2.2.2.1).mono ?_
  rintro e w' ⟨rfl, rfl⟩
  by_cases he0 : ¬ e0 = 0
  · have HX : Hid (decW bs = (zFr, 1)) := by show _ = _; rw [HW.out, if_pos he0]
    have b1 : (e0 != 0) = true := by simpa using he0
    clear he0
    go_wp2_with ((with_reducible show wpList _ _ _ ({ dst := none, op := Op.store 65 (.tmp 2) _, type := _, pos := _, after := _, guard := _ } :: _) _ _); refine stA _ rfl 65 65 _ _ rfl g2 _ zfra rfl rfl D5.out.2.1 size_fra rfl (fra_one 0 0 0 ByteArray.empty none 0 0) ?_; intro w18 hs1 h1 g1; have H18 := Lib.hid h1; have E18 := Lib.hid (D5.out.1.grown g1 (fun k hk => by injection hk with hk; have := D5.out.2.2.2.2.1.1; omega)); clear h1 g1 hs1)
    exact ret_row2 Try.results119 g2 _ _ _ _ rfl rfl H18.out Try.underlying65 rfl size_fra ⟨none, 0, by rw [HX.out]; rfl, by rw [HX.out]; exact OwnB.nil _ _, E18.out⟩
  obtain rfl : e0 = 0 := by omega
  clear he0
  have HW1 : Hid (decW bs = if bs.length - k0 < n0 then (zFr, 1) else if n0 < bs.length - k0 then (zFr, 2) else if n0 = 0 then (zFr, 1) else decF bs k0 0) := by show _ = _; rw [HW.out, if_neg (by simp)]
  have HLf : Hid (∀ W, Cur W gc bs k0 0 → Calls Try.prog 141 #[.pointer (some ⟨gc, 0, none⟩)] W fun e w' => e = .returned (.int .i64 ((bs.length - k0 : Nat) : Int)) ∧ ∃ n, w' = W.drewN n) := fun W hc => cleft_calls gc bs k0 0 W hc hl
  have hq1 : bs.length - k0 ≤ 1000000 := by omega
  generalize hq : bs.length - k0 = q at *
  clear HW hq
  have hwq : IntKind.u64.wrap (q : Int) = (q : Int) := by rw [IntKind.wrap_u64]; omega
  go_wp2_with fail
  refine (HLf.out _ D5.out.2.2.2.1).mono ?_
  rintro e w6 ⟨rfl, n6, h6⟩
  have D6 := Lib.hid (D5.out.ext (show Ext w5 w6 from by rw [h6]; exact (Ext.refl _).drewN n6))
  clear h6
  have dv6 := D6.out.2.2.1.cell 0
  simp at dv6
  clear dv
  by_cases hlt : q < n0
  · have HX : Hid (decW bs = (zFr, 1)) := by show _ = _; rw [HW1.out, if_pos hlt]
    go_wp2_with ((with_reducible show wpList _ _ _ ({ dst := none, op := Op.store 65 (.tmp 2) _, type := _, pos := _, after := _, guard := _ } :: _) _ _); refine stA _ rfl 65 65 _ _ rfl g2 _ zfra rfl rfl D6.out.2.1 size_fra rfl (fra_one 0 0 0 ByteArray.empty none 0 0) ?_; intro w18 hs1 h1 g1; have H18 := Lib.hid h1; have E18 := Lib.hid (D6.out.1.grown g1 (fun k hk => by injection hk with hk; have := D6.out.2.2.2.2.1.1; omega)); clear h1 g1 hs1)
    exact ret_row2 Try.results119 g2 _ _ _ _ rfl rfl H18.out Try.underlying65 rfl size_fra ⟨none, 0, by rw [HX.out]; rfl, by rw [HX.out]; exact OwnB.nil _ _, E18.out⟩
  go_wp2_with fail
  refine (HLf.out _ D6.out.2.2.2.1).mono ?_
  rintro e w7 ⟨rfl, n7, h7⟩
  have D7 := Lib.hid (D6.out.ext (show Ext w6 w7 from by rw [h7]; exact (Ext.refl _).drewN n7))
  clear h7
  clear dv6
  by_cases hgt : n0 < q
  · have HX : Hid (decW bs = (zFr, 2)) := by show _ = _; rw [HW1.out, if_neg hlt, if_pos hgt]
    go_wp2_with ((with_reducible show wpList _ _ _ ({ dst := none, op := Op.store 65 (.tmp 2) _, type := _, pos := _, after := _, guard := _ } :: _) _ _); refine stA _ rfl 65 65 _ _ rfl g2 _ zfra rfl rfl D7.out.2.1 size_fra rfl (fra_one 0 0 0 ByteArray.empty none 0 0) ?_; intro w18 hs1 h1 g1; have H18 := Lib.hid h1; have E18 := Lib.hid (D7.out.1.grown g1 (fun k hk => by injection hk with hk; have := D7.out.2.2.2.2.1.1; omega)); clear h1 g1 hs1)
    exact ret_row2 Try.results119 g2 _ _ _ _ rfl rfl H18.out Try.underlying65 rfl size_fra ⟨none, 0, by rw [HX.out]; rfl, by rw [HX.out]; exact OwnB.nil _ _, E18.out⟩
  by_cases hz : n0 = 0
  · have HX : Hid (decW bs = (zFr, 1)) := by show _ = _; rw [HW1.out, if_neg hlt, if_neg hgt, if_pos hz]
    subst hz
    go_wp2_with ((with_reducible show wpList _ _ _ ({ dst := none, op := Op.store 65 (.tmp 2) _, type := _, pos := _, after := _, guard := _ } :: _) _ _); refine stA _ rfl 65 65 _ _ rfl g2 _ zfra rfl rfl D7.out.2.1 size_fra rfl (fra_one 0 0 0 ByteArray.empty none 0 0) ?_; intro w18 hs1 h1 g1; have H18 := Lib.hid h1; have E18 := Lib.hid (D7.out.1.grown g1 (fun k hk => by injection hk with hk; have := D7.out.2.2.2.2.1.1; omega)); clear h1 g1 hs1)
    exact ret_row2 Try.results119 g2 _ _ _ _ rfl rfl H18.out Try.underlying65 rfl size_fra ⟨none, 0, by rw [HX.out]; rfl, by rw [HX.out]; exact OwnB.nil _ _, E18.out⟩
  have hz' : ((n0 : Int) == 0) = false := beq_eq_false_iff_ne.2 (by omega)
  have HW2 : Hid (decW bs = decF bs k0 0) := by show _ = _; rw [HW1.out, if_neg hlt, if_neg hgt, if_neg hz]
  clear HW1 hz
  have dv7 := D7.out.2.2.1.cell 0
  simp at dv7
  have ha1 := num1_lt bs k0 0
  have HF : Hid (decF bs k0 0 = if knownF (numC bs k0 0 1).1 = false then (zFr, 5) else
     if (txtC bs (fT (numC bs k0 0 1).1) (fldC bs (fN (numC bs k0 0 1).1) 2 (fldC bs (fS (numC bs k0 0 1).1) 1 (numC bs k0 0 1).2.1 (numC bs k0 0 1).2.2).2.1 (fldC bs (fS (numC bs k0 0 1).1) 1 (numC bs k0 0 1).2.1 (numC bs k0 0 1).2.2).2.2).2.1 (fldC bs (fN (numC bs k0 0 1).1) 2 (fldC bs (fS (numC bs k0 0 1).1) 1 (numC bs k0 0 1).2.1 (numC bs k0 0 1).2.2).2.1 (fldC bs (fS (numC bs k0 0 1).1) 1 (numC bs k0 0 1).2.1 (numC bs k0 0 1).2.2).2.2).2.2).2.2 ≠ 0 then (zFr, 1) else (decF bs k0 0)) := by
    show _ = _
    by_cases h1 : knownF (numC bs k0 0 1).1 = false
    · rw [if_pos h1, decF]; simp only []; rw [if_pos h1]
    · rw [if_neg h1]
      split
      · rename_i h2; rw [decF]; simp only []; rw [if_neg h1, if_pos h2]
      · rfl
  have HFin : Hid (∀ a s n t d : _, a = numC bs k0 0 1 → s = fldC bs (fS a.1) 1 a.2.1 a.2.2 → n = fldC bs (fN a.1) 2 s.2.1 s.2.2 → t = txtC bs (fT a.1) n.2.1 n.2.2 → d = datC bs (fD a.1) t.2.1 t.2.2 →
      decF bs k0 0 = if knownF a.1 = false then (zFr, 5) else if t.2.2 ≠ 0 then (zFr, 1) else if doneC bs d.2.1 d.2.2 ≠ 0 then (zFr, 2) else
       if wErr a.1 s.1 n.1 t.1 d.1.length ≠ 0 then (zFr, wErr a.1 s.1 n.1 t.1 d.1.length) else ((a.1, s.1, n.1, t.1, d.1), 0)) := by
    rintro a s n t d rfl rfl rfl rfl rfl
    rfl
  clear HF
  have HNM : Hid (∀ W, Cur W gc bs k0 0 → Calls Try.prog 118 #[.pointer (some ⟨gc, 0, none⟩), .int .i64 1] W (RetCV W gc bs (.int .u64 (numC bs k0 0 1).1) (numC bs k0 0 1).2.1 (numC bs k0 0 1).2.2)) := fun W hc => cnumber_calls gc bs k0 0 1 W hc hl
  obtain ⟨a, hA⟩ : ∃ a, a = numC bs k0 0 1 := ⟨_, rfl⟩
  have HA := Lib.hid hA
  rw [← hA] at HNM ha1
  clear hA
  obtain ⟨kd, k1, e1⟩ := a
  dsimp only at *
  have hwk : wrap64 (kd : Int) = (kd : Int) := by unfold wrap64; omega
  go_wp2_with fail
  refine (HNM.out _ D7.out.2.2.2.1).mono ?_
  rintro e w8 ⟨rfl, q8, c8⟩
  have D8 := Lib.hid (D7.out.cur q8 c8)
  clear q8 c8 dv7 D7 D6 D5 HNM HLf
  go_wp2_with (first | ((with_reducible show wpList _ _ _ ({ dst := some 6, op := Op.alloc 65, type := _, pos := _, after := _, guard := _ } :: _) _ _); refine alA _ rfl 65 rfl _ _ zero_fra ?_; intro g6 w9 hg hs1 h1 e1'; have HG6 := Lib.hid (show w.heap.size ≤ g6 ∧ g2 < g6 ∧ gv < g6 ∧ gc < g6 from by have := D8.out.1.size; have := D8.out.2.1.lt; have := D8.out.2.2.1.lt; have := D8.out.2.2.2.1.lt; omega); have D9 := Lib.hid (D8.out.ext e1'); have A9 := Lib.hid h1; clear hg hs1 h1 e1') | ((with_reducible show wpList _ _ _ ({ dst := none, op := Op.store 65 (.tmp 6) _, type := _, pos := _, after := _, guard := _ } :: _) _ _); refine stA _ rfl 65 65 _ _ rfl g6 _ (fraV kd 0 0 ByteArray.empty (.slice none 0 0)) rfl rfl A9.out size_fra rfl (fra_one _ _ _ _ _ _ _) ?_; intro w10 hs1 h1 g1; have D10 := Lib.hid (show DG w w10 g2 gv g6 gc kd 0 0 ByteArray.empty none 0 [] bs k1 e1 from ⟨D9.out.1.grown g1 (fun k hk => by injection hk with hk; have := HG6.out; omega), D9.out.2.1.grown g1 (by intro e; injection e with e; have := HG6.out; omega), D9.out.2.2.1.grown g1 (by intro e; injection e with e; have := HG6.out; omega), h1, D9.out.2.2.2.1.keep g1 (by have := HG6.out; omega) A9.out (fraV_no8 0 0 0 _ _ _ _), by have := HG6.out; have := D9.out.2.2.2.2.1; omega, by have := HG6.out; have := D9.out.2.2.2.2.2; omega, OwnB.nil _ _⟩); have d0 := h1.cell 0; simp [fraV] at d0; clear hs1 h1 g1 A9 D9))
  refine (wknown_calls kd _).mono ?_
  rintro e w' ⟨rfl, rfl⟩
  cases hkn : knownF (kd : Int)
  · have HX : Hid (decW bs = (zFr, 5)) := by show _ = _; rw [HW2.out, HFin.out _ _ _ _ _ HA.out rfl rfl rfl rfl, if_pos hkn]
    clear d0
    go_wp2_with ((with_reducible show wpList _ _ _ ({ dst := none, op := Op.store 65 (.tmp 2) _, type := _, pos := _, after := _, guard := _ } :: _) _ _); refine stA _ rfl 65 65 _ _ rfl g2 _ zfra rfl rfl D10.out.2.1 size_fra rfl (fra_one 0 0 0 ByteArray.empty none 0 0) ?_; intro w18 hs1 h1 g1; have H18 := Lib.hid h1; have E18 := Lib.hid (D10.out.1.grown g1 (fun k hk => by injection hk with hk; have := D10.out.2.2.2.2.2.1.1; omega)); clear h1 g1 hs1)
    exact ret_row2 Try.results119 g2 _ _ _ _ rfl rfl H18.out Try.underlying65 rfl size_fra ⟨none, 0, by rw [HX.out]; rfl, by rw [HX.out]; exact OwnB.nil _ _, E18.out⟩
  clear D8
  go_wp2_with fail
  refine (whas_calls kd _).mono ?_
  rintro e w' ⟨rfl, rfl⟩
  go_wp2_with fail
  refine (wdec_s (fS kd) w _ g2 gv g6 gc _ _ _ _ _ _ bs k1 e1 D10.out hl).mono ?_
  rintro e w11 ⟨rfl, d11⟩
  have D11 := Lib.hid d11
  clear d11 D10 d0
  obtain ⟨s, hS⟩ : ∃ s, s = fldC bs (fS kd) 1 k1 e1 := ⟨_, rfl⟩
  have HS := Lib.hid hS
  rw [← hS] at D11
  clear hS
  obtain ⟨s1, k2, e2⟩ := s
  dsimp only at D11
  go_wp2_with fail
  refine (wdec_n (fN kd) w _ g2 gv g6 gc _ _ _ _ _ _ bs k2 e2 D11.out hl).mono ?_
  rintro e w12 ⟨rfl, d12⟩
  have D12 := Lib.hid d12
  clear d12 D11
  obtain ⟨s, hS⟩ : ∃ s, s = fldC bs (fN kd) 2 k2 e2 := ⟨_, rfl⟩
  have HN := Lib.hid hS
  rw [← hS] at D12
  clear hS
  obtain ⟨n1, k3, e3⟩ := s
  dsimp only at D12
  go_wp2_with fail
  refine (wdec_t (fT kd) w _ g2 gv g6 gc _ _ _ _ _ _ bs k3 e3 D12.out hl).mono ?_
  rintro e w13 ⟨rfl, d13⟩
  have D13 := Lib.hid d13
  clear d13 D12
  obtain ⟨s, hS⟩ : ∃ s, s = txtC bs (fT kd) k3 e3 := ⟨_, rfl⟩
  have HT := Lib.hid hS
  rw [← hS] at D13
  clear hS
  obtain ⟨t1, k4, e4⟩ := s
  dsimp only at D13
  have dv := D13.out.2.2.1.cell 0
  simp at dv
  go_wp2_with fail
  refine (cerr_calls gc bs k4 e4 _ D13.out.2.2.2.2.1).mono ?_
  rintro e w' ⟨rfl, rfl⟩
  clear dv
  by_cases he4 : ¬ e4 = 0
  · have HX : Hid (decW bs = (zFr, 1)) := by show _ = _; rw [HW2.out, HFin.out _ _ _ _ _ HA.out HS.out HN.out HT.out rfl, if_neg (by simp [hkn]), if_pos he4]
    have b1 : (e4 != 0) = true := by simpa using he4
    clear he4
    go_wp2_with ((with_reducible show wpList _ _ _ ({ dst := none, op := Op.store 65 (.tmp 2) _, type := _, pos := _, after := _, guard := _ } :: _) _ _); refine stA _ rfl 65 65 _ _ rfl g2 _ zfra rfl rfl D13.out.2.1 size_fra rfl (fra_one 0 0 0 ByteArray.empty none 0 0) ?_; intro w18 hs1 h1 g1; have H18 := Lib.hid h1; have E18 := Lib.hid (D13.out.1.grown g1 (fun k hk => by injection hk with hk; have := D13.out.2.2.2.2.2.1.1; omega)); clear h1 g1 hs1)
    exact ret_row2 Try.results119 g2 _ _ _ _ rfl rfl H18.out Try.underlying65 rfl size_fra ⟨none, 0, by rw [HX.out]; rfl, by rw [HX.out]; exact OwnB.nil _ _, E18.out⟩
  obtain rfl : e4 = 0 := by omega
  clear he4
  go_wp2_with fail
  refine (wdec_d (fD kd) w _ g2 gv g6 gc _ _ _ _ bs k4 0 D13.out hl).mono ?_
  rintro e w14 ⟨rfl, A5, c5, d14⟩
  have D14 := Lib.hid d14
  clear d14 D13
  obtain ⟨s, hS⟩ : ∃ s, s = datC bs (fD kd) k4 0 := ⟨_, rfl⟩
  have HDt := Lib.hid hS
  rw [← hS] at D14
  clear hS
  obtain ⟨d1, k5, e5⟩ := s
  dsimp only at D14
  have HFN : Hid (decW bs = if doneC bs k5 e5 ≠ 0 then (zFr, 2) else if wErr kd s1 n1 t1 d1.length ≠ 0 then (zFr, wErr kd s1 n1 t1 d1.length) else ((kd, s1, n1, t1, d1), 0)) := by
    show _ = _; rw [HW2.out, HFin.out _ _ _ _ _ HA.out HS.out HN.out HT.out HDt.out, if_neg (by simp [hkn]), if_neg (by simp)]
  clear HFin HA HS HN HT HDt HW2
  have dv := D14.out.2.2.1.cell 0
  simp at dv
  go_wp2_with fail
  refine (cdone_calls gc bs k5 e5 _ D14.out.2.2.2.2.1 hl).mono ?_
  rintro e w15 ⟨rfl, n15, h15⟩
  have D15 := Lib.hid (D14.out.ext (show Ext w14 w15 from by rw [h15]; exact (Ext.refl _).drewN n15))
  clear h15 D14 dv
  generalize doneC bs k5 e5 = dn at *
  by_cases hdn : ¬ dn = 0
  · have HX : Hid (decW bs = (zFr, 2)) := by show _ = _; rw [HFN.out, if_pos hdn]
    have b1 : (dn != 0) = true := by simpa using hdn
    clear hdn
    go_wp2_with ((with_reducible show wpList _ _ _ ({ dst := none, op := Op.store 65 (.tmp 2) _, type := _, pos := _, after := _, guard := _ } :: _) _ _); refine stA _ rfl 65 65 _ _ rfl g2 _ zfra rfl rfl D15.out.2.1 size_fra rfl (fra_one 0 0 0 ByteArray.empty none 0 0) ?_; intro w18 hs1 h1 g1; have H18 := Lib.hid h1; have E18 := Lib.hid (D15.out.1.grown g1 (fun k hk => by injection hk with hk; have := D15.out.2.2.2.2.2.1.1; omega)); clear h1 g1 hs1)
    exact ret_row2 Try.results119 g2 _ _ _ _ rfl rfl H18.out Try.underlying65 rfl size_fra ⟨none, 0, by rw [HX.out]; rfl, by rw [HX.out]; exact OwnB.nil _ _, E18.out⟩
  obtain rfl : dn = 0 := by omega
  clear hdn
  have d0 := D15.out.2.2.2.1.cell 0
  have d1' := D15.out.2.2.2.1.cell 1
  have d2 := D15.out.2.2.2.1.cell 2
  have d3 := D15.out.2.2.2.1.cell 3
  have d4 := D15.out.2.2.2.1.cell 4
  simp [fraV] at d0 d1' d2 d3 d4
  go_wp2_with fail
  refine (wcheck_calls kd s1 n1 ⟨t1.toArray⟩ A5 d1.length c5 _).mono ?_
  rintro e w16 ⟨rfl, e16⟩
  have D16 := Lib.hid (D15.out.ext e16)
  clear e16 D15 d0 d1' d2 d3 d4
  have HFM : Hid (decW bs = if wErr kd s1 n1 t1 d1.length ≠ 0 then (zFr, wErr kd s1 n1 t1 d1.length) else ((kd, s1, n1, t1, d1), 0)) := by show _ = _; rw [HFN.out, if_neg (by simp)]
  have htt : (⟨t1.toArray⟩ : ByteArray).data.toList = t1 := by simp
  rw [htt]
  clear htt HFN
  generalize wErr kd s1 n1 t1 d1.length = er at *
  by_cases her : ¬ er = 0
  · have HX : Hid (decW bs = (zFr, er)) := by show _ = _; rw [HFM.out, if_pos her]
    have b1 : (er != 0) = true := by simpa using her
    clear her
    go_wp2_with ((with_reducible show wpList _ _ _ ({ dst := none, op := Op.store 65 (.tmp 2) _, type := _, pos := _, after := _, guard := _ } :: _) _ _); refine stA _ rfl 65 65 _ _ rfl g2 _ zfra rfl rfl D16.out.2.1 size_fra rfl (fra_one 0 0 0 ByteArray.empty none 0 0) ?_; intro w18 hs1 h1 g1; have H18 := Lib.hid h1; have E18 := Lib.hid (D16.out.1.grown g1 (fun k hk => by injection hk with hk; have := D16.out.2.2.2.2.2.1.1; omega)); clear h1 g1 hs1)
    exact ret_row2 Try.results119 g2 _ _ _ _ rfl rfl H18.out Try.underlying65 rfl size_fra ⟨none, 0, by rw [HX.out]; rfl, by rw [HX.out]; exact OwnB.nil _ _, E18.out⟩
  obtain rfl : er = 0 := by omega
  clear her
  have HX : Hid (decW bs = ((kd, s1, n1, t1, d1), 0)) := by show _ = _; rw [HFM.out, if_neg (by simp)]
  clear HFM
  go_wp2_with (first | ((with_reducible show wpList _ _ _ ({ dst := some 84, op := Op.load 65 _, type := _, pos := _, after := _, guard := _ } :: _) _ _); refine ldA _ rfl 65 65 _ rfl g6 rfl (fraV kd s1 n1 ⟨t1.toArray⟩ (.slice A5 d1.length c5)) _ D16.out.2.2.2.1 Try.underlying65 rfl size_fra ?_) | ((with_reducible show wpList _ _ _ ({ dst := none, op := Op.store 65 (.tmp 2) _, type := _, pos := _, after := _, guard := _ } :: _) _ _); refine stA _ rfl 65 65 _ _ rfl g2 _ (fraV kd s1 n1 ⟨t1.toArray⟩ (.slice A5 d1.length c5)) rfl rfl D16.out.2.1 size_fra rfl (fra_one _ _ _ _ _ _ _) ?_; intro w18 hs1 h1 g1; have H18 := Lib.hid h1; have O18 := Lib.hid (D16.out.2.2.2.2.2.2.2.keep g1 (.inr (own_ne_arr D16.out.2.2.2.2.2.2.2 D16.out.2.1 (by decide)))); have E18 := Lib.hid (D16.out.1.grown g1 (fun k hk => by injection hk with hk; have := D16.out.2.2.2.2.2.1.1; omega)); clear h1 g1 hs1))
  exact ret_row2 Try.results119 g2 _ _ _ _ rfl rfl H18.out Try.underlying65 rfl size_fra ⟨A5, c5, by rw [HX.out]; rfl, by rw [HX.out]; exact O18.out, E18.out⟩
end Go.Proofs.Ytlgngnkaiidbeaa
