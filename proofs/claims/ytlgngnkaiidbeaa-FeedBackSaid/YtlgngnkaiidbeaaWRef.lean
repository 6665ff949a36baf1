/- ref21.Bytes, way by way (written by wip/genwref.py). -/
import Derived.Test.YtlgngnkaiidbeaaPlainWire2
set_option maxRecDepth 100000
set_option linter.unusedVariables false
set_option linter.unusedSimpArgs false
namespace Go.Proofs.Ytlgngnkaiidbeaa
open Go.RowKit

set_option maxHeartbeats 1000000 in
theorem rtext_calls (ten : ByteArray) (w : World) (ht : ten.size ≤ 100000) :
    Calls Try.prog 121 #[.int .i64 1, .string ten] w (RetB w (leB 1 ten.size ++ ten.data.toList)) := by
  have hw2 : IntKind.u64.wrap (ten.size : Int) = (ten.size : Int) := by rw [IntKind.wrap_u64]; omega
  go_enter Try.func121, Try.ntmps121
  go_wp2_with fail
  refine (bytes_calls 1 ten.size _ (by omega) (by omega)).mono ?_
  rintro e w1 ⟨A1, c1, rfl, o1, e1⟩
  have O1 := Lib.hid o1
  have E1 := Lib.hid e1
  have hl : (leB 1 ten.size).length ≤ 1 := by rw [leB_length]; omega
  clear o1 e1
  generalize leB 1 ten.size = L at *
  go_wp2_with (at_builtin; refine appS _ rfl (.tmp 9) (.tmp 10) rfl w.heap.size A1 c1 L rfl ten rfl ?_ O1.out ?c1 ?c2; intro A2 c2 w2 h2 g2; have O2 := Lib.hid h2; have E2 := Lib.hid (E1.out.grown g2 (fun g hg => (O1.out.base_ g hg).1)); clear h2 g2)
  case c1 => omega
  case c2 => exact E1.out.size
  go_ret
  exact ⟨A2, c2, by rw [List.length_append]; rfl, O2.out, E2.out⟩

/-- the frame's variable, bytes of the call's own -/
def RF (w W : World) (g : Nat) (fra : Array Value) (A : Option Addr) (c : Nat) (bs : List UInt8) : Prop :=
  Ext w W ∧ w.heap.size = g ∧ Arr W g 65 fra ∧ OwnB W w.heap.size A c bs
theorem RF.app {w W W1 W2 : World} {g : Nat} {fra : Array Value} {A A' : Option Addr} {c c' : Nat} {bs bs' : List UInt8} (h : RF w W g fra A c bs) (e : Ext W W1) (hg : W1.grownBy W2 (blk A)) (ho : OwnB W2 w.heap.size A' c' bs') : RF w W2 g fra A' c' bs' :=
  ⟨(h.1.trans e).grown hg (fun k hk => (h.2.2.2.base_ k hk).1), h.2.1, (h.2.2.1.ext e).grown hg (fun q => own_ne_arr (h.2.2.2.ext e) (h.2.2.1.ext e) (by decide) q.symm), ho⟩
theorem RF.cells {w W : World} {g : Nat} {a0 a1 a2 a3 a4 : Value} {A : Option Addr} {c : Nat} {bs : List UInt8} (h : RF w W g #[a0, a1, a2, a3, a4] A c bs) :
    W.cell? ⟨g, 0, none⟩ = some a0 ∧ W.cell? ⟨g, 1, none⟩ = some a1 ∧ W.cell? ⟨g, 2, none⟩ = some a2 ∧ W.cell? ⟨g, 3, none⟩ = some a3 ∧ W.cell? ⟨g, 4, none⟩ = some a4 :=
  ⟨h.2.2.1.cell 0, h.2.2.1.cell 1, h.2.2.1.cell 2, h.2.2.1.cell 3, h.2.2.1.cell 4⟩
theorem RF.ext {w W W1 : World} {g : Nat} {fra : Array Value} {A : Option Addr} {c : Nat} {bs : List UInt8} (h : RF w W g fra A c bs) (e : Ext W W1) : RF w W1 g fra A c bs :=
  ⟨h.1.trans e, h.2.1, h.2.2.1.ext e, h.2.2.2.ext e⟩
theorem OwnB.one (w : World) (base : Nat) (hb : base ≤ w.heap.size) (b : UInt8) : OwnB (w.alloc (.cells #[.int .u8 (b.toNat : Int)] 5)) base (some ⟨w.heap.size, 0, none⟩) 1 [b] :=
  ⟨rfl, .inr ⟨w.heap.size, 1, #[.int .u8 (b.toNat : Int)], rfl, hb, heap_alloc_new w _, Nat.le_refl _, by simp [maxLen], rfl, rfl⟩⟩
theorem u8_of {n : Nat} (h : n < 256) : IntKind.u8.wrap (n : Int) = ((UInt8.ofNat n).toNat : Int) := by
  rw [ofNat_toNat]
  simp only [IntKind.wrap, IntKind.signed, IntKind.bits]
  simp

set_option maxHeartbeats 2000000 in
theorem rwb_000 (k s n : Nat) (t : ByteArray) (A : Option Addr) (c : Nat) (d : List UInt8) (w : World) (hS : fS k = false) (hN : fN k = false) (hT : fT k = false) (hk : k < 256) (hs : s < 256) (hn : n < 65536) (ht : t.size ≤ 100) (hd : d.length ≤ 200) (hT0 : fT k = false → t.data.toList = []) (hr : RdB w A d) :
    Calls Try.prog 88 #[fraA k s n t A d.length c] w (RetB w (wireB k s n t.data.toList d)) := by
  have HR := Lib.hid hr
  have HSb := Lib.hid hS
  have HNb := Lib.hid hN
  have HTb := Lib.hid hT
  have HT0 := Lib.hid hT0
  clear hr hS hN hT hT0
  have hw1 := u8_of hk
  have hw2 := u8_of hs
  have HW1 := Lib.hid hw1
  have HW2 := Lib.hid hw2
  have hw3 : IntKind.u64.wrap (n : Int) = (n : Int) := by rw [IntKind.wrap_u64]; omega
  have HBq := Lib.hid (wBody_eq k s n t.data.toList d)
  rw [HSb.out, HNb.out, HTb.out] at HBq
  have HL1 : Hid (leB 1 k = [UInt8.ofNat k]) := rfl
  have HL2 : Hid (leB 1 s = [UInt8.ofNat s]) := rfl
  generalize hbk : UInt8.ofNat k = bk at *
  generalize hbs : UInt8.ofNat s = bS at *
  clear hbk hbs
  unfold fraA
  go_enter Try.func88, Try.ntmps88
  go_wp2_with ((with_reducible show wpList _ _ _ ({ dst := some 1, op := Op.box 65 _, type := _, pos := _, after := _, guard := _ } :: _) _ _); refine bxA _ rfl 65 _ rfl _ rfl ?_; intro g w1 hg hs1 h1 e1; have HG := Lib.hid hg; have H1 := Lib.hid h1; have E1 := Lib.hid e1; have d0 := h1.cell 0; have dA := (h1.ext ((Ext.refl _).alloc (.cells #[.int .u8 (bk.toNat : Int)] 5))).cell 0; simp at d0; rw [show (#[.int .i64 k, .int .i64 s, .int .i64 n, .string t, .slice A d.length c] : Array Value)[0]? = some (.int .i64 k) from rfl] at dA; clear h1 e1 hs1 hg)
  have N0 : Hid (RF w (w1.alloc (.cells #[.int .u8 (bk.toNat : Int)] 5)) g #[.int .i64 k, .int .i64 s, .int .i64 n, .string t, .slice A d.length c] (some ⟨w1.heap.size, 0, none⟩) 1 [bk]) :=
    ⟨E1.out.alloc _, HG.out, H1.out.ext ((Ext.refl _).alloc _), OwnB.one w1 w.heap.size E1.out.size bk⟩
  clear d0 dA H1
  refine (rwS k _).mono ?_
  rintro e w2 ⟨rfl, e2⟩
  have N2 := Lib.hid (N0.out.ext e2)
  obtain ⟨d0, d1, d2, d3, d4⟩ := N2.out.cells
  rw [HSb.out]
  clear e2 N0
  go_wp2_with fail
  refine (rwN k _).mono ?_
  rintro e w4 ⟨rfl, e4⟩
  have N4 := Lib.hid (N2.out.ext e4)
  clear d0 d1 d2 d3 d4
  obtain ⟨d0, d1, d2, d3, d4⟩ := N4.out.cells
  rw [HNb.out]
  clear e4 N2
  go_wp2_with fail
  refine (rwT k _).mono ?_
  rintro e w7 ⟨rfl, e7⟩
  have N7 := Lib.hid (N4.out.ext e7)
  clear d0 d1 d2 d3 d4
  obtain ⟨d0, d1, d2, d3, d4⟩ := N7.out.cells
  rw [HTb.out]
  clear e7 N4
  obtain ⟨B, hB⟩ : ∃ B, [bk] ++ d = B := ⟨_, rfl⟩
  have hBl : B.length ≤ 400 := by rw [← hB, List.length_append]; have := (show [bk].length ≤ 1 by rw [(show [bk].length = 1 by simp)]; omega); omega
  have HBB := Lib.hid hB
  have HBody : Hid (wBody k s n t.data.toList d = B) := by
    show _ = _
    rw [HBq.out, ← HBB.out]
    simp [opt, HL1.out, HL2.out, HT0.out HTb.out]
  have HWB : Hid (wireB k s n t.data.toList d = leB 2 B.length ++ B) := by show _ = _; rw [wireB_eq, HBody.out]
  have hwB : IntKind.u64.wrap (B.length : Int) = (B.length : Int) := by rw [IntKind.wrap_u64]; omega
  clear hB HBq
  go_wp2_with (first | ((with_reducible show wpList _ _ _ ({ dst := some 37, op := _, type := _, pos := _, after := _, guard := _ } :: _) _ _); refine appB _ rfl (.tmp 34) (.tmp 36) rfl w.heap.size (some ⟨w1.heap.size, 0, none⟩) 1 [bk] rfl A c d rfl ?_ N7.out.2.2.2 (HR.out.ext N7.out.1) (by have := (show [bk].length ≤ 1 by rw [(show [bk].length = 1 by simp)]; omega); omega) N7.out.1.size; rw [HBB.out]; intro A10 c10 w10 h10 g10 k10; have N10 := Lib.hid (N7.out.app (Ext.refl _) g10 h10); clear h10 g10 k10))
  refine (bytes_calls 2 B.length _ (by omega) (by omega)).mono ?_
  rintro e w11 ⟨A11, c11, rfl, o11, e11⟩
  have O11 := Lib.hid o11
  have E11 := Lib.hid e11
  clear o11 e11
  have hl11 : (leB 2 B.length).length = 2 := leB_length _ _
  generalize leB 2 B.length = L11 at *
  have HL11 := Lib.hid hl11
  clear hl11
  go_wp2_with (at_builtin; refine appB _ rfl (.tmp 41) (.tmp 42) rfl w10.heap.size A11 c11 L11 rfl A10 c10 B rfl ?_ O11.out (N10.out.2.2.2.ext E11.out).rd (by rw [HL11.out]; omega) E11.out.size; intro A12 c12 w12 h12 g12 k12; have O12 := Lib.hid h12; have E12 := Lib.hid ((N10.out.1.trans E11.out).grown g12 (fun k hk => by have := (O11.out.base_ k hk).1; have := N10.out.1.size; omega)); clear h12 g12 k12)
  go_ret
  rw [HWB.out]
  exact ⟨A12, c12, by rw [List.length_append]; rfl, O12.out.lower N10.out.1.size, E12.out⟩

set_option maxHeartbeats 2000000 in
theorem rwb_001 (k s n : Nat) (t : ByteArray) (A : Option Addr) (c : Nat) (d : List UInt8) (w : World) (hS : fS k = false) (hN : fN k = false) (hT : fT k = true) (hk : k < 256) (hs : s < 256) (hn : n < 65536) (ht : t.size ≤ 100) (hd : d.length ≤ 200) (hT0 : fT k = false → t.data.toList = []) (hr : RdB w A d) :
    Calls Try.prog 88 #[fraA k s n t A d.length c] w (RetB w (wireB k s n t.data.toList d)) := by
  have HR := Lib.hid hr
  have HSb := Lib.hid hS
  have HNb := Lib.hid hN
  have HTb := Lib.hid hT
  have HT0 := Lib.hid hT0
  clear hr hS hN hT hT0
  have hw1 := u8_of hk
  have hw2 := u8_of hs
  have HW1 := Lib.hid hw1
  have HW2 := Lib.hid hw2
  have hw3 : IntKind.u64.wrap (n : Int) = (n : Int) := by rw [IntKind.wrap_u64]; omega
  have HBq := Lib.hid (wBody_eq k s n t.data.toList d)
  rw [HSb.out, HNb.out, HTb.out] at HBq
  have HL1 : Hid (leB 1 k = [UInt8.ofNat k]) := rfl
  have HL2 : Hid (leB 1 s = [UInt8.ofNat s]) := rfl
  generalize hbk : UInt8.ofNat k = bk at *
  generalize hbs : UInt8.ofNat s = bS at *
  clear hbk hbs
  unfold fraA
  go_enter Try.func88, Try.ntmps88
  go_wp2_with ((with_reducible show wpList _ _ _ ({ dst := some 1, op := Op.box 65 _, type := _, pos := _, after := _, guard := _ } :: _) _ _); refine bxA _ rfl 65 _ rfl _ rfl ?_; intro g w1 hg hs1 h1 e1; have HG := Lib.hid hg; have H1 := Lib.hid h1; have E1 := Lib.hid e1; have d0 := h1.cell 0; have dA := (h1.ext ((Ext.refl _).alloc (.cells #[.int .u8 (bk.toNat : Int)] 5))).cell 0; simp at d0; rw [show (#[.int .i64 k, .int .i64 s, .int .i64 n, .string t, .slice A d.length c] : Array Value)[0]? = some (.int .i64 k) from rfl] at dA; clear h1 e1 hs1 hg)
  have N0 : Hid (RF w (w1.alloc (.cells #[.int .u8 (bk.toNat : Int)] 5)) g #[.int .i64 k, .int .i64 s, .int .i64 n, .string t, .slice A d.length c] (some ⟨w1.heap.size, 0, none⟩) 1 [bk]) :=
    ⟨E1.out.alloc _, HG.out, H1.out.ext ((Ext.refl _).alloc _), OwnB.one w1 w.heap.size E1.out.size bk⟩
  clear d0 dA H1
  refine (rwS k _).mono ?_
  rintro e w2 ⟨rfl, e2⟩
  have N2 := Lib.hid (N0.out.ext e2)
  obtain ⟨d0, d1, d2, d3, d4⟩ := N2.out.cells
  rw [HSb.out]
  clear e2 N0
  go_wp2_with fail
  refine (rwN k _).mono ?_
  rintro e w4 ⟨rfl, e4⟩
  have N4 := Lib.hid (N2.out.ext e4)
  clear d0 d1 d2 d3 d4
  obtain ⟨d0, d1, d2, d3, d4⟩ := N4.out.cells
  rw [HNb.out]
  clear e4 N2
  go_wp2_with fail
  refine (rwT k _).mono ?_
  rintro e w7 ⟨rfl, e7⟩
  have N7 := Lib.hid (N4.out.ext e7)
  clear d0 d1 d2 d3 d4
  obtain ⟨d0, d1, d2, d3, d4⟩ := N7.out.cells
  rw [HTb.out]
  clear e7 N4
  go_wp2_with fail
  refine (rtext_calls t _ (by omega)).mono ?_
  rintro e w8 ⟨A8, c8, rfl, o8, e8⟩
  have O8 := Lib.hid o8
  have N8 := Lib.hid (N7.out.ext e8)
  clear o8 e8 d0 d1 d2 d3 d4
  obtain ⟨d0, d1, d2, d3, d4⟩ := N8.out.cells
  have hl8 : (leB 1 t.size ++ t.data.toList).length ≤ 101 := by rw [List.length_append, leB_length, show t.data.toList.length = t.size from rfl]; omega
  have HQ8 : Hid (∃ L8, leB 1 t.size ++ t.data.toList = L8) := ⟨_, rfl⟩
  obtain ⟨L8, hq8⟩ := HQ8.out
  rw [hq8] at O8 hl8 ⊢
  have HL8 := Lib.hid hq8
  clear hq8 HQ8
  obtain ⟨B, hB⟩ : ∃ B, ([bk] ++ L8) ++ d = B := ⟨_, rfl⟩
  have hBl : B.length ≤ 400 := by rw [← hB, List.length_append]; have := (show ([bk] ++ L8).length ≤ 102 by rw [List.length_append, (show [bk].length = 1 by simp)]; omega); omega
  have HBB := Lib.hid hB
  have HBody : Hid (wBody k s n t.data.toList d = B) := by
    show _ = _
    rw [HBq.out, ← HBB.out, ← HL8.out]
    simp [opt, HL1.out, HL2.out, show t.data.toList.length = t.size from rfl]
  have HWB : Hid (wireB k s n t.data.toList d = leB 2 B.length ++ B) := by show _ = _; rw [wireB_eq, HBody.out]
  have hwB : IntKind.u64.wrap (B.length : Int) = (B.length : Int) := by rw [IntKind.wrap_u64]; omega
  clear hB HBq
  go_wp2_with (first | ((with_reducible show wpList _ _ _ ({ dst := some 33, op := _, type := _, pos := _, after := _, guard := _ } :: _) _ _); refine appB _ rfl (.tmp 29) (.tmp 32) rfl w.heap.size (some ⟨w1.heap.size, 0, none⟩) 1 [bk] rfl A8 c8 L8 rfl ?_ N8.out.2.2.2 O8.out.rd (by rw [(show [bk].length = 1 by simp)]; omega) N8.out.1.size; intro A9 c9 w9 h9 g9 k9; have N9 := Lib.hid (N8.out.app (Ext.refl _) g9 h9); clear h9 g9 k9 d0 d1 d2 d3 d4; obtain ⟨d0, d1, d2, d3, d4⟩ := N9.out.cells) | ((with_reducible show wpList _ _ _ ({ dst := some 37, op := _, type := _, pos := _, after := _, guard := _ } :: _) _ _); refine appB _ rfl (.tmp 34) (.tmp 36) rfl w.heap.size A9 c9 ([bk] ++ L8) rfl A c d rfl ?_ N9.out.2.2.2 (HR.out.ext N9.out.1) (by have := (show ([bk] ++ L8).length ≤ 102 by rw [List.length_append, (show [bk].length = 1 by simp)]; omega); omega) N9.out.1.size; rw [HBB.out]; intro A10 c10 w10 h10 g10 k10; have N10 := Lib.hid (N9.out.app (Ext.refl _) g10 h10); clear h10 g10 k10))
  refine (bytes_calls 2 B.length _ (by omega) (by omega)).mono ?_
  rintro e w11 ⟨A11, c11, rfl, o11, e11⟩
  have O11 := Lib.hid o11
  have E11 := Lib.hid e11
  clear o11 e11
  have hl11 : (leB 2 B.length).length = 2 := leB_length _ _
  generalize leB 2 B.length = L11 at *
  have HL11 := Lib.hid hl11
  clear hl11
  go_wp2_with (at_builtin; refine appB _ rfl (.tmp 41) (.tmp 42) rfl w10.heap.size A11 c11 L11 rfl A10 c10 B rfl ?_ O11.out (N10.out.2.2.2.ext E11.out).rd (by rw [HL11.out]; omega) E11.out.size; intro A12 c12 w12 h12 g12 k12; have O12 := Lib.hid h12; have E12 := Lib.hid ((N10.out.1.trans E11.out).grown g12 (fun k hk => by have := (O11.out.base_ k hk).1; have := N10.out.1.size; omega)); clear h12 g12 k12)
  go_ret
  rw [HWB.out]
  exact ⟨A12, c12, by rw [List.length_append]; rfl, O12.out.lower N10.out.1.size, E12.out⟩

set_option maxHeartbeats 2000000 in
theorem rwb_101 (k s n : Nat) (t : ByteArray) (A : Option Addr) (c : Nat) (d : List UInt8) (w : World) (hS : fS k = true) (hN : fN k = false) (hT : fT k = true) (hk : k < 256) (hs : s < 256) (hn : n < 65536) (ht : t.size ≤ 100) (hd : d.length ≤ 200) (hT0 : fT k = false → t.data.toList = []) (hr : RdB w A d) :
    Calls Try.prog 88 #[fraA k s n t A d.length c] w (RetB w (wireB k s n t.data.toList d)) := by
  have HR := Lib.hid hr
  have HSb := Lib.hid hS
  have HNb := Lib.hid hN
  have HTb := Lib.hid hT
  have HT0 := Lib.hid hT0
  clear hr hS hN hT hT0
  have hw1 := u8_of hk
  have hw2 := u8_of hs
  have HW1 := Lib.hid hw1
  have HW2 := Lib.hid hw2
  have hw3 : IntKind.u64.wrap (n : Int) = (n : Int) := by rw [IntKind.wrap_u64]; omega
  have HBq := Lib.hid (wBody_eq k s n t.data.toList d)
  rw [HSb.out, HNb.out, HTb.out] at HBq
  have HL1 : Hid (leB 1 k = [UInt8.ofNat k]) := rfl
  have HL2 : Hid (leB 1 s = [UInt8.ofNat s]) := rfl
  generalize hbk : UInt8.ofNat k = bk at *
  generalize hbs : UInt8.ofNat s = bS at *
  clear hbk hbs
  unfold fraA
  go_enter Try.func88, Try.ntmps88
  go_wp2_with ((with_reducible show wpList _ _ _ ({ dst := some 1, op := Op.box 65 _, type := _, pos := _, after := _, guard := _ } :: _) _ _); refine bxA _ rfl 65 _ rfl _ rfl ?_; intro g w1 hg hs1 h1 e1; have HG := Lib.hid hg; have H1 := Lib.hid h1; have E1 := Lib.hid e1; have d0 := h1.cell 0; have dA := (h1.ext ((Ext.refl _).alloc (.cells #[.int .u8 (bk.toNat : Int)] 5))).cell 0; simp at d0; rw [show (#[.int .i64 k, .int .i64 s, .int .i64 n, .string t, .slice A d.length c] : Array Value)[0]? = some (.int .i64 k) from rfl] at dA; clear h1 e1 hs1 hg)
  have N0 : Hid (RF w (w1.alloc (.cells #[.int .u8 (bk.toNat : Int)] 5)) g #[.int .i64 k, .int .i64 s, .int .i64 n, .string t, .slice A d.length c] (some ⟨w1.heap.size, 0, none⟩) 1 [bk]) :=
    ⟨E1.out.alloc _, HG.out, H1.out.ext ((Ext.refl _).alloc _), OwnB.one w1 w.heap.size E1.out.size bk⟩
  clear d0 dA H1
  refine (rwS k _).mono ?_
  rintro e w2 ⟨rfl, e2⟩
  have N2 := Lib.hid (N0.out.ext e2)
  obtain ⟨d0, d1, d2, d3, d4⟩ := N2.out.cells
  rw [HSb.out]
  clear e2 N0
  have NA := Lib.hid (N2.out.ext ((Ext.refl _).alloc (.cells #[.int .u8 (bS.toNat : Int)] 5)))
  go_wp2_with (at_builtin; refine appB _ rfl (.tmp 11) (.tmp 15) rfl w.heap.size (some ⟨w1.heap.size, 0, none⟩) 1 [bk] rfl (some ⟨w2.heap.size, 0, none⟩) 1 [bS] rfl ?_ NA.out.2.2.2 (RdB.one w2 _ _ bS rfl) (by simp) NA.out.1.size; intro A3 c3 w3 h3 g3 k3; have N3 := Lib.hid (N2.out.app ((Ext.refl _).alloc _) g3 h3); clear h3 g3 k3 d0 d1 d2 d3 d4; obtain ⟨d0, d1, d2, d3, d4⟩ := N3.out.cells)
  refine (rwN k _).mono ?_
  rintro e w4 ⟨rfl, e4⟩
  have N4 := Lib.hid (N3.out.ext e4)
  clear d0 d1 d2 d3 d4
  obtain ⟨d0, d1, d2, d3, d4⟩ := N4.out.cells
  rw [HNb.out]
  clear e4 N3
  go_wp2_with fail
  refine (rwT k _).mono ?_
  rintro e w7 ⟨rfl, e7⟩
  have N7 := Lib.hid (N4.out.ext e7)
  clear d0 d1 d2 d3 d4
  obtain ⟨d0, d1, d2, d3, d4⟩ := N7.out.cells
  rw [HTb.out]
  clear e7 N4
  go_wp2_with fail
  refine (rtext_calls t _ (by omega)).mono ?_
  rintro e w8 ⟨A8, c8, rfl, o8, e8⟩
  have O8 := Lib.hid o8
  have N8 := Lib.hid (N7.out.ext e8)
  clear o8 e8 d0 d1 d2 d3 d4
  obtain ⟨d0, d1, d2, d3, d4⟩ := N8.out.cells
  have hl8 : (leB 1 t.size ++ t.data.toList).length ≤ 101 := by rw [List.length_append, leB_length, show t.data.toList.length = t.size from rfl]; omega
  have HQ8 : Hid (∃ L8, leB 1 t.size ++ t.data.toList = L8) := ⟨_, rfl⟩
  obtain ⟨L8, hq8⟩ := HQ8.out
  rw [hq8] at O8 hl8 ⊢
  have HL8 := Lib.hid hq8
  clear hq8 HQ8
  obtain ⟨B, hB⟩ : ∃ B, (([bk] ++ [bS]) ++ L8) ++ d = B := ⟨_, rfl⟩
  have hBl : B.length ≤ 400 := by rw [← hB, List.length_append]; have := (show (([bk] ++ [bS]) ++ L8).length ≤ 103 by rw [List.length_append, (show ([bk] ++ [bS]).length = 2 by simp)]; omega); omega
  have HBB := Lib.hid hB
  have HBody : Hid (wBody k s n t.data.toList d = B) := by
    show _ = _
    rw [HBq.out, ← HBB.out, ← HL8.out]
    simp [opt, HL1.out, HL2.out, show t.data.toList.length = t.size from rfl]
  have HWB : Hid (wireB k s n t.data.toList d = leB 2 B.length ++ B) := by show _ = _; rw [wireB_eq, HBody.out]
  have hwB : IntKind.u64.wrap (B.length : Int) = (B.length : Int) := by rw [IntKind.wrap_u64]; omega
  clear hB HBq
  go_wp2_with (first | ((with_reducible show wpList _ _ _ ({ dst := some 33, op := _, type := _, pos := _, after := _, guard := _ } :: _) _ _); refine appB _ rfl (.tmp 29) (.tmp 32) rfl w.heap.size A3 c3 ([bk] ++ [bS]) rfl A8 c8 L8 rfl ?_ N8.out.2.2.2 O8.out.rd (by rw [(show ([bk] ++ [bS]).length = 2 by simp)]; omega) N8.out.1.size; intro A9 c9 w9 h9 g9 k9; have N9 := Lib.hid (N8.out.app (Ext.refl _) g9 h9); clear h9 g9 k9 d0 d1 d2 d3 d4; obtain ⟨d0, d1, d2, d3, d4⟩ := N9.out.cells) | ((with_reducible show wpList _ _ _ ({ dst := some 37, op := _, type := _, pos := _, after := _, guard := _ } :: _) _ _); refine appB _ rfl (.tmp 34) (.tmp 36) rfl w.heap.size A9 c9 (([bk] ++ [bS]) ++ L8) rfl A c d rfl ?_ N9.out.2.2.2 (HR.out.ext N9.out.1) (by have := (show (([bk] ++ [bS]) ++ L8).length ≤ 103 by rw [List.length_append, (show ([bk] ++ [bS]).length = 2 by simp)]; omega); omega) N9.out.1.size; rw [HBB.out]; intro A10 c10 w10 h10 g10 k10; have N10 := Lib.hid (N9.out.app (Ext.refl _) g10 h10); clear h10 g10 k10))
  refine (bytes_calls 2 B.length _ (by omega) (by omega)).mono ?_
  rintro e w11 ⟨A11, c11, rfl, o11, e11⟩
  have O11 := Lib.hid o11
  have E11 := Lib.hid e11
  clear o11 e11
  have hl11 : (leB 2 B.length).length = 2 := leB_length _ _
  generalize leB 2 B.length = L11 at *
  have HL11 := Lib.hid hl11
  clear hl11
  go_wp2_with (at_builtin; refine appB _ rfl (.tmp 41) (.tmp 42) rfl w10.heap.size A11 c11 L11 rfl A10 c10 B rfl ?_ O11.out (N10.out.2.2.2.ext E11.out).rd (by rw [HL11.out]; omega) E11.out.size; intro A12 c12 w12 h12 g12 k12; have O12 := Lib.hid h12; have E12 := Lib.hid ((N10.out.1.trans E11.out).grown g12 (fun k hk => by have := (O11.out.base_ k hk).1; have := N10.out.1.size; omega)); clear h12 g12 k12)
  go_ret
  rw [HWB.out]
  exact ⟨A12, c12, by rw [List.length_append]; rfl, O12.out.lower N10.out.1.size, E12.out⟩

set_option maxHeartbeats 2000000 in
theorem rwb_100 (k s n : Nat) (t : ByteArray) (A : Option Addr) (c : Nat) (d : List UInt8) (w : World) (hS : fS k = true) (hN : fN k = false) (hT : fT k = false) (hk : k < 256) (hs : s < 256) (hn : n < 65536) (ht : t.size ≤ 100) (hd : d.length ≤ 200) (hT0 : fT k = false → t.data.toList = []) (hr : RdB w A d) :
    Calls Try.prog 88 #[fraA k s n t A d.length c] w (RetB w (wireB k s n t.data.toList d)) := by
  have HR := Lib.hid hr
  have HSb := Lib.hid hS
  have HNb := Lib.hid hN
  have HTb := Lib.hid hT
  have HT0 := Lib.hid hT0
  clear hr hS hN hT hT0
  have hw1 := u8_of hk
  have hw2 := u8_of hs
  have HW1 := Lib.hid hw1
  have HW2 := Lib.hid hw2
  have hw3 : IntKind.u64.wrap (n : Int) = (n : Int) := by rw [IntKind.wrap_u64]; omega
  have HBq := Lib.hid (wBody_eq k s n t.data.toList d)
  rw [HSb.out, HNb.out, HTb.out] at HBq
  have HL1 : Hid (leB 1 k = [UInt8.ofNat k]) := rfl
  have HL2 : Hid (leB 1 s = [UInt8.ofNat s]) := rfl
  generalize hbk : UInt8.ofNat k = bk at *
  generalize hbs : UInt8.ofNat s = bS at *
  clear hbk hbs
  unfold fraA
  go_enter Try.func88, Try.ntmps88
  go_wp2_with ((with_reducible show wpList _ _ _ ({ dst := some 1, op := Op.box 65 _, type := _, pos := _, after := _, guard := _ } :: _) _ _); refine bxA _ rfl 65 _ rfl _ rfl ?_; intro g w1 hg hs1 h1 e1; have HG := Lib.hid hg; have H1 := Lib.hid h1; have E1 := Lib.hid e1; have d0 := h1.cell 0; have dA := (h1.ext ((Ext.refl _).alloc (.cells #[.int .u8 (bk.toNat : Int)] 5))).cell 0; simp at d0; rw [show (#[.int .i64 k, .int .i64 s, .int .i64 n, .string t, .slice A d.length c] : Array Value)[0]? = some (.int .i64 k) from rfl] at dA; clear h1 e1 hs1 hg)
  have N0 : Hid (RF w (w1.alloc (.cells #[.int .u8 (bk.toNat : Int)] 5)) g #[.int .i64 k, .int .i64 s, .int .i64 n, .string t, .slice A d.length c] (some ⟨w1.heap.size, 0, none⟩) 1 [bk]) :=
    ⟨E1.out.alloc _, HG.out, H1.out.ext ((Ext.refl _).alloc _), OwnB.one w1 w.heap.size E1.out.size bk⟩
  clear d0 dA H1
  refine (rwS k _).mono ?_
  rintro e w2 ⟨rfl, e2⟩
  have N2 := Lib.hid (N0.out.ext e2)
  obtain ⟨d0, d1, d2, d3, d4⟩ := N2.out.cells
  rw [HSb.out]
  clear e2 N0
  have NA := Lib.hid (N2.out.ext ((Ext.refl _).alloc (.cells #[.int .u8 (bS.toNat : Int)] 5)))
  go_wp2_with (at_builtin; refine appB _ rfl (.tmp 11) (.tmp 15) rfl w.heap.size (some ⟨w1.heap.size, 0, none⟩) 1 [bk] rfl (some ⟨w2.heap.size, 0, none⟩) 1 [bS] rfl ?_ NA.out.2.2.2 (RdB.one w2 _ _ bS rfl) (by simp) NA.out.1.size; intro A3 c3 w3 h3 g3 k3; have N3 := Lib.hid (N2.out.app ((Ext.refl _).alloc _) g3 h3); clear h3 g3 k3 d0 d1 d2 d3 d4; obtain ⟨d0, d1, d2, d3, d4⟩ := N3.out.cells)
  refine (rwN k _).mono ?_
  rintro e w4 ⟨rfl, e4⟩
  have N4 := Lib.hid (N3.out.ext e4)
  clear d0 d1 d2 d3 d4
  obtain ⟨d0, d1, d2, d3, d4⟩ := N4.out.cells
  rw [HNb.out]
  clear e4 N3
  go_wp2_with fail
  refine (rwT k _).mono ?_
  rintro e w7 ⟨rfl, e7⟩
  have N7 := Lib.hid (N4.out.ext e7)
  clear d0 d1 d2 d3 d4
  obtain ⟨d0, d1, d2, d3, d4⟩ := N7.out.cells
  rw [HTb.out]
  clear e7 N4
  obtain ⟨B, hB⟩ : ∃ B, ([bk] ++ [bS]) ++ d = B := ⟨_, rfl⟩
  have hBl : B.length ≤ 400 := by rw [← hB, List.length_append]; have := (show ([bk] ++ [bS]).length ≤ 2 by rw [(show ([bk] ++ [bS]).length = 2 by simp)]; omega); omega
  have HBB := Lib.hid hB
  have HBody : Hid (wBody k s n t.data.toList d = B) := by
    show _ = _
    rw [HBq.out, ← HBB.out]
    simp [opt, HL1.out, HL2.out, HT0.out HTb.out]
  have HWB : Hid (wireB k s n t.data.toList d = leB 2 B.length ++ B) := by show _ = _; rw [wireB_eq, HBody.out]
  have hwB : IntKind.u64.wrap (B.length : Int) = (B.length : Int) := by rw [IntKind.wrap_u64]; omega
  clear hB HBq
  go_wp2_with (first | ((with_reducible show wpList _ _ _ ({ dst := some 37, op := _, type := _, pos := _, after := _, guard := _ } :: _) _ _); refine appB _ rfl (.tmp 34) (.tmp 36) rfl w.heap.size A3 c3 ([bk] ++ [bS]) rfl A c d rfl ?_ N7.out.2.2.2 (HR.out.ext N7.out.1) (by have := (show ([bk] ++ [bS]).length ≤ 2 by rw [(show ([bk] ++ [bS]).length = 2 by simp)]; omega); omega) N7.out.1.size; rw [HBB.out]; intro A10 c10 w10 h10 g10 k10; have N10 := Lib.hid (N7.out.app (Ext.refl _) g10 h10); clear h10 g10 k10))
  refine (bytes_calls 2 B.length _ (by omega) (by omega)).mono ?_
  rintro e w11 ⟨A11, c11, rfl, o11, e11⟩
  have O11 := Lib.hid o11
  have E11 := Lib.hid e11
  clear o11 e11
  have hl11 : (leB 2 B.length).length = 2 := leB_length _ _
  generalize leB 2 B.length = L11 at *
  have HL11 := Lib.hid hl11
  clear hl11
  go_wp2_with (at_builtin; refine appB _ rfl (.tmp 41) (.tmp 42) rfl w10.heap.size A11 c11 L11 rfl A10 c10 B rfl ?_ O11.out (N10.out.2.2.2.ext E11.out).rd (by rw [HL11.out]; omega) E11.out.size; intro A12 c12 w12 h12 g12 k12; have O12 := Lib.hid h12; have E12 := Lib.hid ((N10.out.1.trans E11.out).grown g12 (fun k hk => by have := (O11.out.base_ k hk).1; have := N10.out.1.size; omega)); clear h12 g12 k12)
  go_ret
  rw [HWB.out]
  exact ⟨A12, c12, by rw [List.length_append]; rfl, O12.out.lower N10.out.1.size, E12.out⟩

set_option maxHeartbeats 2000000 in
theorem rwb_110 (k s n : Nat) (t : ByteArray) (A : Option Addr) (c : Nat) (d : List UInt8) (w : World) (hS : fS k = true) (hN : fN k = true) (hT : fT k = false) (hk : k < 256) (hs : s < 256) (hn : n < 65536) (ht : t.size ≤ 100) (hd : d.length ≤ 200) (hT0 : fT k = false → t.data.toList = []) (hr : RdB w A d) :
    Calls Try.prog 88 #[fraA k s n t A d.length c] w (RetB w (wireB k s n t.data.toList d)) := by
  have HR := Lib.hid hr
  have HSb := Lib.hid hS
  have HNb := Lib.hid hN
  have HTb := Lib.hid hT
  have HT0 := Lib.hid hT0
  clear hr hS hN hT hT0
  have hw1 := u8_of hk
  have hw2 := u8_of hs
  have HW1 := Lib.hid hw1
  have HW2 := Lib.hid hw2
  have hw3 : IntKind.u64.wrap (n : Int) = (n : Int) := by rw [IntKind.wrap_u64]; omega
  have HBq := Lib.hid (wBody_eq k s n t.data.toList d)
  rw [HSb.out, HNb.out, HTb.out] at HBq
  have HL1 : Hid (leB 1 k = [UInt8.ofNat k]) := rfl
  have HL2 : Hid (leB 1 s = [UInt8.ofNat s]) := rfl
  generalize hbk : UInt8.ofNat k = bk at *
  generalize hbs : UInt8.ofNat s = bS at *
  clear hbk hbs
  unfold fraA
  go_enter Try.func88, Try.ntmps88
  go_wp2_with ((with_reducible show wpList _ _ _ ({ dst := some 1, op := Op.box 65 _, type := _, pos := _, after := _, guard := _ } :: _) _ _); refine bxA _ rfl 65 _ rfl _ rfl ?_; intro g w1 hg hs1 h1 e1; have HG := Lib.hid hg; have H1 := Lib.hid h1; have E1 := Lib.hid e1; have d0 := h1.cell 0; have dA := (h1.ext ((Ext.refl _).alloc (.cells #[.int .u8 (bk.toNat : Int)] 5))).cell 0; simp at d0; rw [show (#[.int .i64 k, .int .i64 s, .int .i64 n, .string t, .slice A d.length c] : Array Value)[0]? = some (.int .i64 k) from rfl] at dA; clear h1 e1 hs1 hg)
  have N0 : Hid (RF w (w1.alloc (.cells #[.int .u8 (bk.toNat : Int)] 5)) g #[.int .i64 k, .int .i64 s, .int .i64 n, .string t, .slice A d.length c] (some ⟨w1.heap.size, 0, none⟩) 1 [bk]) :=
    ⟨E1.out.alloc _, HG.out, H1.out.ext ((Ext.refl _).alloc _), OwnB.one w1 w.heap.size E1.out.size bk⟩
  clear d0 dA H1
  refine (rwS k _).mono ?_
  rintro e w2 ⟨rfl, e2⟩
  have N2 := Lib.hid (N0.out.ext e2)
  obtain ⟨d0, d1, d2, d3, d4⟩ := N2.out.cells
  rw [HSb.out]
  clear e2 N0
  have NA := Lib.hid (N2.out.ext ((Ext.refl _).alloc (.cells #[.int .u8 (bS.toNat : Int)] 5)))
  go_wp2_with (at_builtin; refine appB _ rfl (.tmp 11) (.tmp 15) rfl w.heap.size (some ⟨w1.heap.size, 0, none⟩) 1 [bk] rfl (some ⟨w2.heap.size, 0, none⟩) 1 [bS] rfl ?_ NA.out.2.2.2 (RdB.one w2 _ _ bS rfl) (by simp) NA.out.1.size; intro A3 c3 w3 h3 g3 k3; have N3 := Lib.hid (N2.out.app ((Ext.refl _).alloc _) g3 h3); clear h3 g3 k3 d0 d1 d2 d3 d4; obtain ⟨d0, d1, d2, d3, d4⟩ := N3.out.cells)
  refine (rwN k _).mono ?_
  rintro e w4 ⟨rfl, e4⟩
  have N4 := Lib.hid (N3.out.ext e4)
  clear d0 d1 d2 d3 d4
  obtain ⟨d0, d1, d2, d3, d4⟩ := N4.out.cells
  rw [HNb.out]
  clear e4 N3
  go_wp2_with fail
  refine (bytes_calls 2 n _ (by omega) (by omega)).mono ?_
  rintro e w5 ⟨A5, c5, rfl, o5, e5⟩
  have O5 := Lib.hid o5
  have N5 := Lib.hid (N4.out.ext e5)
  have E5 := Lib.hid e5
  clear o5 e5 d0 d1 d2 d3 d4
  obtain ⟨d0, d1, d2, d3, d4⟩ := N5.out.cells
  have hl5 : (leB 2 n).length = 2 := leB_length _ _
  generalize hq5 : leB 2 n = L5 at *
  clear hq5
  have HL5 := Lib.hid hl5
  clear hl5
  go_wp2_with (at_builtin; refine appB _ rfl (.tmp 20) (.tmp 24) rfl w.heap.size A3 c3 ([bk] ++ [bS]) rfl A5 c5 L5 rfl ?_ N5.out.2.2.2 O5.out.rd (by rw [HL5.out]; simp) N5.out.1.size; intro A6 c6 w6 h6 g6 k6; have N6 := Lib.hid (N5.out.app (Ext.refl _) g6 h6); clear h6 g6 k6 d0 d1 d2 d3 d4; obtain ⟨d0, d1, d2, d3, d4⟩ := N6.out.cells)
  refine (rwT k _).mono ?_
  rintro e w7 ⟨rfl, e7⟩
  have N7 := Lib.hid (N6.out.ext e7)
  clear d0 d1 d2 d3 d4
  obtain ⟨d0, d1, d2, d3, d4⟩ := N7.out.cells
  rw [HTb.out]
  clear e7 N6
  obtain ⟨B, hB⟩ : ∃ B, (([bk] ++ [bS]) ++ L5) ++ d = B := ⟨_, rfl⟩
  have hBl : B.length ≤ 400 := by rw [← hB, List.length_append]; have := (show (([bk] ++ [bS]) ++ L5).length ≤ 4 by rw [(show (([bk] ++ [bS]) ++ L5).length = 4 by simp; have := HL5.out; omega)]; omega); omega
  have HBB := Lib.hid hB
  have HBody : Hid (wBody k s n t.data.toList d = B) := by
    show _ = _
    rw [HBq.out, ← HBB.out]
    simp [opt, HL1.out, HL2.out, HT0.out HTb.out]
  have HWB : Hid (wireB k s n t.data.toList d = leB 2 B.length ++ B) := by show _ = _; rw [wireB_eq, HBody.out]
  have hwB : IntKind.u64.wrap (B.length : Int) = (B.length : Int) := by rw [IntKind.wrap_u64]; omega
  clear hB HBq
  go_wp2_with (first | ((with_reducible show wpList _ _ _ ({ dst := some 37, op := _, type := _, pos := _, after := _, guard := _ } :: _) _ _); refine appB _ rfl (.tmp 34) (.tmp 36) rfl w.heap.size A6 c6 (([bk] ++ [bS]) ++ L5) rfl A c d rfl ?_ N7.out.2.2.2 (HR.out.ext N7.out.1) (by have := (show (([bk] ++ [bS]) ++ L5).length ≤ 4 by rw [(show (([bk] ++ [bS]) ++ L5).length = 4 by simp; have := HL5.out; omega)]; omega); omega) N7.out.1.size; rw [HBB.out]; intro A10 c10 w10 h10 g10 k10; have N10 := Lib.hid (N7.out.app (Ext.refl _) g10 h10); clear h10 g10 k10))
  refine (bytes_calls 2 B.length _ (by omega) (by omega)).mono ?_
  rintro e w11 ⟨A11, c11, rfl, o11, e11⟩
  have O11 := Lib.hid o11
  have E11 := Lib.hid e11
  clear o11 e11
  have hl11 : (leB 2 B.length).length = 2 := leB_length _ _
  generalize leB 2 B.length = L11 at *
  have HL11 := Lib.hid hl11
  clear hl11
  go_wp2_with (at_builtin; refine appB _ rfl (.tmp 41) (.tmp 42) rfl w10.heap.size A11 c11 L11 rfl A10 c10 B rfl ?_ O11.out (N10.out.2.2.2.ext E11.out).rd (by rw [HL11.out]; omega) E11.out.size; intro A12 c12 w12 h12 g12 k12; have O12 := Lib.hid h12; have E12 := Lib.hid ((N10.out.1.trans E11.out).grown g12 (fun k hk => by have := (O11.out.base_ k hk).1; have := N10.out.1.size; omega)); clear h12 g12 k12)
  go_ret
  rw [HWB.out]
  exact ⟨A12, c12, by rw [List.length_append]; rfl, O12.out.lower N10.out.1.size, E12.out⟩

theorem fSNT (k : Nat) : (fS k = false ∧ fN k = false ∧ fT k = false) ∨ (fS k = false ∧ fN k = false ∧ fT k = true) ∨ (fS k = true ∧ fN k = false ∧ fT k = true) ∨ (fS k = true ∧ fN k = false ∧ fT k = false) ∨ (fS k = true ∧ fN k = true ∧ fT k = false) := by
  by_cases h : k ≤ 8
  · have h9 : k = 0 ∨ k = 1 ∨ k = 2 ∨ k = 3 ∨ k = 4 ∨ k = 5 ∨ k = 6 ∨ k = 7 ∨ k = 8 := by omega
    rcases h9 with rfl | rfl | rfl | rfl | rfl | rfl | rfl | rfl | rfl <;> decide
  · refine .inl ⟨by simp [fS]; omega, ?_, ?_⟩
    · simp only [fN, Bool.or_eq_false_iff, beq_eq_false_iff_ne]; omega
    · simp only [fT, Bool.or_eq_false_iff, beq_eq_false_iff_ne]; omega
theorem rwbytes_calls (k s n : Nat) (t : ByteArray) (A : Option Addr) (c : Nat) (d : List UInt8) (w : World) (hE : wErr k s n t.data.toList d.length = 0) (hr : RdB w A d) :
    Calls Try.prog 88 #[fraA k s n t A d.length c] w (RetB w (wireB k s n t.data.toList d)) := by
  obtain ⟨_, _, _, hT, _, hs, hn, ht, hd, hk1, hk8⟩ := wErr_zero hE
  have ht' : t.size ≤ 100 := by have : t.data.toList.length = t.size := rfl; omega
  rcases fSNT k with ⟨h1, h2, h3⟩ | ⟨h1, h2, h3⟩ | ⟨h1, h2, h3⟩ | ⟨h1, h2, h3⟩ | ⟨h1, h2, h3⟩
  · exact rwb_000 k s n t A c d w h1 h2 h3 (by omega) (by omega) (by omega) ht' (by omega) hT hr
  · exact rwb_001 k s n t A c d w h1 h2 h3 (by omega) (by omega) (by omega) ht' (by omega) hT hr
  · exact rwb_101 k s n t A c d w h1 h2 h3 (by omega) (by omega) (by omega) ht' (by omega) hT hr
  · exact rwb_100 k s n t A c d w h1 h2 h3 (by omega) (by omega) (by omega) ht' (by omega) hT hr
  · exact rwb_110 k s n t A c d w h1 h2 h3 (by omega) (by omega) (by omega) ht' (by omega) hT hr
end Go.Proofs.Ytlgngnkaiidbeaa
