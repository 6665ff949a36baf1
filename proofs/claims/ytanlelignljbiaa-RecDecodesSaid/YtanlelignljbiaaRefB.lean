/- ref01.Text, ref11.Bytes. -/
import Derived.Test.YtanlelignljbiaaEnc3
set_option maxRecDepth 100000
namespace Go.Proofs.Ytanlelignljbiaa
open Go.RowKit

theorem rec_ne {w : World} {base g : Nat} {A : Option Addr} {c : Nat} {bs : List UInt8} {rec : Array Value} (h : OwnB w base A c bs) (ha : Arr w g 24 rec) : some g ≠ blk A := by
  intro e
  rcases h.2 with ⟨hv, _⟩ | ⟨g', cap, cur, hv, _, hh, _⟩
  · injection hv with hA _ _
    subst hA
    simp [blk] at e
  · injection hv with hA _ _
    subst hA
    simp [blk] at e
    subst e
    have h4' : w.heap[g]? = some (.cells rec 24 (0, 0)) := ha
    rw [h4'] at hh
    simp at hh

set_option maxHeartbeats 1000000 in
theorem rtext_calls (ten : ByteArray) (w : World) (ht : ten.size ≤ 100000) :
    Calls Try.prog 49 #[.int .i64 1, .string ten] w (RetB w (leB 1 ten.size ++ ten.data.toList)) := by
  have hw2 : IntKind.u64.wrap (ten.size : Int) = (ten.size : Int) := by rw [IntKind.wrap_u64]; omega
  go_enter Try.func49, Try.ntmps49
  go_wp2_with fail
  refine (bytes_calls 1 ten.size _ (by omega) (by omega)).mono ?_
  rintro e w1 ⟨A1, c1, rfl, o1, e1⟩
  have O1 := Lib.hid o1
  have E1 := Lib.hid e1
  have hl : (leB 1 ten.size).length ≤ 1 := by rw [leB_length]; omega
  clear o1 e1
  generalize leB 1 ten.size = L at *
  go_wp2_with (at_builtin; refine appS _ rfl (.tmp 9) (.tmp 10) rfl w.heap.size A1 c1 L rfl ten rfl ?_ O1.out ?c1 ?c2; intro A2 c2 w2 h2 g2; have O2 := Lib.hid h2; have E2 := Lib.hid (E1.out.grown g2 (fun g hg => (O1.out.base_ g hg).1)); clear h2 g2)
  case c1 => omega
  case c2 => exact E1.out.size
  go_ret
  exact ⟨A2, c2, by rw [List.length_append]; rfl, O2.out, E2.out⟩
-- BYTES
/-- the record's variable, bytes of the call's own -/
def RB (w W : World) (g : Nat) (rec : Array Value) (A : Option Addr) (c : Nat) (bs : List UInt8) : Prop :=
  Ext w W ∧ w.heap.size = g ∧ Arr W g 24 rec ∧ OwnB W w.heap.size A c bs
theorem RB.app {w W W1 W2 : World} {g : Nat} {rec : Array Value} {A A' : Option Addr} {c c' : Nat} {bs bs' : List UInt8} (h : RB w W g rec A c bs) (e : Ext W W1) (hg : W1.grownBy W2 (blk A)) (ho : OwnB W2 w.heap.size A' c' bs') : RB w W2 g rec A' c' bs' :=
  ⟨(h.1.trans e).grown hg (fun k hk => (h.2.2.2.base_ k hk).1), h.2.1, (h.2.2.1.ext e).grown hg (rec_ne (h.2.2.2.ext e) (h.2.2.1.ext e)), ho⟩
theorem RB.cells {w W : World} {g : Nat} {a0 a1 a2 a3 a4 a5 : Value} {A : Option Addr} {c : Nat} {bs : List UInt8} (h : RB w W g #[a0, a1, a2, a3, a4, a5] A c bs) :
    W.cell? ⟨g, 0, none⟩ = some a0 ∧ W.cell? ⟨g, 1, none⟩ = some a1 ∧ W.cell? ⟨g, 2, none⟩ = some a2 ∧ W.cell? ⟨g, 3, none⟩ = some a3 ∧ W.cell? ⟨g, 4, none⟩ = some a4 ∧ W.cell? ⟨g, 5, none⟩ = some a5 :=
  ⟨h.2.2.1.cell 0, h.2.2.1.cell 1, h.2.2.1.cell 2, h.2.2.1.cell 3, h.2.2.1.cell 4, h.2.2.1.cell 5⟩
theorem RB.ext {w W W1 : World} {g : Nat} {rec : Array Value} {A : Option Addr} {c : Nat} {bs : List UInt8} (h : RB w W g rec A c bs) (e : Ext W W1) : RB w W1 g rec A c bs :=
  ⟨h.1.trans e, h.2.1, h.2.2.1.ext e, h.2.2.2.ext e⟩
def bytesP (seq kn : Nat) (ten : ByteArray) (lease n bits : Nat) : List UInt8 :=
  let b0 := (leB 1 kn ++ leB 8 seq) ++ (leB 1 ten.size ++ ten.data.toList)
  let b1 := if hasL kn = true then b0 ++ leB 8 lease else b0
  let b2 := if hasN kn = true then b1 ++ leB 8 n else b1
  if hasB kn = true then b2 ++ leB 8 bits else b2

set_option maxHeartbeats 2000000 in
theorem rbytes_calls (seq kn : Nat) (ten : ByteArray) (lease n bits : Nat) (w : World) (hs : seq < 18446744073709551616) (hk : kn ≤ 5) (ht : ten.size ≤ 100)
    (hlt : lease < 18446744073709551616) (hnt : n < 18446744073709551616) (hb : bits < 18446744073709551616) :
    Calls Try.prog 18 #[recA seq kn ten lease n bits] w (RetB w (bytesP seq kn ten lease n bits)) := by
  have hw1 : IntKind.u64.wrap (kn : Int) = (kn : Int) := by rw [IntKind.wrap_u64]; omega
  unfold recA
  rcases has_triples (kn : Int) with ⟨e1, e2, e3⟩ | ⟨e1, e2, e3⟩ | ⟨e1, e2, e3⟩ | ⟨e1, e2, e3⟩
  · have HP : Hid (bytesP seq kn ten lease n bits = ((leB 1 kn ++ leB 8 seq) ++ (leB 1 ten.size ++ ten.data.toList)) ++ leB 8 n) := by show _ = _; simp only [bytesP, e1, e2, e3]; rfl
    have HE1 := Lib.hid e1
    have HE2 := Lib.hid e2
    have HE3 := Lib.hid e3
    rw [HP.out]
    clear e1 e2 e3
    go_enter Try.func18, Try.ntmps18
    go_wp2_with ((with_reducible show wpList _ _ _ ({ dst := some 1, op := Op.box 24 _, type := _, pos := _, after := _, guard := _ } :: _) _ _); refine bxA _ rfl 24 _ rfl _ rfl ?_; intro g w1 hg hs1 h1 e1; have HG := Lib.hid hg; have H1 := Lib.hid h1; have E1 := Lib.hid e1; have d1 := h1.cell 1; simp at d1; clear h1 e1 hs1 hg)
    refine (bytes_calls 1 kn _ (by omega) (by omega)).mono ?_
    rintro e w2 ⟨A0, c0, rfl, o2, e2⟩
    have N0 := Lib.hid (show RB w w2 g _ A0 c0 (leB 1 kn) from ⟨E1.out.trans e2, HG.out, H1.out.ext e2, o2.lower E1.out.size⟩)
    clear d1 o2 e2 H1 E1 HG
    obtain ⟨d0, d1, d2, d3, d4, d5⟩ := N0.out.cells
    have hl0 : (leB 1 kn).length ≤ 1 := by rw [leB_length]; omega
    generalize leB 1 kn = P0 at *
    go_wp2_with fail
    refine (bytes_calls 8 seq _ (by omega) hs).mono ?_
    rintro e v1 ⟨B1, e1, rfl, o1, x1⟩
    have M1 := Lib.hid (N0.out.ext x1)
    have O1 := Lib.hid o1.rd
    have hq1 : (leB 8 seq).length ≤ 8 := by rw [leB_length]; omega
    clear o1 x1 d0 d1 d2 d3 d4 d5 N0
    generalize leB 8 seq = Q1 at *
    go_wp2_with (at_builtin; refine appB _ rfl (.tmp 8) (.tmp 11) rfl w.heap.size A0 c0 P0 rfl B1 e1 Q1 rfl ?_ M1.out.2.2.2 O1.out ?a0 ?b0; intro A1 c1 W1 h1 h2 h3; have N1 := Lib.hid (M1.out.app (Ext.refl _) h2 h1); obtain ⟨d0, d1, d2, d3, d4, d5⟩ := N1.out.cells; clear h1 h2 h3)
    case a0 => omega
    case b0 => exact M1.out.1.size
    have hy1 : P0.length + Q1.length = (P0 ++ Q1).length := by rw [List.length_append]
    rw [hy1]
    have hl1 : (P0 ++ Q1).length ≤ 9 := by rw [List.length_append]; omega
    clear hy1 M1 O1
    generalize P0 ++ Q1 = P1 at *
    go_wp2_with fail
    refine (rtext_calls ten _ (by omega)).mono ?_
    rintro e v2 ⟨B2, e2, rfl, o2, x2⟩
    have M2 := Lib.hid (N1.out.ext x2)
    have O2 := Lib.hid o2.rd
    have hq2 : (leB 1 ten.size ++ ten.data.toList).length ≤ 101 := by rw [List.length_append, leB_length, show ten.data.toList.length = ten.size from rfl]; omega
    clear o2 x2 d0 d1 d2 d3 d4 d5 N1
    generalize leB 1 ten.size ++ ten.data.toList = Q2 at *
    go_wp2_with (at_builtin; refine appB _ rfl (.tmp 13) (.tmp 16) rfl w.heap.size A1 c1 P1 rfl B2 e2 Q2 rfl ?_ M2.out.2.2.2 O2.out ?a1 ?b1; intro A2 c2 W2 h1 h2 h3; have N2 := Lib.hid (M2.out.app (Ext.refl _) h2 h1); obtain ⟨d0, d1, d2, d3, d4, d5⟩ := N2.out.cells; clear h1 h2 h3)
    case a1 => omega
    case b1 => exact M2.out.1.size
    have hy2 : P1.length + Q2.length = (P1 ++ Q2).length := by rw [List.length_append]
    rw [hy2]
    have hl2 : (P1 ++ Q2).length ≤ 110 := by rw [List.length_append]; omega
    clear hy2 M2 O2
    generalize P1 ++ Q2 = P2 at *
    go_wp2_with fail
    refine (rhasL kn _).mono ?_
    rintro e wq ⟨rfl, eq⟩
    rw [HE1.out]
    have T2L := Lib.hid (N2.out.ext eq)
    clear eq d0 d1 d2 d3 d4 d5 N2
    have N2 := T2L
    clear T2L
    obtain ⟨d0, d1, d2, d3, d4, d5⟩ := N2.out.cells
    go_wp2_with fail
    refine (rhasN kn _).mono ?_
    rintro e wq ⟨rfl, eq⟩
    rw [HE2.out]
    have T2N := Lib.hid (N2.out.ext eq)
    clear eq d0 d1 d2 d3 d4 d5 N2
    have N2 := T2N
    clear T2N
    obtain ⟨d0, d1, d2, d3, d4, d5⟩ := N2.out.cells
    go_wp2_with fail
    refine (bytes_calls 8 n _ (by omega) hnt).mono ?_
    rintro e v3 ⟨B3, e3, rfl, o3, x3⟩
    have M3 := Lib.hid (N2.out.ext x3)
    have O3 := Lib.hid o3.rd
    have hq3 : (leB 8 n).length ≤ 8 := by rw [leB_length]; omega
    clear o3 x3 d0 d1 d2 d3 d4 d5 N2
    generalize leB 8 n = Q3 at *
    go_wp2_with (at_builtin; refine appB _ rfl (.tmp 29) (.tmp 32) rfl w.heap.size A2 c2 P2 rfl B3 e3 Q3 rfl ?_ M3.out.2.2.2 O3.out ?a2 ?b2; intro A3 c3 W3 h1 h2 h3; have N3 := Lib.hid (M3.out.app (Ext.refl _) h2 h1); obtain ⟨d0, d1, d2, d3, d4, d5⟩ := N3.out.cells; clear h1 h2 h3)
    case a2 => omega
    case b2 => exact M3.out.1.size
    have hy3 : P2.length + Q3.length = (P2 ++ Q3).length := by rw [List.length_append]
    rw [hy3]
    have hl3 : (P2 ++ Q3).length ≤ 120 := by rw [List.length_append]; omega
    clear hy3 M3 O3
    generalize P2 ++ Q3 = P3 at *
    go_wp2_with fail
    refine (rhasB kn _).mono ?_
    rintro e wq ⟨rfl, eq⟩
    rw [HE3.out]
    have T3B := Lib.hid (N3.out.ext eq)
    clear eq d0 d1 d2 d3 d4 d5 N3
    have N3 := T3B
    clear T3B
    obtain ⟨d0, d1, d2, d3, d4, d5⟩ := N3.out.cells
    go_wp2_with fail
    go_ret
    exact ⟨A3, c3, rfl, N3.out.2.2.2, N3.out.1⟩
  · have HP : Hid (bytesP seq kn ten lease n bits = ((leB 1 kn ++ leB 8 seq) ++ (leB 1 ten.size ++ ten.data.toList)) ++ leB 8 bits) := by show _ = _; simp only [bytesP, e1, e2, e3]; rfl
    have HE1 := Lib.hid e1
    have HE2 := Lib.hid e2
    have HE3 := Lib.hid e3
    rw [HP.out]
    clear e1 e2 e3
    go_enter Try.func18, Try.ntmps18
    go_wp2_with ((with_reducible show wpList _ _ _ ({ dst := some 1, op := Op.box 24 _, type := _, pos := _, after := _, guard := _ } :: _) _ _); refine bxA _ rfl 24 _ rfl _ rfl ?_; intro g w1 hg hs1 h1 e1; have HG := Lib.hid hg; have H1 := Lib.hid h1; have E1 := Lib.hid e1; have d1 := h1.cell 1; simp at d1; clear h1 e1 hs1 hg)
    refine (bytes_calls 1 kn _ (by omega) (by omega)).mono ?_
    rintro e w2 ⟨A0, c0, rfl, o2, e2⟩
    have N0 := Lib.hid (show RB w w2 g _ A0 c0 (leB 1 kn) from ⟨E1.out.trans e2, HG.out, H1.out.ext e2, o2.lower E1.out.size⟩)
    clear d1 o2 e2 H1 E1 HG
    obtain ⟨d0, d1, d2, d3, d4, d5⟩ := N0.out.cells
    have hl0 : (leB 1 kn).length ≤ 1 := by rw [leB_length]; omega
    generalize leB 1 kn = P0 at *
    go_wp2_with fail
    refine (bytes_calls 8 seq _ (by omega) hs).mono ?_
    rintro e v1 ⟨B1, e1, rfl, o1, x1⟩
    have M1 := Lib.hid (N0.out.ext x1)
    have O1 := Lib.hid o1.rd
    have hq1 : (leB 8 seq).length ≤ 8 := by rw [leB_length]; omega
    clear o1 x1 d0 d1 d2 d3 d4 d5 N0
    generalize leB 8 seq = Q1 at *
    go_wp2_with (at_builtin; refine appB _ rfl (.tmp 8) (.tmp 11) rfl w.heap.size A0 c0 P0 rfl B1 e1 Q1 rfl ?_ M1.out.2.2.2 O1.out ?a3 ?b3; intro A1 c1 W1 h1 h2 h3; have N1 := Lib.hid (M1.out.app (Ext.refl _) h2 h1); obtain ⟨d0, d1, d2, d3, d4, d5⟩ := N1.out.cells; clear h1 h2 h3)
    case a3 => omega
    case b3 => exact M1.out.1.size
    have hy1 : P0.length + Q1.length = (P0 ++ Q1).length := by rw [List.length_append]
    rw [hy1]
    have hl1 : (P0 ++ Q1).length ≤ 9 := by rw [List.length_append]; omega
    clear hy1 M1 O1
    generalize P0 ++ Q1 = P1 at *
    go_wp2_with fail
    refine (rtext_calls ten _ (by omega)).mono ?_
    rintro e v2 ⟨B2, e2, rfl, o2, x2⟩
    have M2 := Lib.hid (N1.out.ext x2)
    have O2 := Lib.hid o2.rd
    have hq2 : (leB 1 ten.size ++ ten.data.toList).length ≤ 101 := by rw [List.length_append, leB_length, show ten.data.toList.length = ten.size from rfl]; omega
    clear o2 x2 d0 d1 d2 d3 d4 d5 N1
    generalize leB 1 ten.size ++ ten.data.toList = Q2 at *
    go_wp2_with (at_builtin; refine appB _ rfl (.tmp 13) (.tmp 16) rfl w.heap.size A1 c1 P1 rfl B2 e2 Q2 rfl ?_ M2.out.2.2.2 O2.out ?a4 ?b4; intro A2 c2 W2 h1 h2 h3; have N2 := Lib.hid (M2.out.app (Ext.refl _) h2 h1); obtain ⟨d0, d1, d2, d3, d4, d5⟩ := N2.out.cells; clear h1 h2 h3)
    case a4 => omega
    case b4 => exact M2.out.1.size
    have hy2 : P1.length + Q2.length = (P1 ++ Q2).length := by rw [List.length_append]
    rw [hy2]
    have hl2 : (P1 ++ Q2).length ≤ 110 := by rw [List.length_append]; omega
    clear hy2 M2 O2
    generalize P1 ++ Q2 = P2 at *
    go_wp2_with fail
    refine (rhasL kn _).mono ?_
    rintro e wq ⟨rfl, eq⟩
    rw [HE1.out]
    have T2L := Lib.hid (N2.out.ext eq)
    clear eq d0 d1 d2 d3 d4 d5 N2
    have N2 := T2L
    clear T2L
    obtain ⟨d0, d1, d2, d3, d4, d5⟩ := N2.out.cells
    go_wp2_with fail
    refine (rhasN kn _).mono ?_
    rintro e wq ⟨rfl, eq⟩
    rw [HE2.out]
    have T2N := Lib.hid (N2.out.ext eq)
    clear eq d0 d1 d2 d3 d4 d5 N2
    have N2 := T2N
    clear T2N
    obtain ⟨d0, d1, d2, d3, d4, d5⟩ := N2.out.cells
    go_wp2_with fail
    refine (rhasB kn _).mono ?_
    rintro e wq ⟨rfl, eq⟩
    rw [HE3.out]
    have T2B := Lib.hid (N2.out.ext eq)
    clear eq d0 d1 d2 d3 d4 d5 N2
    have N2 := T2B
    clear T2B
    obtain ⟨d0, d1, d2, d3, d4, d5⟩ := N2.out.cells
    go_wp2_with fail
    refine (bytes_calls 8 bits _ (by omega) hb).mono ?_
    rintro e v3 ⟨B3, e3, rfl, o3, x3⟩
    have M3 := Lib.hid (N2.out.ext x3)
    have O3 := Lib.hid o3.rd
    have hq3 : (leB 8 bits).length ≤ 8 := by rw [leB_length]; omega
    clear o3 x3 d0 d1 d2 d3 d4 d5 N2
    generalize leB 8 bits = Q3 at *
    go_wp2_with (at_builtin; refine appB _ rfl (.tmp 37) (.tmp 40) rfl w.heap.size A2 c2 P2 rfl B3 e3 Q3 rfl ?_ M3.out.2.2.2 O3.out ?a5 ?b5; intro A3 c3 W3 h1 h2 h3; have N3 := Lib.hid (M3.out.app (Ext.refl _) h2 h1); obtain ⟨d0, d1, d2, d3, d4, d5⟩ := N3.out.cells; clear h1 h2 h3)
    case a5 => omega
    case b5 => exact M3.out.1.size
    have hy3 : P2.length + Q3.length = (P2 ++ Q3).length := by rw [List.length_append]
    rw [hy3]
    have hl3 : (P2 ++ Q3).length ≤ 120 := by rw [List.length_append]; omega
    clear hy3 M3 O3
    generalize P2 ++ Q3 = P3 at *
    go_wp2_with fail
    go_ret
    exact ⟨A3, c3, rfl, N3.out.2.2.2, N3.out.1⟩
  · have HP : Hid (bytesP seq kn ten lease n bits = (((leB 1 kn ++ leB 8 seq) ++ (leB 1 ten.size ++ ten.data.toList)) ++ leB 8 lease) ++ leB 8 n) := by show _ = _; simp only [bytesP, e1, e2, e3]; rfl
    have HE1 := Lib.hid e1
    have HE2 := Lib.hid e2
    have HE3 := Lib.hid e3
    rw [HP.out]
    clear e1 e2 e3
    go_enter Try.func18, Try.ntmps18
    go_wp2_with ((with_reducible show wpList _ _ _ ({ dst := some 1, op := Op.box 24 _, type := _, pos := _, after := _, guard := _ } :: _) _ _); refine bxA _ rfl 24 _ rfl _ rfl ?_; intro g w1 hg hs1 h1 e1; have HG := Lib.hid hg; have H1 := Lib.hid h1; have E1 := Lib.hid e1; have d1 := h1.cell 1; simp at d1; clear h1 e1 hs1 hg)
    refine (bytes_calls 1 kn _ (by omega) (by omega)).mono ?_
    rintro e w2 ⟨A0, c0, rfl, o2, e2⟩
    have N0 := Lib.hid (show RB w w2 g _ A0 c0 (leB 1 kn) from ⟨E1.out.trans e2, HG.out, H1.out.ext e2, o2.lower E1.out.size⟩)
    clear d1 o2 e2 H1 E1 HG
    obtain ⟨d0, d1, d2, d3, d4, d5⟩ := N0.out.cells
    have hl0 : (leB 1 kn).length ≤ 1 := by rw [leB_length]; omega
    generalize leB 1 kn = P0 at *
    go_wp2_with fail
    refine (bytes_calls 8 seq _ (by omega) hs).mono ?_
    rintro e v1 ⟨B1, e1, rfl, o1, x1⟩
    have M1 := Lib.hid (N0.out.ext x1)
    have O1 := Lib.hid o1.rd
    have hq1 : (leB 8 seq).length ≤ 8 := by rw [leB_length]; omega
    clear o1 x1 d0 d1 d2 d3 d4 d5 N0
    generalize leB 8 seq = Q1 at *
    go_wp2_with (at_builtin; refine appB _ rfl (.tmp 8) (.tmp 11) rfl w.heap.size A0 c0 P0 rfl B1 e1 Q1 rfl ?_ M1.out.2.2.2 O1.out ?a6 ?b6; intro A1 c1 W1 h1 h2 h3; have N1 := Lib.hid (M1.out.app (Ext.refl _) h2 h1); obtain ⟨d0, d1, d2, d3, d4, d5⟩ := N1.out.cells; clear h1 h2 h3)
    case a6 => omega
    case b6 => exact M1.out.1.size
    have hy1 : P0.length + Q1.length = (P0 ++ Q1).length := by rw [List.length_append]
    rw [hy1]
    have hl1 : (P0 ++ Q1).length ≤ 9 := by rw [List.length_append]; omega
    clear hy1 M1 O1
    generalize P0 ++ Q1 = P1 at *
    go_wp2_with fail
    refine (rtext_calls ten _ (by omega)).mono ?_
    rintro e v2 ⟨B2, e2, rfl, o2, x2⟩
    have M2 := Lib.hid (N1.out.ext x2)
    have O2 := Lib.hid o2.rd
    have hq2 : (leB 1 ten.size ++ ten.data.toList).length ≤ 101 := by rw [List.length_append, leB_length, show ten.data.toList.length = ten.size from rfl]; omega
    clear o2 x2 d0 d1 d2 d3 d4 d5 N1
    generalize leB 1 ten.size ++ ten.data.toList = Q2 at *
    go_wp2_with (at_builtin; refine appB _ rfl (.tmp 13) (.tmp 16) rfl w.heap.size A1 c1 P1 rfl B2 e2 Q2 rfl ?_ M2.out.2.2.2 O2.out ?a7 ?b7; intro A2 c2 W2 h1 h2 h3; have N2 := Lib.hid (M2.out.app (Ext.refl _) h2 h1); obtain ⟨d0, d1, d2, d3, d4, d5⟩ := N2.out.cells; clear h1 h2 h3)
    case a7 => omega
    case b7 => exact M2.out.1.size
    have hy2 : P1.length + Q2.length = (P1 ++ Q2).length := by rw [List.length_append]
    rw [hy2]
    have hl2 : (P1 ++ Q2).length ≤ 110 := by rw [List.length_append]; omega
    clear hy2 M2 O2
    generalize P1 ++ Q2 = P2 at *
    go_wp2_with fail
    refine (rhasL kn _).mono ?_
    rintro e wq ⟨rfl, eq⟩
    rw [HE1.out]
    have T2L := Lib.hid (N2.out.ext eq)
    clear eq d0 d1 d2 d3 d4 d5 N2
    have N2 := T2L
    clear T2L
    obtain ⟨d0, d1, d2, d3, d4, d5⟩ := N2.out.cells
    go_wp2_with fail
    refine (bytes_calls 8 lease _ (by omega) hlt).mono ?_
    rintro e v3 ⟨B3, e3, rfl, o3, x3⟩
    have M3 := Lib.hid (N2.out.ext x3)
    have O3 := Lib.hid o3.rd
    have hq3 : (leB 8 lease).length ≤ 8 := by rw [leB_length]; omega
    clear o3 x3 d0 d1 d2 d3 d4 d5 N2
    generalize leB 8 lease = Q3 at *
    go_wp2_with (at_builtin; refine appB _ rfl (.tmp 21) (.tmp 24) rfl w.heap.size A2 c2 P2 rfl B3 e3 Q3 rfl ?_ M3.out.2.2.2 O3.out ?a8 ?b8; intro A3 c3 W3 h1 h2 h3; have N3 := Lib.hid (M3.out.app (Ext.refl _) h2 h1); obtain ⟨d0, d1, d2, d3, d4, d5⟩ := N3.out.cells; clear h1 h2 h3)
    case a8 => omega
    case b8 => exact M3.out.1.size
    have hy3 : P2.length + Q3.length = (P2 ++ Q3).length := by rw [List.length_append]
    rw [hy3]
    have hl3 : (P2 ++ Q3).length ≤ 120 := by rw [List.length_append]; omega
    clear hy3 M3 O3
    generalize P2 ++ Q3 = P3 at *
    go_wp2_with fail
    refine (rhasN kn _).mono ?_
    rintro e wq ⟨rfl, eq⟩
    rw [HE2.out]
    have T3N := Lib.hid (N3.out.ext eq)
    clear eq d0 d1 d2 d3 d4 d5 N3
    have N3 := T3N
    clear T3N
    obtain ⟨d0, d1, d2, d3, d4, d5⟩ := N3.out.cells
    go_wp2_with fail
    refine (bytes_calls 8 n _ (by omega) hnt).mono ?_
    rintro e v4 ⟨B4, e4, rfl, o4, x4⟩
    have M4 := Lib.hid (N3.out.ext x4)
    have O4 := Lib.hid o4.rd
    have hq4 : (leB 8 n).length ≤ 8 := by rw [leB_length]; omega
    clear o4 x4 d0 d1 d2 d3 d4 d5 N3
    generalize leB 8 n = Q4 at *
    go_wp2_with (at_builtin; refine appB _ rfl (.tmp 29) (.tmp 32) rfl w.heap.size A3 c3 P3 rfl B4 e4 Q4 rfl ?_ M4.out.2.2.2 O4.out ?a9 ?b9; intro A4 c4 W4 h1 h2 h3; have N4 := Lib.hid (M4.out.app (Ext.refl _) h2 h1); obtain ⟨d0, d1, d2, d3, d4, d5⟩ := N4.out.cells; clear h1 h2 h3)
    case a9 => omega
    case b9 => exact M4.out.1.size
    have hy4 : P3.length + Q4.length = (P3 ++ Q4).length := by rw [List.length_append]
    rw [hy4]
    have hl4 : (P3 ++ Q4).length ≤ 130 := by rw [List.length_append]; omega
    clear hy4 M4 O4
    generalize P3 ++ Q4 = P4 at *
    go_wp2_with fail
    refine (rhasB kn _).mono ?_
    rintro e wq ⟨rfl, eq⟩
    rw [HE3.out]
    have T4B := Lib.hid (N4.out.ext eq)
    clear eq d0 d1 d2 d3 d4 d5 N4
    have N4 := T4B
    clear T4B
    obtain ⟨d0, d1, d2, d3, d4, d5⟩ := N4.out.cells
    go_wp2_with fail
    go_ret
    exact ⟨A4, c4, rfl, N4.out.2.2.2, N4.out.1⟩
  · have HP : Hid (bytesP seq kn ten lease n bits = (leB 1 kn ++ leB 8 seq) ++ (leB 1 ten.size ++ ten.data.toList)) := by show _ = _; simp only [bytesP, e1, e2, e3]; rfl
    have HE1 := Lib.hid e1
    have HE2 := Lib.hid e2
    have HE3 := Lib.hid e3
    rw [HP.out]
    clear e1 e2 e3
    go_enter Try.func18, Try.ntmps18
    go_wp2_with ((with_reducible show wpList _ _ _ ({ dst := some 1, op := Op.box 24 _, type := _, pos := _, after := _, guard := _ } :: _) _ _); refine bxA _ rfl 24 _ rfl _ rfl ?_; intro g w1 hg hs1 h1 e1; have HG := Lib.hid hg; have H1 := Lib.hid h1; have E1 := Lib.hid e1; have d1 := h1.cell 1; simp at d1; clear h1 e1 hs1 hg)
    refine (bytes_calls 1 kn _ (by omega) (by omega)).mono ?_
    rintro e w2 ⟨A0, c0, rfl, o2, e2⟩
    have N0 := Lib.hid (show RB w w2 g _ A0 c0 (leB 1 kn) from ⟨E1.out.trans e2, HG.out, H1.out.ext e2, o2.lower E1.out.size⟩)
    clear d1 o2 e2 H1 E1 HG
    obtain ⟨d0, d1, d2, d3, d4, d5⟩ := N0.out.cells
    have hl0 : (leB 1 kn).length ≤ 1 := by rw [leB_length]; omega
    generalize leB 1 kn = P0 at *
    go_wp2_with fail
    refine (bytes_calls 8 seq _ (by omega) hs).mono ?_
    rintro e v1 ⟨B1, e1, rfl, o1, x1⟩
    have M1 := Lib.hid (N0.out.ext x1)
    have O1 := Lib.hid o1.rd
    have hq1 : (leB 8 seq).length ≤ 8 := by rw [leB_length]; omega
    clear o1 x1 d0 d1 d2 d3 d4 d5 N0
    generalize leB 8 seq = Q1 at *
    go_wp2_with (at_builtin; refine appB _ rfl (.tmp 8) (.tmp 11) rfl w.heap.size A0 c0 P0 rfl B1 e1 Q1 rfl ?_ M1.out.2.2.2 O1.out ?a10 ?b10; intro A1 c1 W1 h1 h2 h3; have N1 := Lib.hid (M1.out.app (Ext.refl _) h2 h1); obtain ⟨d0, d1, d2, d3, d4, d5⟩ := N1.out.cells; clear h1 h2 h3)
    case a10 => omega
    case b10 => exact M1.out.1.size
    have hy1 : P0.length + Q1.length = (P0 ++ Q1).length := by rw [List.length_append]
    rw [hy1]
    have hl1 : (P0 ++ Q1).length ≤ 9 := by rw [List.length_append]; omega
    clear hy1 M1 O1
    generalize P0 ++ Q1 = P1 at *
    go_wp2_with fail
    refine (rtext_calls ten _ (by omega)).mono ?_
    rintro e v2 ⟨B2, e2, rfl, o2, x2⟩
    have M2 := Lib.hid (N1.out.ext x2)
    have O2 := Lib.hid o2.rd
    have hq2 : (leB 1 ten.size ++ ten.data.toList).length ≤ 101 := by rw [List.length_append, leB_length, show ten.data.toList.length = ten.size from rfl]; omega
    clear o2 x2 d0 d1 d2 d3 d4 d5 N1
    generalize leB 1 ten.size ++ ten.data.toList = Q2 at *
    go_wp2_with (at_builtin; refine appB _ rfl (.tmp 13) (.tmp 16) rfl w.heap.size A1 c1 P1 rfl B2 e2 Q2 rfl ?_ M2.out.2.2.2 O2.out ?a11 ?b11; intro A2 c2 W2 h1 h2 h3; have N2 := Lib.hid (M2.out.app (Ext.refl _) h2 h1); obtain ⟨d0, d1, d2, d3, d4, d5⟩ := N2.out.cells; clear h1 h2 h3)
    case a11 => omega
    case b11 => exact M2.out.1.size
    have hy2 : P1.length + Q2.length = (P1 ++ Q2).length := by rw [List.length_append]
    rw [hy2]
    have hl2 : (P1 ++ Q2).length ≤ 110 := by rw [List.length_append]; omega
    clear hy2 M2 O2
    generalize P1 ++ Q2 = P2 at *
    go_wp2_with fail
    refine (rhasL kn _).mono ?_
    rintro e wq ⟨rfl, eq⟩
    rw [HE1.out]
    have T2L := Lib.hid (N2.out.ext eq)
    clear eq d0 d1 d2 d3 d4 d5 N2
    have N2 := T2L
    clear T2L
    obtain ⟨d0, d1, d2, d3, d4, d5⟩ := N2.out.cells
    go_wp2_with fail
    refine (rhasN kn _).mono ?_
    rintro e wq ⟨rfl, eq⟩
    rw [HE2.out]
    have T2N := Lib.hid (N2.out.ext eq)
    clear eq d0 d1 d2 d3 d4 d5 N2
    have N2 := T2N
    clear T2N
    obtain ⟨d0, d1, d2, d3, d4, d5⟩ := N2.out.cells
    go_wp2_with fail
    refine (rhasB kn _).mono ?_
    rintro e wq ⟨rfl, eq⟩
    rw [HE3.out]
    have T2B := Lib.hid (N2.out.ext eq)
    clear eq d0 d1 d2 d3 d4 d5 N2
    have N2 := T2B
    clear T2B
    obtain ⟨d0, d1, d2, d3, d4, d5⟩ := N2.out.cells
    go_wp2_with fail
    go_ret
    exact ⟨A2, c2, rfl, N2.out.2.2.2, N2.out.1⟩
end Go.Proofs.Ytanlelignljbiaa
