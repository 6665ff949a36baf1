/- The contract of wire.Encode. -/
import Derived.Test.YtanlelignljbiaaWEnc
set_option maxRecDepth 100000
namespace Go.Proofs.Ytanlelignljbiaa
open Go.RowKit

def wBody (k s n : Nat) (t d : List UInt8) : List UInt8 := addW (fT k) (addW (fN k) (addW (fS k) (putW [] 1 k) 1 s) 2 n) 1 t.length ++ t ++ d
def wireB (k s n : Nat) (t d : List UInt8) : List UInt8 := putW [] 2 (wBody k s n t d).length ++ wBody k s n t d

def RetB2' (w : World) (bs : List UInt8) (x : Value) (e : Ending) (w' : World) : Prop :=
  ∃ A c, e = .returned (.tuple #[.slice A bs.length c, x]) ∧ OwnB w' w.heap.size A c bs ∧ Ext w w'
theorem RetB2'_mk (w w' : World) (bs : List UInt8) (x : Value) (A : Option Addr) (c : Nat) (h : OwnB w' w.heap.size A c bs) (e : Ext w w') : RetB2' w bs x (.returned (.tuple #[.slice A bs.length c, x])) w' := ⟨A, c, rfl, h, e⟩

theorem addW_len (has : Bool) (bs : List UInt8) (x : Nat) (width : Int) (hw : width = 1 ∨ width = 2) : (addW has bs width x).length ≤ bs.length + 2 := by
  unfold addW
  split
  · rcases hw with rfl | rfl
    · rw [show putW bs 1 x = bs ++ leB 1 x from rfl, List.length_append, leB_length]; omega
    · rw [show putW bs 2 x = bs ++ leB 2 x from rfl, List.length_append, leB_length]; omega
  · omega

set_option maxHeartbeats 4000000 in
theorem wencode_ok (k s n : Nat) (t : ByteArray) (A : Option Addr) (c : Nat) (d : List UInt8) (w : World) (hE : wErr k s n t.data.toList d.length = 0) (hk : k ≤ 8) (hs : s < 9223372036854775808) (hn : n < 9223372036854775808) (ht : t.size ≤ 100) (hd : d.length ≤ 200)
    (hr : RdB w A d) :
    Calls Try.prog 21 #[fraA k s n t A d.length c] w (RetB2' w (wireB k s n t.data.toList d) (.int .i64 0)) := by
  have hw1 : IntKind.u64.wrap (k : Int) = (k : Int) := by rw [IntKind.wrap_u64]; omega
  have HC : Hid (∀ W, Calls Try.prog 50 #[.agg #[.int .i64 k, .int .i64 s, .int .i64 n, .string t, .slice A d.length c]] W (RetV W (.int .i64 0))) := fun W => hE ▸ wcheck_calls k s n t A d.length c W
  have HR := Lib.hid hr
  clear hE hr
  unfold fraA
  go_enter Try.func21, Try.ntmps21
  go_wp2_with (first | ((with_reducible show wpList _ _ _ ({ dst := some 1, op := Op.box 42 _, type := _, pos := _, after := _, guard := _ } :: _) _ _); refine bxA _ rfl 42 _ rfl _ rfl ?_; intro g w1 hg hs1 h1 e1; have HG := Lib.hid hg; have H1 := Lib.hid h1; have E1 := Lib.hid e1; have d0 := h1.cell 0; have d1 := h1.cell 1; have d2 := h1.cell 2; have d3 := h1.cell 3; have d4 := h1.cell 4; simp at d0 d1 d2 d3 d4; clear h1 e1 hs1 hg))
  refine (HC.out _).mono ?_
  rintro e w2 ⟨rfl, e2⟩
  have H2 := Lib.hid (H1.out.ext e2)
  have E2 := Lib.hid (E1.out.trans e2)
  clear d0 d1 d2 d3 d4 HC
  have d0 := H2.out.cell 0
  simp at d0
  clear e2 H1 E1
  go_wp2_with fail
  refine (whas_calls _ _).mono ?_
  rintro e w' ⟨rfl, rfl⟩
  go_wp2_with fail
  refine (put_calls none 0 [] 1 k _ RdB.nil (by simp) (by omega)).mono ?_
  rintro e w3 ⟨A3, c3, rfl, o3, e3⟩
  have O3 := Lib.hid o3
  have H3 := Lib.hid (H2.out.ext e3)
  have E3 := Lib.hid (E2.out.trans e3)
  have SZ := Lib.hid (show w.heap.size ≤ w2.heap.size from E2.out.size)
  clear o3 e3 H2 d0
  have hl1 : (putW [] 1 k).length = 1 := by rw [show putW [] 1 k = [] ++ leB 1 k from rfl, List.length_append, leB_length]; rfl
  have HL1 := Lib.hid hl1
  clear hl1
  go_wp2_with (first | ((with_reducible show wpList _ _ _ ({ dst := some 9, op := Op.alloc 32, type := _, pos := _, after := _, guard := _ } :: _) _ _); refine alC _ rfl 32 rfl _ _ zero_bytes rfl ?_; intro p w4 hg hs1 h1 e1; have HP := Lib.hid (show g < p from by have := H3.out.lt; omega); have H4 := Lib.hid h1; have R4 := Lib.hid (H3.out.ext e1); have E4 := Lib.hid (E3.out.trans e1); have O4 := Lib.hid ((O3.out.lower SZ.out).ext e1); clear h1 e1 hs1 hg) | ((with_reducible show wpList _ _ _ ({ dst := none, op := Op.store 32 (.tmp 9) (.tmp 27), type := _, pos := _, after := _, guard := _ } :: _) _ _); refine stC _ rfl 32 32 _ _ rfl p _ (.slice A3 (putW [] 1 k).length c3) rfl rfl H4.out size_bytes rfl rfl ?_; intro w5 hs1 h1 g1; have N5 := Lib.hid (show EF w w5 g p _ A3 c3 (putW [] 1 k) from ⟨E4.out.grown g1 (fun k hk => by injection hk with hk; have := HG.out; have := HP.out; omega), HG.out, HP.out, R4.out.grown g1 (by intro e; injection e with e; have := HP.out; omega), h1, O4.out.keep g1 (.inr (own_ne O4.out H4.out))⟩); obtain ⟨d0, d1, d2, d3, d4, dp⟩ := N5.out.cells; clear h1 g1 hs1 H4 R4 E4 O4))
  refine (wenc1_calls (fS k) 1 s w _ p _ hs N5.out.bv (by rw [HL1.out]; omega)).mono ?_
  rintro e w6 ⟨rfl, b6, g6⟩
  obtain ⟨A6, c6, n6⟩ := N5.out.called b6 g6
  have N6 := Lib.hid n6
  clear d0 d1 d2 d3 d4 dp b6 g6 n6 N5 O3 H3 E3 SZ
  obtain ⟨d0, d1, d2, d3, d4, dp⟩ := N6.out.cells
  have HL2 := Lib.hid (addW_len (fS k) (putW [] 1 k) s 1 (.inl rfl))
  generalize hb2 : addW (fS k) (putW [] 1 k) 1 s = b2 at *
  have HB2 := Lib.hid hb2
  clear hb2
  go_wp2_with fail
  refine (wenc1_calls (fN k) 2 n w _ p _ hn N6.out.bv (by have := HL1.out; have := HL2.out; omega)).mono ?_
  rintro e w7 ⟨rfl, b7, g7⟩
  obtain ⟨A7, c7, n7⟩ := N6.out.called b7 g7
  have N7 := Lib.hid n7
  clear d0 d1 d2 d3 d4 dp b7 g7 n7 N6
  obtain ⟨d0, d1, d2, d3, d4, dp⟩ := N7.out.cells
  have HL3 := Lib.hid (addW_len (fN k) b2 n 2 (.inr rfl))
  generalize hb3 : addW (fN k) b2 2 n = b3 at *
  have HB3 := Lib.hid hb3
  clear hb3
  go_wp2_with fail
  refine (wenc1_calls (fT k) 1 t.size w _ p _ (by omega) N7.out.bv (by have := HL1.out; have := HL2.out; have := HL3.out; omega)).mono ?_
  rintro e w8 ⟨rfl, b8, g8⟩
  obtain ⟨A8, c8, n8⟩ := N7.out.called b8 g8
  have N8 := Lib.hid n8
  clear d0 d1 d2 d3 d4 dp b8 g8 n8 N7
  obtain ⟨d0, d1, d2, d3, d4, dp⟩ := N8.out.cells
  have HL4 := Lib.hid (addW_len (fT k) b3 t.size 1 (.inl rfl))
  generalize hb4 : addW (fT k) b3 1 t.size = b4 at *
  have HB4 := Lib.hid hb4
  clear hb4
  have hb4l : b4.length ≤ 10 := by have := HL1.out; have := HL2.out; have := HL3.out; have := HL4.out; omega
  have hts : t.data.toList.length = t.size := rfl
  have HTS := Lib.hid hts
  clear hts
  have hb5l : (b4 ++ t.data.toList).length ≤ 200 := by rw [List.length_append, HTS.out]; omega
  have HL5 := Lib.hid hb5l
  have HB5 : Hid (∃ b5, b4 ++ t.data.toList = b5) := ⟨_, rfl⟩
  obtain ⟨b5, hb5⟩ := HB5.out
  rw [hb5] at HL5
  have HQ5 := Lib.hid hb5
  clear hb5l hb5 HB5
  go_wp2_with (first | ((with_reducible show wpList _ _ _ ({ dst := some 48, op := _, type := _, pos := _, after := _, guard := _ } :: _) _ _); refine appS _ rfl (.tmp 45) (.tmp 47) rfl w.heap.size A8 c8 b4 rfl t rfl ?_ N8.out.2.2.2.2.2 ?c1 ?c2; rw [HQ5.out]; intro A10 c10 w10 h10 g10; have N10 := Lib.hid (show Arr w10 p 32 #[.slice A8 b4.length c8] from N8.out.2.2.2.2.1.grown g10 (fun e => own_ne N8.out.2.2.2.2.2 N8.out.2.2.2.2.1 e.symm)); have O10 := Lib.hid h10; have G10 := Lib.hid g10; clear h10 g10) | ((with_reducible show wpList _ _ _ ({ dst := none, op := Op.store 32 (.tmp 9) (.tmp 48), type := _, pos := _, after := _, guard := _ } :: _) _ _); refine stC _ rfl 32 32 _ _ rfl p _ (.slice A10 b5.length c10) rfl rfl N10.out size_bytes rfl rfl ?_; intro w11 hs1 h1 g1; have N11 := Lib.hid (N8.out.app G10.out O10.out g1 h1); clear d0 d1 d2 d3 d4 dp; obtain ⟨d0, d1, d2, d3, d4, dp⟩ := N11.out.cells; clear h1 g1 hs1 N10 O10 G10) | ((with_reducible show wpList _ _ _ ({ dst := some 52, op := _, type := _, pos := _, after := _, guard := _ } :: _) _ _); refine appB _ rfl (.tmp 49) (.tmp 51) rfl w.heap.size A10 c10 b5 rfl A c d rfl ?_ N11.out.2.2.2.2.2 (HR.out.ext N11.out.1) ?c3 ?c4; intro A12 c12 w12 h12 g12 k12; have N12 := Lib.hid (show Arr w12 p 32 #[.slice A10 b5.length c10] from N11.out.2.2.2.2.1.grown g12 (fun e => own_ne N11.out.2.2.2.2.2 N11.out.2.2.2.2.1 e.symm)); have O12 := Lib.hid h12; have G12 := Lib.hid g12; clear h12 g12 k12) | ((with_reducible show wpList _ _ _ ({ dst := none, op := Op.store 32 (.tmp 9) (.tmp 52), type := _, pos := _, after := _, guard := _ } :: _) _ _); refine stC _ rfl 32 32 _ _ rfl p _ (.slice A12 (b5 ++ d).length c12) rfl rfl N12.out size_bytes rfl rfl ?_; intro w13 hs1 h1 g1; have N13 := Lib.hid (N11.out.app G12.out O12.out g1 h1); clear d0 d1 d2 d3 d4 dp; obtain ⟨d0, d1, d2, d3, d4, dp⟩ := N13.out.cells; clear h1 g1 hs1 N12 O12 G12))
  case c1 => omega
  case c2 => exact N8.out.1.size
  case c3 => have := HL5.out; omega
  case c4 => exact N11.out.1.size
  have hBl : (b5 ++ d).length ≤ 400 := by rw [List.length_append]; have := HL5.out; omega
  have HWB : Hid (wireB k s n t.data.toList d = putW [] 2 (b5 ++ d).length ++ (b5 ++ d)) := by
    show _ = _
    rw [wireB, wBody, HTS.out, HB2.out, HB3.out, HB4.out, HQ5.out]
  generalize b5 ++ d = B at *
  have hw2 : IntKind.u64.wrap (B.length : Int) = (B.length : Int) := by rw [IntKind.wrap_u64]; omega
  have HR13 := Lib.hid N13.out.2.2.2.2.2.rd
  have E13 := Lib.hid N13.out.1
  have KP : Hid (∀ w', Ext w13 w' → Ext w13 w' ∧ w'.cell? ⟨p, 0, none⟩ = some (.slice A12 B.length c12)) := fun w' e => ⟨e, e.cell (N13.out.cells.2.2.2.2.2)⟩
  have HPL : Hid ((putW [] 2 B.length).length = 2) := by show _ = _; rw [show putW [] 2 B.length = [] ++ leB 2 B.length from rfl, List.length_append, leB_length]; rfl
  have HPU : Hid (∀ W, Calls Try.prog 39 #[.slice none 0 0, .int .i64 2, .int .u64 B.length] W (RetB W (putW [] 2 B.length))) := fun W => put_calls none 0 [] 2 B.length W RdB.nil (by simp) (by omega)
  generalize putW [] 2 B.length = P2 at *
  go_region_held3 (fun w' => Ext w13 w' ∧ w'.cell? ⟨p, 0, none⟩ = some (.slice A12 B.length c12)) (first | exact KP.out _ (Ext.refl _).drew | exact KP.out _ (by assumption))
    (first | (go_simp; go_at_call 39; refine (HPU.out _).mono ?_; rintro e w14 ⟨A14, c14, rfl, o14, e14⟩; have S14 : Ext w13 w14 := Ext.trans (by first | assumption | exact (Ext.refl _).drew) e14; have O14 := Lib.hid o14; clear o14 e14) | (refine stepB _ (by rfl) (.tmp 56) (.tmp 57) (by rfl) w13.heap.size A14 c14 P2 (by rfl) A12 c12 B (by rfl) ?_ O14.out (HR13.out.ext (by assumption)) (by have := HPL.out; omega) (Ext.size (by assumption)); intro A15 c15 w15 h15 g15 _; have S15 : Ext w13 w15 := Ext.grown (by assumption) g15 (fun k hk => (O14.out.base_ k hk).1); have O15 := Lib.hid h15; clear h15 g15))
  go_wp2_with fail
  go_ret2
  rw [HWB.out]
  exact ⟨A15, c15, by rw [List.length_append]; rfl, O15.out.lower E13.out.size, E13.out.trans S15⟩

set_option maxHeartbeats 1000000 in
theorem wencode_bad (k s n : Int) (t : ByteArray) (A : Option Addr) (dl c : Nat) (w : World) (hE : wErr k s n t.data.toList dl ≠ 0) :
    Calls Try.prog 21 #[fraA k s n t A dl c] w (RetV w (.tuple #[.slice none 0 0, .int .i64 (wErr k s n t.data.toList dl)])) := by
  have HC : Hid (∀ W, Calls Try.prog 50 #[.agg #[.int .i64 k, .int .i64 s, .int .i64 n, .string t, .slice A dl c]] W (RetV W (.int .i64 (wErr k s n t.data.toList dl)))) := fun W => wcheck_calls k s n t A dl c W
  have b1 : (wErr k s n t.data.toList dl != 0) = true := by simpa using hE
  generalize wErr k s n t.data.toList dl = E at *
  clear hE
  unfold fraA
  go_enter Try.func21, Try.ntmps21
  go_wp2_with fail
  refine (HC.out _).mono ?_
  rintro e w2 ⟨rfl, e2⟩
  have E2 := Lib.hid (((Ext.refl w).alloc _).trans e2)
  clear e2
  go_wp2_with fail
  go_ret2
  exact ⟨rfl, E2.out⟩
end Go.Proofs.Ytanlelignljbiaa
