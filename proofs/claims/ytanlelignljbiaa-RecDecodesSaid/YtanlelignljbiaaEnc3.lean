/- rec.Encode. -/
import Derived.Test.YtanlelignljbiaaEnc
import Derived.Test.YtanlelignljbiaaArr
set_option maxRecDepth 100000
namespace Go.Proofs.Ytanlelignljbiaa
open Go.RowKit

section laws
variable {P : Program} {ops : Array Oper} {rest : List Oper} {o : Oper} {a : Act} {Q : Exit → Act → World → Prop}
/-- a variable of one cell, zero -/
theorem alC (w : World) (hgd : o.guard = none) (t : TypeId) (ho : o.op = .alloc t) (v : Value) (n : Nat) (hz : (P.info? t).map (fun i => (i.zero, i.size)) = some (some v, n)) (hv : v.cells = #[v])
    (h : ∀ g w', w.heap.size = g → w'.heap.size = g + 1 → Arr w' g t #[v] → Ext w w' → wpList P ops Q rest (a.put o.dst (.pointer (some ⟨g, 0, none⟩))) w') :
    wpList P ops Q (o :: rest) a w := by
  refine wpList_plain hgd fun K hK => ?_
  unfold Oper.wp execOp
  have := (zero_of_info hz).1 w
  simp [ho, Instr.alloc, newVar, newRow, newObj, hv, this]
  exact hK _ _ (h _ _ rfl (by simp) (Arr.new w t _) ((Ext.refl w).alloc _))
/-- a variable of one cell, written -/
theorem stC (w : World) (hgd : o.guard = none) (t u : TypeId) (x y : Operand) (ho : o.op = .store t x y) (g : Nat) (old v : Value) (hx : a.eval x = .pointer (some ⟨g, 0, none⟩)) (hy : a.eval y = v) (H : Arr w g u #[old])
    (hi : (P.info? t).map (·.size) = some 1) (hv : v.cells = #[v]) (h1 : v.oneCell' = true)
    (h : ∀ w', w'.heap.size = w.heap.size → Arr w' g u #[v] → w.grownBy w' (some g) → wpList P ops Q rest (a.put o.dst undef) w') : wpList P ops Q (o :: rest) a w := by
  refine wpList_plain hgd fun K hK => ?_
  have hr := run_storeVar_row (P := P) w g u t #[old] #[v] H hi rfl (by simp [h1])
  have he : storeVar t ⟨g, 0, none⟩ v = storeVar t ⟨g, 0, none⟩ (.agg #[v]) := by unfold storeVar; rw [hv]; rfl
  unfold Oper.wp execOp
  simp only [ho, hx, hy, Instr.storeAt, Instr.sureAddr, Sem.run_bind, Sem.run_pure, Result.andThen_ok, he, hr]
  exact hK _ _ (h _ (by simp) H.setRow (grown_setRow w g #[v]))
end laws

/-- the record in its variable, the bytes in theirs -/
def EN (w W : World) (g p : Nat) (rec : Array Value) (A : Option Addr) (c : Nat) (bs : List UInt8) : Prop :=
  Ext w W ∧ w.heap.size = g ∧ g < p ∧ Arr W g 24 rec ∧ Arr W p 32 #[.slice A bs.length c] ∧ OwnB W w.heap.size A c bs
theorem EN.next {w W W1 W2 : World} {g p : Nat} {rec : Array Value} {A A' : Option Addr} {c c' : Nat} {bs bs' : List UInt8} (h : EN w W g p rec A c bs) (e : Ext W W1) (ho : OwnB W1 W.heap.size A' c' bs')
    (hg : W1.grownBy W2 (some p)) (ha : Arr W2 p 32 #[.slice A' bs'.length c']) : EN w W2 g p rec A' c' bs' := by
  obtain ⟨h1, h2, h3, h4, h5, h6⟩ := h
  have hne := own_ne ho (h5.ext e)
  exact ⟨(h1.trans e).grown hg (fun k hk => by injection hk with hk; omega), h2, h3, (h4.ext e).grown hg (by intro e; injection e with e; omega), ha, (ho.lower h1.size).keep hg (.inr hne)⟩
theorem EN.app {w W W1 W2 : World} {g p : Nat} {rec : Array Value} {A A' : Option Addr} {c c' : Nat} {bs bs' : List UInt8} (h : EN w W g p rec A c bs) (e : W.grownBy W1 (blk A)) (ho : OwnB W1 w.heap.size A' c' bs')
    (hg : W1.grownBy W2 (some p)) (ha : Arr W2 p 32 #[.slice A' bs'.length c']) : EN w W2 g p rec A' c' bs' := by
  obtain ⟨h1, h2, h3, h4, h5, h6⟩ := h
  have hp : blk A ≠ some p := own_ne h6 h5
  have hge : some g ≠ blk A := by
    intro e
    rcases h6.2 with ⟨hv, _⟩ | ⟨g', cap, cur, hv, _, hh, _⟩
    · injection hv with hA _ _
      subst hA
      simp [blk] at e
    · injection hv with hA _ _
      subst hA
      simp [blk] at e
      subst e
      have h4' : W.heap[g]? = some (.cells rec 24 (0, 0)) := h4
      rw [h4'] at hh
      simp at hh
  have h5' : Arr W1 p 32 #[.slice A bs.length c] := h5.grown e (fun q => hp q.symm)
  exact ⟨(h1.grown e (fun k hk => (h6.base_ k hk).1)).grown hg (fun k hk => by injection hk with hk; omega), h2, h3, (h4.grown e hge).grown hg (by intro e; injection e with e; omega), ha, ho.keep hg (.inr (own_ne ho h5'))⟩
theorem EN.bv {w W : World} {g p : Nat} {rec : Array Value} {A : Option Addr} {c : Nat} {bs : List UInt8} (h : EN w W g p rec A c bs) : BV w W p bs := ⟨A, c, h.2.2.2.2.1, h.2.2.2.2.2, h.1, by have := h.2.1; have := h.2.2.1; omega⟩

theorem EN.cells {w W : World} {g p : Nat} {a0 a1 a2 a3 a4 a5 : Value} {A : Option Addr} {c : Nat} {bs : List UInt8} (h : EN w W g p #[a0, a1, a2, a3, a4, a5] A c bs) :
    W.cell? ⟨g, 0, none⟩ = some a0 ∧ W.cell? ⟨g, 1, none⟩ = some a1 ∧ W.cell? ⟨g, 2, none⟩ = some a2 ∧ W.cell? ⟨g, 3, none⟩ = some a3 ∧ W.cell? ⟨g, 4, none⟩ = some a4 ∧ W.cell? ⟨g, 5, none⟩ = some a5 ∧ W.cell? ⟨p, 0, none⟩ = some (.slice A bs.length c) :=
  ⟨h.2.2.2.1.cell 0, h.2.2.2.1.cell 1, h.2.2.2.1.cell 2, h.2.2.2.1.cell 3, h.2.2.2.1.cell 4, h.2.2.2.1.cell 5, h.2.2.2.2.1.cell 0⟩

def RetB2' (w : World) (bs : List UInt8) (x : Value) (e : Ending) (w' : World) : Prop :=
  ∃ A c, e = .returned (.tuple #[.slice A bs.length c, x]) ∧ OwnB w' w.heap.size A c bs ∧ Ext w w'
def encB (seq kn : Nat) (ten : ByteArray) (lease n bits : Nat) : List UInt8 :=
  fieldsP (putW (putW (putW [] 1 kn) 8 seq) 1 ten.size ++ ten.data.toList) kn lease n bits
theorem zero_bytes : (Try.prog.info? 32).map (fun i => (i.zero, i.size)) = some (some (.slice none 0 0), 1) := by kernel_rfl
theorem size_bytes : (Try.prog.info? 32).map (·.size) = some 1 := by kernel_rfl

theorem putW1_len (bs : List UInt8) (n : Nat) : (putW bs 1 n).length = bs.length + 1 := by
  rw [show putW bs 1 n = bs ++ leB 1 n from rfl, List.length_append, leB_length]

set_option maxHeartbeats 2000000 in
theorem encode_ok (seq kn : Nat) (ten : ByteArray) (lease n bits : Nat) (w : World) (hE : recE seq kn ten lease n bits = 0) (hs : seq < 18446744073709551616) (hk : kn ≤ 5) (ht : ten.size ≤ 16)
    (hlt : lease < 18446744073709551616) (hnt : n < 18446744073709551616) (hb : bits < 18446744073709551616) :
    Calls Try.prog 15 #[recA seq kn ten lease n bits] w (RetB2' w (encB seq kn ten lease n bits) (.int .i64 0)) := by
  have hw1 : IntKind.u64.wrap (kn : Int) = (kn : Int) := by rw [IntKind.wrap_u64]; omega
  have hw2 : IntKind.u64.wrap (ten.size : Int) = (ten.size : Int) := by rw [IntKind.wrap_u64]; omega
  have HC : Hid (∀ W, Calls Try.prog 12 #[.agg #[.int .u64 seq, .int .i64 kn, .string ten, .int .u64 lease, .int .u64 n, .int .u64 bits]] W (RetV W (.int .i64 0))) := fun W => hE ▸ check_calls seq kn ten lease n bits W hb
  clear hE
  unfold recA
  go_enter Try.func15, Try.ntmps15
  go_wp2_with (first | ((with_reducible show wpList _ _ _ ({ dst := some 1, op := Op.box 24 _, type := _, pos := _, after := _, guard := _ } :: _) _ _); refine bxA _ rfl 24 _ rfl _ rfl ?_; intro g w1 hg hs1 h1 e1; have HG := Lib.hid hg; have H1 := Lib.hid h1; have E1 := Lib.hid e1; have d0 := h1.cell 0; have d1 := h1.cell 1; have d2 := h1.cell 2; have d3 := h1.cell 3; have d4 := h1.cell 4; have d5 := h1.cell 5; simp at d0 d1 d2 d3 d4 d5; clear h1 e1 hs1 hg))
  refine (HC.out _).mono ?_
  rintro e w2 ⟨rfl, e2⟩
  have H2 := Lib.hid (H1.out.ext e2)
  have E2 := Lib.hid (E1.out.trans e2)
  clear d0 d2 d3 d4 d5 HC
  have d1 := H2.out.cell 1
  simp at d1
  clear e2 H1 E1
  go_wp2_with fail
  refine (put_calls none 0 [] 1 kn _ RdB.nil (by simp) (by omega)).mono ?_
  rintro e w3 ⟨A3, c3, rfl, o3, e3⟩
  have O3 := Lib.hid o3
  have H3 := Lib.hid (H2.out.ext e3)
  have E3 := Lib.hid (E2.out.trans e3)
  have SZ := Lib.hid (show w.heap.size ≤ w2.heap.size from E2.out.size)
  clear o3 e3 H2 d1
  go_wp2_with (first | ((with_reducible show wpList _ _ _ ({ dst := some 5, op := Op.alloc 32, type := _, pos := _, after := _, guard := _ } :: _) _ _); refine alC _ rfl 32 rfl _ _ zero_bytes rfl ?_; intro p w4 hg hs1 h1 e1; have HP := Lib.hid (show g < p from by have := H3.out.lt; omega); have H4 := Lib.hid h1; have R4 := Lib.hid (H3.out.ext e1); have E4 := Lib.hid (E3.out.trans e1); have O4 := Lib.hid ((O3.out.lower SZ.out).ext e1); clear h1 e1 hs1 hg) | ((with_reducible show wpList _ _ _ ({ dst := none, op := Op.store 32 (.tmp 5) (.tmp 14), type := _, pos := _, after := _, guard := _ } :: _) _ _); refine stC _ rfl 32 32 _ _ rfl p _ (.slice A3 (putW [] 1 kn).length c3) rfl rfl H4.out size_bytes rfl rfl ?_; intro w5 hs1 h1 g1; have N5 := Lib.hid (show EN w w5 g p _ A3 c3 (putW [] 1 kn) from ⟨E4.out.grown g1 (fun k hk => by injection hk with hk; have := HG.out; have := HP.out; omega), HG.out, HP.out, R4.out.grown g1 (by intro e; injection e with e; have := HP.out; omega), h1, O4.out.keep g1 (.inr (own_ne O4.out H4.out))⟩); obtain ⟨d0, d1, d2, d3, d4, d5, dp⟩ := N5.out.cells; clear h1 g1 hs1 H4 R4 E4 O4))
  refine (put_calls A3 c3 _ 8 seq _ N5.out.2.2.2.2.2.rd (by rw [putW1_len]; simp) hs).mono ?_
  rintro e w6 ⟨A6, c6, rfl, o6, e6⟩
  have O6 := Lib.hid o6
  have E6 := Lib.hid e6
  clear o6 e6 d0 d1 d2 d3 d4 d5 dp O3 H3 E3 SZ E2
  generalize hb1 : putW [] 1 kn = b1 at *
  have hl1 : b1.length ≤ 10 := by rw [← hb1, putW1_len]; simp
  have HB1 := Lib.hid hb1
  clear hb1
  go_wp2_with (((with_reducible show wpList _ _ _ ({ dst := none, op := Op.store 32 (.tmp 5) (.tmp 18), type := _, pos := _, after := _, guard := _ } :: _) _ _); refine stC _ rfl 32 32 _ _ rfl p _ (.slice A6 (putW b1 8 seq).length c6) rfl rfl (N5.out.2.2.2.2.1.ext E6.out) size_bytes rfl rfl ?_; intro w7 hs1 h1 g1; have N7 := Lib.hid (N5.out.next E6.out O6.out g1 h1); obtain ⟨d0, d1, d2, d3, d4, d5, dp⟩ := N7.out.cells; clear h1 g1 hs1))
  refine (put_calls A6 c6 _ 1 ten.size _ N7.out.2.2.2.2.2.rd (by rw [putW8_len]; omega) (by omega)).mono ?_
  rintro e w8 ⟨A8, c8, rfl, o8, e8⟩
  have O8 := Lib.hid o8
  have E8 := Lib.hid e8
  clear o8 e8 d0 d1 d2 d3 d4 d5 dp N5 O6 E6
  generalize hb2 : putW b1 8 seq = b2 at *
  have hl2 : b2.length ≤ 20 := by rw [← hb2, putW8_len]; omega
  have HB2 := Lib.hid hb2
  clear hb2
  go_wp2_with (first | ((with_reducible show wpList _ _ _ ({ dst := none, op := Op.store 32 (.tmp 5) (.tmp 24), type := _, pos := _, after := _, guard := _ } :: _) _ _); refine stC _ rfl 32 32 _ _ rfl p _ (.slice A8 (putW b2 1 ten.size).length c8) rfl rfl (N7.out.2.2.2.2.1.ext E8.out) size_bytes rfl rfl ?_; intro w9 hs1 h1 g1; have N9 := Lib.hid (N7.out.next E8.out O8.out g1 h1); obtain ⟨d0, d1, d2, d3, d4, d5, dp⟩ := N9.out.cells; have L9 := Lib.hid (putW1_len b2 ten.size); clear h1 g1 hs1) | (at_builtin; refine appS _ rfl (.tmp 25) (.tmp 27) rfl w.heap.size A8 c8 (putW b2 1 ten.size) rfl ten rfl ?_ N9.out.2.2.2.2.2 ?c1 ?c2; intro A10 c10 w10 h10 g10; have N10 := Lib.hid (show Arr w10 p 32 #[.slice A8 (putW b2 1 ten.size).length c8] from N9.out.2.2.2.2.1.grown g10 (fun e => own_ne N9.out.2.2.2.2.2 N9.out.2.2.2.2.1 e.symm)); have O10 := Lib.hid h10; have G10 := Lib.hid g10; clear h10 g10) | ((with_reducible show wpList _ _ _ ({ dst := none, op := Op.store 32 (.tmp 5) (.tmp 28), type := _, pos := _, after := _, guard := _ } :: _) _ _); refine stC _ rfl 32 32 _ _ rfl p _ (.slice A10 (putW b2 1 ten.size ++ ten.data.toList).length c10) rfl rfl N10.out size_bytes rfl rfl ?_; intro w11 hs1 h1 g1; have N11 := Lib.hid (N9.out.app G10.out O10.out g1 h1); clear d0 d1 d2 d3 d4 d5 dp; obtain ⟨d0, d1, d2, d3, d4, d5, dp⟩ := N11.out.cells; clear h1 g1 hs1))
  case c1 => have := L9.out; omega
  case c2 => exact N9.out.1.size
  have HL : Hid ((putW b2 1 ten.size ++ ten.data.toList).length ≤ 1000) := by
    show _ ≤ _
    rw [List.length_append, L9.out, show ten.data.toList.length = ten.size from rfl]; omega
  refine (each_enc w _ g p _ kn lease n bits d1 d3 d4 d5 (by have := HP.out; omega) N11.out.bv HL.out hlt hnt hb).mono ?_
  rintro e w12 ⟨rfl, b12, g12⟩
  obtain ⟨A12, c12, q1, q2, q3, q4⟩ := b12
  have dp2 : w12.cell? ⟨p, 0, none⟩ = _ := cell_of_one q1
  have O12 := Lib.hid q2
  have E12 := Lib.hid q3
  clear q1 q2 q3 q4 g12 d0 d1 d2 d3 d4 d5 dp
  have HEB : Hid (encB seq kn ten lease n bits = fieldsP (putW b2 1 ten.size ++ ten.data.toList) kn lease n bits) := by show _ = _; rw [encB, ← HB2.out, ← HB1.out]
  go_wp2_with fail
  go_ret2
  rw [RetB2', HEB.out]
  exact ⟨A12, c12, rfl, O12.out, E12.out⟩
end Go.Proofs.Ytanlelignljbiaa
