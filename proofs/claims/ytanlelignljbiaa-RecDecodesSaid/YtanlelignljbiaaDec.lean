/- rec.Decode. -/
import Derived.Test.YtanlelignljbiaaEnc3
import Derived.Test.YtanlelignljbiaaCursor2
set_option maxRecDepth 100000
namespace Go.Proofs.Ytanlelignljbiaa
open Go.RowKit

/-- a cursor stays where another block, of no bytes, is written -/
theorem Cur.keep {w w1 : World} {g p : Nat} {bs : List UInt8} {k : Nat} {er : Int} {t : TypeId} {cs : Array Value} (h : Cur w g bs k er) (hg : w.grownBy w1 (some p)) (hp : g ≠ p) (ha : Arr w p t cs) (hu : ∀ v ∈ cs, ∀ n, v ≠ .int .u8 n) : Cur w1 g bs k er := by
  obtain ⟨A, c, h1, h2, h3, h4, h5, h6⟩ := h
  have hb : Arr w g 102 _ := h1
  refine ⟨A, c, hb.grown hg (by intro e; injection e with e; exact hp e), ?_, h3, h4, h5, h6⟩
  intro j u hj
  obtain ⟨ad, rfl, hc⟩ := h2 j u hj
  refine ⟨ad, rfl, ?_⟩
  have hne : some (ad.add j).block ≠ some p := by
    intro e
    injection e with e
    have hl := cell_lt hc
    have hcell : w.cell? (ad.add j) = some u := hc
    obtain ⟨b, hbv⟩ : ∃ b : UInt8, u = bv b := by
      rw [List.getElem?_map] at hj
      cases hq : bs[j]? with
      | none => rw [hq] at hj; cases hj
      | some b => rw [hq] at hj; exact ⟨b, by simpa using hj.symm⟩
    subst hbv
    unfold World.cell? at hcell
    rw [e, ha] at hcell
    simp only at hcell
    split at hcell
    · cases hcell
    · exact hu (bv b) (Array.mem_of_getElem? hcell) _ rfl
  rw [World.cell?_of_block (w := w) (hg.block _ (cell_lt hc) hne)]
  exact hc

section laws
variable {P : Program} {ops : Array Oper} {rest : List Oper} {o : Oper} {a : Act} {Q : Exit → Act → World → Prop}
/-- a cell of a variable, written -/
theorem stI (w : World) (hgd : o.guard = none) (t u : TypeId) (x y : Operand) (ho : o.op = .store t x y) (g i : Nat) (cs : Array Value) (v : Value) (hx : a.eval x = .pointer (some ⟨g, i, none⟩)) (hy : a.eval y = v) (H : Arr w g u cs)
    (hi : (P.info? t).map (·.size) = some 1) (hv : v.cells = #[v]) (h1 : v.oneCell' = true) (hlt : i < cs.size)
    (h : ∀ w', w'.heap.size = w.heap.size → Arr w' g u (cs.setIfInBounds i v) → w.grownBy w' (some g) → wpList P ops Q rest (a.put o.dst undef) w') : wpList P ops Q (o :: rest) a w := by
  refine wpList_plain hgd fun K hK => ?_
  have hr := run_storeCells_at P g i u [v] 0 cs w H (by simp; omega) (by simp [h1])
  have hrow : (cs.toList.take (i + 0) ++ [v] ++ cs.toList.drop (i + 0 + [v].length)).toArray = cs.setIfInBounds i v := by
    apply Array.toList_inj.1
    simp [Array.toList_setIfInBounds, List.set_eq_take_append_cons_drop, hlt]
  rw [hrow] at hr
  have he : (storeVar t ⟨g, i, none⟩ v).run P w = .ok () (w.setRow g (cs.setIfInBounds i v)) := by
    cases hq : P.info? t with
    | none => simp [hq] at hi
    | some j =>
      have hs : j.size = 1 := by simpa [hq] using hi
      simp [storeVar, sizeOf, typeInfo, hq, hs, hv, hr]
  unfold Oper.wp execOp
  simp only [ho, hx, hy, Instr.storeAt, Instr.sureAddr, Sem.run_bind, Sem.run_pure, Result.andThen_ok, he]
  exact hK _ _ (h _ (by simp) H.setRow (grown_setRow w g _))
end laws

def zrec : Array Value := #[.int .u64 0, .int .i64 0, .string ByteArray.empty, .int .u64 0, .int .u64 0, .int .u64 0]
def recV (seq : Nat) (k : Int) (ten : ByteArray) (lease n bits : Nat) : Array Value := #[.int .u64 seq, .int .i64 k, .string ten, .int .u64 lease, .int .u64 n, .int .u64 bits]
theorem recV_no8 (seq : Nat) (k : Int) (ten : ByteArray) (lease n bits : Nat) : ∀ v ∈ recV seq k ten lease n bits, ∀ m, v ≠ .int .u8 m := by
  intro v hv m
  simp [recV] at hv
  rcases hv with h | h | h | h | h | h <;> (subst h; intro e; cases e)

/-- where rec.Decode stands: the result's variable, the cursor's, the record's, the cursor -/
def DC (w W : World) (g2 gv g5 gc : Nat) (rec : Array Value) (bs : List UInt8) (k : Nat) (er : Int) : Prop :=
  Ext w W ∧ Arr W g2 24 zrec ∧ Arr W gv 72 #[.pointer (some ⟨gc, 0, none⟩)] ∧ Arr W g5 24 rec ∧ Cur W gc bs k er ∧
  (w.heap.size ≤ g2 ∧ w.heap.size ≤ gv ∧ w.heap.size ≤ g5 ∧ w.heap.size ≤ gc) ∧ (g2 ≠ gv ∧ g2 ≠ g5 ∧ g2 ≠ gc ∧ gv ≠ g5 ∧ gv ≠ gc ∧ g5 ≠ gc)
theorem DC.cur {w W W1 : World} {g2 gv g5 gc : Nat} {rec : Array Value} {bs : List UInt8} {k k' : Nat} {er er' : Int} (h : DC w W g2 gv g5 gc rec bs k er) (hg : W.grownBy W1 (some gc)) (hc : Cur W1 gc bs k' er') : DC w W1 g2 gv g5 gc rec bs k' er' := by
  obtain ⟨h1, h2, h3, h4, h5, h6, h7⟩ := h
  exact ⟨h1.grown hg (fun k hk => by injection hk with hk; omega), h2.grown hg (by intro e; injection e with e; omega), h3.grown hg (by intro e; injection e with e; omega), h4.grown hg (by intro e; injection e with e; omega), hc, h6, h7⟩
theorem DC.put {w W W1 : World} {g2 gv g5 gc : Nat} {rec rec' : Array Value} {bs : List UInt8} {k : Nat} {er : Int} (h : DC w W g2 gv g5 gc rec bs k er) (hu : ∀ v ∈ rec, ∀ n, v ≠ .int .u8 n) (hg : W.grownBy W1 (some g5)) (ha : Arr W1 g5 24 rec') : DC w W1 g2 gv g5 gc rec' bs k er := by
  obtain ⟨h1, h2, h3, h4, h5, h6, h7⟩ := h
  exact ⟨h1.grown hg (fun k hk => by injection hk with hk; omega), h2.grown hg (by intro e; injection e with e; omega), h3.grown hg (by intro e; injection e with e; omega), ha, h5.keep hg (by omega) h4 hu, h6, h7⟩
theorem DC.ext {w W W1 : World} {g2 gv g5 gc : Nat} {rec : Array Value} {bs : List UInt8} {k : Nat} {er : Int} (h : DC w W g2 gv g5 gc rec bs k er) (e : Ext W W1) : DC w W1 g2 gv g5 gc rec bs k er :=
  ⟨h.1.trans e, h.2.1.ext e, h.2.2.1.ext e, h.2.2.2.1.ext e, h.2.2.2.2.1.ext e, h.2.2.2.2.2⟩
end Go.Proofs.Ytanlelignljbiaa
