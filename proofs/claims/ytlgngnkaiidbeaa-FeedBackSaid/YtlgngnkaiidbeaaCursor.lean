/- Contracts of octet's Cursor. -/
import Derived.Test.YtlgngnkaiidbeaaOctet
import Derived.Laws.BitsAll
set_option maxRecDepth 100000
set_option linter.unusedVariables false
set_option linter.unusedSimpArgs false
namespace Go.Proofs.Ytlgngnkaiidbeaa
open Go.RowKit

theorem cells_setCell {w : World} {g : Nat} {cs : Array Value} {t : TypeId} (h : w.heap[g]? = some (.cells cs t (0, 0))) (i : Nat) (u : Value) :
    (w.setCell ⟨g, i, none⟩ u).heap[g]? = some (.cells (cs.setIfInBounds i u) t (0, 0)) := by
  simp [World.setCell, Array.getElem?_modify, h]
theorem grown_setCellC (w : World) (g i : Nat) (u : Value) : w.grownBy (w.setCell ⟨g, i, none⟩ u) (some g) :=
  ⟨rfl, rfl, rfl, by simp [World.setCell], fun k _ hne => Below.heap_setCell _ _ _ _ (by intro e; subst e; exact hne rfl)⟩
theorem grown_drewN (w : World) (n : Nat) (r : Option Nat) : w.grownBy (w.drewN n) r := ⟨rfl, rfl, rfl, Nat.le_refl _, fun _ _ _ => rfl⟩
theorem grown_refl (w : World) (r : Option Nat) : w.grownBy w r := World.grownBy.refl w r

theorem OwnB.store {w : World} {base : Nat} {g c : Nat} {bs : List UInt8} (h : OwnB w base (some ⟨g, 0, none⟩) c bs) (j : Nat) (u : UInt8) :
    OwnB (w.setCell ⟨g, j, none⟩ (.int .u8 (u.toNat : Int))) base (some ⟨g, 0, none⟩) c (bs.set j u) := by
  have h' := World.ownsRow.stored h j (bv u)
  unfold OwnB
  rw [List.length_set, List.map_set]
  exact h'.1
theorem block_cell {w : World} {g : Nat} {cs : Array Value} {t : TypeId} (h : w.heap[g]? = some (.cells cs t (0, 0))) (i : Nat) : w.cell? ⟨g, i, none⟩ = cs[i]? := by
  simp [World.cell?, h]
theorem block_frozen {w : World} {g : Nat} {cs : Array Value} {t : TypeId} (h : w.heap[g]? = some (.cells cs t (0, 0))) (i : Nat) : w.frozen? ⟨g, i, none⟩ = false := by
  simp [World.frozen?, h]
theorem block_lt {w : World} {g : Nat} {o : Obj} (hb : w.heap[g]? = some o) : g < w.heap.size := by
  rcases Nat.lt_or_ge g w.heap.size with hl | hg
  · exact hl
  · rw [Array.getElem?_eq_none hg] at hb; cases hb

/-- block g is a cursor over bs, at k, with that error -/
def Cur (w : World) (g : Nat) (bs : List UInt8) (k : Nat) (er : Int) : Prop :=
  ∃ A c, w.heap[g]? = some (.cells #[.slice A bs.length c, .int .i64 k, .int .i64 er] 187 (0, 0)) ∧ RdB w A bs ∧ bs.length ≤ c ∧ c ≤ 9223372036854775807 ∧ (∀ ad, A = some ad → ad.block ≠ g) ∧ k ≤ bs.length

theorem Cur.ext {w w1 : World} {g : Nat} {bs : List UInt8} {k : Nat} {er : Int} (h : Cur w g bs k er) (he : Ext w w1) : Cur w1 g bs k er := by
  obtain ⟨A, c, h1, h2, h3⟩ := h
  exact ⟨A, c, he.block h1, h2.ext he, h3⟩
theorem Cur.lt {w : World} {g : Nat} {bs : List UInt8} {k : Nat} {er : Int} (h : Cur w g bs k er) : g < w.heap.size := by
  obtain ⟨A, c, h1, _⟩ := h
  exact block_lt h1
theorem Cur.drewN {w : World} {g : Nat} {bs : List UInt8} {k : Nat} {er : Int} (h : Cur w g bs k er) (n : Nat) : Cur (w.drewN n) g bs k er := h.ext ((Ext.refl w).drewN n)

/-- take, by definition -/
def takeC (bs : List UInt8) (k : Nat) (er : Int) (n : Nat) : List UInt8 × Nat × Int :=
  if er ≠ 0 then ([], k, er) else if bs.length - k < n then ([], k, 1) else ((bs.drop k).take n, k + n, 0)

/-- what a cursor's call leaves: bytes that can be read -/
def RetCur (w : World) (g : Nat) (bs : List UInt8) (r : List UInt8 × Nat × Int) (e : Ending) (w' : World) : Prop :=
  ∃ A c, e = .returned (.slice A r.1.length c) ∧ RdB w' A r.1 ∧ r.1.length ≤ c ∧ w.grownBy w' (some g) ∧ Cur w' g bs r.2.1 r.2.2
/-- what a cursor's call leaves: a value -/
def RetCV (w : World) (g : Nat) (bs : List UInt8) (v : Value) (k : Nat) (er : Int) (e : Ending) (w' : World) : Prop :=
  e = .returned v ∧ w.grownBy w' (some g) ∧ Cur w' g bs k er

theorem Cur.setAt {w : World} {g : Nat} {bs : List UInt8} {k : Nat} {er : Int} (h : Cur w g bs k er) (k' : Nat) (hk : k' ≤ bs.length) : Cur (w.setCell ⟨g, 1, none⟩ (.int .i64 k')) g bs k' er := by
  obtain ⟨A, c, h1, h2, h3, h4, h5, _⟩ := h
  exact ⟨A, c, cells_setCell h1 1 _, h2.grown (grown_setCellC _ _ _ _) (fun ad ha hb => h5 ad ha (by injection hb)), h3, h4, h5, hk⟩
theorem Cur.setErr {w : World} {g : Nat} {bs : List UInt8} {k : Nat} {er : Int} (h : Cur w g bs k er) (er' : Int) : Cur (w.setCell ⟨g, 2, none⟩ (.int .i64 er')) g bs k er' := by
  obtain ⟨A, c, h1, h2, h3, h4, h5, h6⟩ := h
  exact ⟨A, c, cells_setCell h1 2 _, h2.grown (grown_setCellC _ _ _ _) (fun ad ha hb => h5 ad ha (by injection hb)), h3, h4, h5, h6⟩

set_option maxHeartbeats 400000 in
theorem newCursor_calls (A : Option Addr) (c : Nat) (bs : List UInt8) (w : World) (hb : RdB w A bs) (hl : bs.length ≤ 1000000) :
    Calls Try.prog 117 #[.slice A bs.length c] w fun e w' => ∃ g, e = .returned (.pointer (some ⟨g, 0, none⟩)) ∧ w.heap.size ≤ g ∧ Cur w' g bs 0 0 ∧ Ext w w' := by
  have Hb := Lib.hid hb
  clear hb
  go_enter Try.func117, Try.ntmps117
  go_wp2_with (at_builtin; refine cpyB w rfl (.const (.slice none 0 0)) (.tmp 3) rfl rfl A c bs rfl ?_ Hb.out ?c2; intro A1 c1 w1 h1 e1; have H1 := Lib.hid h1; have E1 := Lib.hid e1; clear h1 e1)
  case c2 => omega
  go_ret
  have H := (Ext.refl w1).alloc (.cells #[Value.slice A1 bs.length c1, Value.int IntKind.i64 0, Value.int IntKind.i64 0] 187)
  refine ⟨w1.heap.size, rfl, E1.out.size, ⟨A1, c1, heap_new _ _, (H1.out.ext H).rd, H1.out.cap, H1.out.capmax, ?_, Nat.zero_le _⟩, E1.out.trans H⟩
  intro ad had hbl
  have := (H1.out.base_ w1.heap.size (by rw [had]; simp [blk, hbl])).2
  omega

set_option maxHeartbeats 400000 in
theorem take_calls (g : Nat) (bs : List UInt8) (k : Nat) (er : Int) (n : Nat) (w : World) (hc : Cur w g bs k er) (hl : bs.length ≤ 1000000) (hn : n ≤ 9223372036854775807) :
    Calls Try.prog 139 #[.pointer (some ⟨g, 0, none⟩), .int .i64 n] w (RetCur w g bs (takeC bs k er n)) := by
  have Hc := Lib.hid hc
  obtain ⟨A, c, hblk, hrd, hcap, hcm, hne, hk⟩ := hc
  have c0 : w.cell? ⟨g, 0, none⟩ = some (.slice A bs.length c) := block_cell hblk 0
  have c1 : w.cell? ⟨g, 1, none⟩ = some (.int .i64 k) := block_cell hblk 1
  have c2 : w.cell? ⟨g, 2, none⟩ = some (.int .i64 er) := block_cell hblk 2
  have f1 : w.frozen? ⟨g, 1, none⟩ = false := block_frozen hblk 1
  have f2 : w.frozen? ⟨g, 2, none⟩ = false := block_frozen hblk 2
  have Hblk := Lib.hid hblk
  have Hrd := Lib.hid hrd
  have Hne := Lib.hid hne
  clear hblk hrd hne
  by_cases he : er = 0
  · subst he
    by_cases hs : bs.length - k < n
    · have HT : Hid (takeC bs k 0 n = ([], k, 1)) := by show _ = _; simp [takeC, hs]
      have hs' : (bs.length : Int) - k < n := by omega
      rw [HT.out]
      go_enter Try.func139, Try.ntmps139
      go_wp2
      go_quiet (fail)
      go_wp2
      go_ret
      exact ⟨none, 0, rfl, RdB.nil, Nat.le_refl _, (grown_drewN w nq _).trans (grown_setCellC _ _ _ _), (Hc.out.drewN nq).setErr 1⟩
    · have hkn : k + n ≤ bs.length := by omega
      have HT : Hid (takeC bs k 0 n = ((bs.drop k).take n, k + n, 0)) := by show _ = _; simp [takeC, hs]
      rw [HT.out]
      clear hs
      go_enter Try.func139, Try.ntmps139
      go_wp2
      go_quiet (fail)
      go_wp2
      have s1 : IntKind.i64.wrap ((k : Int) + n) = (k : Int) + n := IntWalk.i64_in _ (by omega)
      have s2 : (0 : Int) ≤ (k : Int) + n := by omega
      have s3 : ((k : Int) + n).toNat = k + n := by omega
      go_quiet (fail)
      clear s1 s2 s3
      have HL : Hid (((bs.drop k).take n).length = n) := by show _ = _; simp; omega
      have HG := fun a b : Nat => Lib.hid (((grown_drewN w (a + b) _).trans (grown_setCellC _ g 1 (.int .i64 ((k + n : Nat) : Int)))))
      have HC := fun a b : Nat => Lib.hid ((Hc.out.drewN (a + b)).setAt (k + n) hkn)
      by_cases hck : c = k
      · subst hck
        go_wp2
        go_ret
        obtain rfl : n = 0 := by omega
        exact ⟨A, c - c, by rw [HL.out]; rfl, by simp [RdB.nil], by simp, (HG _ _).out, (HC _ _).out⟩
      · go_wp2
        go_ret
        refine ⟨_, c - k, by rw [HL.out]; rfl, ?_, by rw [HL.out]; omega, (HG _ _).out, (HC _ _).out⟩
        have hr := ((Hrd.out.cut k c hcap).take n)
        rw [if_neg hck] at hr
        refine hr.grown (HG _ _).out ?_
        intro ad had hbl
        cases A with
        | none => cases had
        | some a0 =>
          simp only [Option.map_some, Option.some.injEq] at had hbl
          exact Hne.out a0 rfl (by rw [← hbl, ← had, block_add])
  · have h0 : (er != 0) = true := by simpa using he
    have HT : Hid (takeC bs k er n = ([], k, er)) := by show _ = _; simp [takeC, he]
    rw [HT.out]
    clear he
    go_enter Try.func139, Try.ntmps139
    go_wp2
    go_ret
    exact ⟨none, 0, rfl, RdB.nil, Nat.le_refl _, grown_refl _ _, Hc.out⟩

theorem oknown_calls (n : Int) (w : World) :
   Calls Try.prog 138 #[.int .i64 n] w fun e w' => e = .returned (.bool (okW n)) ∧ w = w' := by
  by_cases h1 : n = 1
  · subst h1; go_enter Try.func138, Try.ntmps138; go_wp2; go_ret; exact ⟨rfl, rfl⟩
  by_cases h2 : n = 2
  · subst h2; go_enter Try.func138, Try.ntmps138; go_wp2; go_ret; exact ⟨rfl, rfl⟩
  by_cases h4 : n = 4
  · subst h4; go_enter Try.func138, Try.ntmps138; go_wp2; go_ret; exact ⟨rfl, rfl⟩
  by_cases h8 : n = 8
  · subst h8; go_enter Try.func138, Try.ntmps138; go_wp2; go_ret; exact ⟨rfl, rfl⟩
  have e1 : (n == 1) = false := by simpa using h1
  have e2 : (n == 2) = false := by simpa using h2
  have e4 : (n == 4) = false := by simpa using h4
  have e8 : (n == 8) = false := by simpa using h8
  have ho : okW n = false := by simp [okW, e1, e2, e4, e8]
  rw [ho]
  go_enter Try.func138, Try.ntmps138
  go_wp2
  go_ret
  exact ⟨rfl, rfl⟩

/-- Number, by definition -/
def numC (bs : List UInt8) (k : Nat) (er : Int) (width : Int) : Nat × Nat × Int :=
  if okW width then (leN (takeC bs k er width.toNat).1, (takeC bs k er width.toNat).2) else (0, k, er)

theorem orI (i : Nat) (x y : Int) (P : Nat) (hP : P = 2 ^ i) (hx0 : 0 ≤ x) (hx : x % P = 0) (hy0 : 0 ≤ y) (hy : y < P) (h64 : x + y < 18446744073709551616) :
    bits BinOp.or IntKind.u64 x y = x + y := by
  obtain ⟨a, rfl⟩ := Int.eq_ofNat_of_zero_le hx0
  obtain ⟨b, rfl⟩ := Int.eq_ofNat_of_zero_le hy0
  rw [u64_or_nat a b (by omega) (by omega), nat_join i a b (by rw [← hP]; omega) (by rw [← hP]; omega)]
  omega

theorem or8 (b0 b1 b2 b3 b4 b5 b6 b7 : Nat) (l0 : b0 < 256) (l1 : b1 < 256) (l2 : b2 < 256) (l3 : b3 < 256) (l4 : b4 < 256) (l5 : b5 < 256) (l6 : b6 < 256) (l7 : b7 < 256) :
    (bits BinOp.or IntKind.u64 (bits BinOp.or IntKind.u64 (bits BinOp.or IntKind.u64 (bits BinOp.or IntKind.u64 (bits BinOp.or IntKind.u64 (bits BinOp.or IntKind.u64 (bits BinOp.or IntKind.u64 (bits BinOp.or IntKind.u64 0 ((b7 : Int) * 72057594037927936)) ((b6 : Int) * 281474976710656)) ((b5 : Int) * 1099511627776)) ((b4 : Int) * 4294967296)) ((b3 : Int) * 16777216)) ((b2 : Int) * 65536)) ((b1 : Int) * 256)) (b0 : Int)) = ((b0 + b1 * 256 + b2 * 65536 + b3 * 16777216 + b4 * 4294967296 + b5 * 1099511627776 + b6 * 281474976710656 + b7 * 72057594037927936 : Nat) : Int) := by

  rw [show bits BinOp.or IntKind.u64 (0) ((b7 : Int) * 72057594037927936) = 0 + ((b7 : Int) * 72057594037927936) from orI 64 _ _ 18446744073709551616 (by rfl) (by omega) (by omega) (by omega) (by omega) (by omega)]
  rw [show bits BinOp.or IntKind.u64 (0 + ((b7 : Int) * 72057594037927936)) ((b6 : Int) * 281474976710656) = 0 + ((b7 : Int) * 72057594037927936) + ((b6 : Int) * 281474976710656) from orI 56 _ _ 72057594037927936 (by rfl) (by omega) (by omega) (by omega) (by omega) (by omega)]
  rw [show bits BinOp.or IntKind.u64 (0 + ((b7 : Int) * 72057594037927936) + ((b6 : Int) * 281474976710656)) ((b5 : Int) * 1099511627776) = 0 + ((b7 : Int) * 72057594037927936) + ((b6 : Int) * 281474976710656) + ((b5 : Int) * 1099511627776) from orI 48 _ _ 281474976710656 (by rfl) (by omega) (by omega) (by omega) (by omega) (by omega)]
  rw [show bits BinOp.or IntKind.u64 (0 + ((b7 : Int) * 72057594037927936) + ((b6 : Int) * 281474976710656) + ((b5 : Int) * 1099511627776)) ((b4 : Int) * 4294967296) = 0 + ((b7 : Int) * 72057594037927936) + ((b6 : Int) * 281474976710656) + ((b5 : Int) * 1099511627776) + ((b4 : Int) * 4294967296) from orI 40 _ _ 1099511627776 (by rfl) (by omega) (by omega) (by omega) (by omega) (by omega)]
  rw [show bits BinOp.or IntKind.u64 (0 + ((b7 : Int) * 72057594037927936) + ((b6 : Int) * 281474976710656) + ((b5 : Int) * 1099511627776) + ((b4 : Int) * 4294967296)) ((b3 : Int) * 16777216) = 0 + ((b7 : Int) * 72057594037927936) + ((b6 : Int) * 281474976710656) + ((b5 : Int) * 1099511627776) + ((b4 : Int) * 4294967296) + ((b3 : Int) * 16777216) from orI 32 _ _ 4294967296 (by rfl) (by omega) (by omega) (by omega) (by omega) (by omega)]
  rw [show bits BinOp.or IntKind.u64 (0 + ((b7 : Int) * 72057594037927936) + ((b6 : Int) * 281474976710656) + ((b5 : Int) * 1099511627776) + ((b4 : Int) * 4294967296) + ((b3 : Int) * 16777216)) ((b2 : Int) * 65536) = 0 + ((b7 : Int) * 72057594037927936) + ((b6 : Int) * 281474976710656) + ((b5 : Int) * 1099511627776) + ((b4 : Int) * 4294967296) + ((b3 : Int) * 16777216) + ((b2 : Int) * 65536) from orI 24 _ _ 16777216 (by rfl) (by omega) (by omega) (by omega) (by omega) (by omega)]
  rw [show bits BinOp.or IntKind.u64 (0 + ((b7 : Int) * 72057594037927936) + ((b6 : Int) * 281474976710656) + ((b5 : Int) * 1099511627776) + ((b4 : Int) * 4294967296) + ((b3 : Int) * 16777216) + ((b2 : Int) * 65536)) ((b1 : Int) * 256) = 0 + ((b7 : Int) * 72057594037927936) + ((b6 : Int) * 281474976710656) + ((b5 : Int) * 1099511627776) + ((b4 : Int) * 4294967296) + ((b3 : Int) * 16777216) + ((b2 : Int) * 65536) + ((b1 : Int) * 256) from orI 16 _ _ 65536 (by rfl) (by omega) (by omega) (by omega) (by omega) (by omega)]
  rw [show bits BinOp.or IntKind.u64 (0 + ((b7 : Int) * 72057594037927936) + ((b6 : Int) * 281474976710656) + ((b5 : Int) * 1099511627776) + ((b4 : Int) * 4294967296) + ((b3 : Int) * 16777216) + ((b2 : Int) * 65536) + ((b1 : Int) * 256)) (b0 : Int) = 0 + ((b7 : Int) * 72057594037927936) + ((b6 : Int) * 281474976710656) + ((b5 : Int) * 1099511627776) + ((b4 : Int) * 4294967296) + ((b3 : Int) * 16777216) + ((b2 : Int) * 65536) + ((b1 : Int) * 256) + (b0 : Int) from orI 8 _ _ 256 (by rfl) (by omega) (by omega) (by omega) (by omega) (by omega)]
  omega

set_option maxHeartbeats 400000 in
theorem number8 (g : Nat) (bs : List UInt8) (k : Nat) (er : Int) (w : World) (hc : Cur w g bs k er) (hl : bs.length ≤ 1000000) :
    Calls Try.prog 118 #[.pointer (some ⟨g, 0, none⟩), .int .i64 8] w (RetCV w g bs (.int .u64 (leN (takeC bs k er 8).1)) (takeC bs k er 8).2.1 (takeC bs k er 8).2.2) := by
  have Hc := Lib.hid hc
  clear hc
  have hz : (takeC bs k er 8).1.length ≠ 8 → (takeC bs k er 8).1 = [] := by
    unfold takeC; split
    · intro _; rfl
    · split
      · intro _; rfl
      · intro h; exfalso; apply h; simp; omega
  go_enter Try.func118, Try.ntmps118
  go_wp2_with fail
  refine (oknown_calls _ _).mono ?_
  rintro e w' ⟨rfl, rfl⟩
  go_wp2_with fail
  refine (take_calls g bs k er 8 _ Hc.out hl (by omega)).mono ?_
  rintro e w1 ⟨A, c, rfl, hr, hcap, hg, hcur⟩
  generalize takeC bs k er 8 = r at *
  obtain ⟨l, k', er'⟩ := r
  have HG := Lib.hid hg
  have HC := Lib.hid hcur
  have HR := Lib.hid hr
  have HZ := Lib.hid hz
  clear hg hcur hr hz
  dsimp only at *
  by_cases hk : l.length = 8
  · match l, hk with
    | [b0, b1, b2, b3, b4, b5, b6, b7], _ =>
      obtain ⟨ad, rfl, q0⟩ := HR.out.at_ (k := 0) (by simp)
      have qs : ∀ i, (hi : i < 8) → w1.cell? (ad.add i) = some (.int .u8 (([b0, b1, b2, b3, b4, b5, b6, b7][i]).toNat : Int)) := by
        intro i hi
        obtain ⟨ad', h, q⟩ := HR.out.at_ (k := i) (by simpa using hi)
        cases h
        exact q
      have q0' : w1.cell? ad = some (.int .u8 (b0.toNat : Int)) := q0
      have q1 : w1.cell? { block := ad.block, off := ad.off + 1 } = some (.int .u8 (b1.toNat : Int)) := qs 1 (by omega)
      have q2 : w1.cell? { block := ad.block, off := ad.off + 2 } = some (.int .u8 (b2.toNat : Int)) := qs 2 (by omega)
      have q3 : w1.cell? { block := ad.block, off := ad.off + 3 } = some (.int .u8 (b3.toNat : Int)) := qs 3 (by omega)
      have q4 : w1.cell? { block := ad.block, off := ad.off + 4 } = some (.int .u8 (b4.toNat : Int)) := qs 4 (by omega)
      have q5 : w1.cell? { block := ad.block, off := ad.off + 5 } = some (.int .u8 (b5.toNat : Int)) := qs 5 (by omega)
      have q6 : w1.cell? { block := ad.block, off := ad.off + 6 } = some (.int .u8 (b6.toNat : Int)) := qs 6 (by omega)
      have q7 : w1.cell? { block := ad.block, off := ad.off + 7 } = some (.int .u8 (b7.toNat : Int)) := qs 7 (by omega)
      have l0 : b0.toNat < 256 := b0.toNat_lt
      have l1 : b1.toNat < 256 := b1.toNat_lt
      have l2 : b2.toNat < 256 := b2.toNat_lt
      have l3 : b3.toNat < 256 := b3.toNat_lt
      have l4 : b4.toNat < 256 := b4.toNat_lt
      have l5 : b5.toNat < 256 := b5.toNat_lt
      have l6 : b6.toNat < 256 := b6.toNat_lt
      have l7 : b7.toNat < 256 := b7.toNat_lt
      clear qs q0
      rw [show [b0, b1, b2, b3, b4, b5, b6, b7].length = 8 from rfl]
      go_wp2
      go_ret
      refine ⟨?_, HG.out, HC.out⟩
      refine (ret_int (or8 b0.toNat b1.toNat b2.toNat b3.toNat b4.toNat b5.toNat b6.toNat b7.toNat l0 l1 l2 l3 l4 l5 l6 l7)).trans (ret_int ?_)
      simp only [leN]
      omega
  · have hb : ((l.length : Int) != 8) = true := by rw [bne_iff_ne]; omega
    have Hk := Lib.hid hk
    clear hk
    go_wp2
    go_ret
    refine ⟨?_, HG.out, HC.out⟩
    rw [HZ.out Hk.out]; rfl

theorem or4 (b0 b1 b2 b3 : Nat) (l0 : b0 < 256) (l1 : b1 < 256) (l2 : b2 < 256) (l3 : b3 < 256) :
    (bits BinOp.or IntKind.u64 (bits BinOp.or IntKind.u64 (bits BinOp.or IntKind.u64 (bits BinOp.or IntKind.u64 0 ((b3 : Int) * 16777216)) ((b2 : Int) * 65536)) ((b1 : Int) * 256)) (b0 : Int)) = ((b0 + b1 * 256 + b2 * 65536 + b3 * 16777216 : Nat) : Int) := by

  rw [show bits BinOp.or IntKind.u64 (0) ((b3 : Int) * 16777216) = 0 + ((b3 : Int) * 16777216) from orI 32 _ _ 4294967296 (by rfl) (by omega) (by omega) (by omega) (by omega) (by omega)]
  rw [show bits BinOp.or IntKind.u64 (0 + ((b3 : Int) * 16777216)) ((b2 : Int) * 65536) = 0 + ((b3 : Int) * 16777216) + ((b2 : Int) * 65536) from orI 24 _ _ 16777216 (by rfl) (by omega) (by omega) (by omega) (by omega) (by omega)]
  rw [show bits BinOp.or IntKind.u64 (0 + ((b3 : Int) * 16777216) + ((b2 : Int) * 65536)) ((b1 : Int) * 256) = 0 + ((b3 : Int) * 16777216) + ((b2 : Int) * 65536) + ((b1 : Int) * 256) from orI 16 _ _ 65536 (by rfl) (by omega) (by omega) (by omega) (by omega) (by omega)]
  rw [show bits BinOp.or IntKind.u64 (0 + ((b3 : Int) * 16777216) + ((b2 : Int) * 65536) + ((b1 : Int) * 256)) (b0 : Int) = 0 + ((b3 : Int) * 16777216) + ((b2 : Int) * 65536) + ((b1 : Int) * 256) + (b0 : Int) from orI 8 _ _ 256 (by rfl) (by omega) (by omega) (by omega) (by omega) (by omega)]
  omega

set_option maxHeartbeats 400000 in
theorem number4 (g : Nat) (bs : List UInt8) (k : Nat) (er : Int) (w : World) (hc : Cur w g bs k er) (hl : bs.length ≤ 1000000) :
    Calls Try.prog 118 #[.pointer (some ⟨g, 0, none⟩), .int .i64 4] w (RetCV w g bs (.int .u64 (leN (takeC bs k er 4).1)) (takeC bs k er 4).2.1 (takeC bs k er 4).2.2) := by
  have Hc := Lib.hid hc
  clear hc
  have hz : (takeC bs k er 4).1.length ≠ 4 → (takeC bs k er 4).1 = [] := by
    unfold takeC; split
    · intro _; rfl
    · split
      · intro _; rfl
      · intro h; exfalso; apply h; simp; omega
  go_enter Try.func118, Try.ntmps118
  go_wp2_with fail
  refine (oknown_calls _ _).mono ?_
  rintro e w' ⟨rfl, rfl⟩
  go_wp2_with fail
  refine (take_calls g bs k er 4 _ Hc.out hl (by omega)).mono ?_
  rintro e w1 ⟨A, c, rfl, hr, hcap, hg, hcur⟩
  generalize takeC bs k er 4 = r at *
  obtain ⟨l, k', er'⟩ := r
  have HG := Lib.hid hg
  have HC := Lib.hid hcur
  have HR := Lib.hid hr
  have HZ := Lib.hid hz
  clear hg hcur hr hz
  dsimp only at *
  by_cases hk : l.length = 4
  · match l, hk with
    | [b0, b1, b2, b3], _ =>
      obtain ⟨ad, rfl, q0⟩ := HR.out.at_ (k := 0) (by simp)
      have qs : ∀ i, (hi : i < 4) → w1.cell? (ad.add i) = some (.int .u8 (([b0, b1, b2, b3][i]).toNat : Int)) := by
        intro i hi
        obtain ⟨ad', h, q⟩ := HR.out.at_ (k := i) (by simpa using hi)
        cases h
        exact q
      have q0' : w1.cell? ad = some (.int .u8 (b0.toNat : Int)) := q0
      have q1 : w1.cell? { block := ad.block, off := ad.off + 1 } = some (.int .u8 (b1.toNat : Int)) := qs 1 (by omega)
      have q2 : w1.cell? { block := ad.block, off := ad.off + 2 } = some (.int .u8 (b2.toNat : Int)) := qs 2 (by omega)
      have q3 : w1.cell? { block := ad.block, off := ad.off + 3 } = some (.int .u8 (b3.toNat : Int)) := qs 3 (by omega)
      have l0 : b0.toNat < 256 := b0.toNat_lt
      have l1 : b1.toNat < 256 := b1.toNat_lt
      have l2 : b2.toNat < 256 := b2.toNat_lt
      have l3 : b3.toNat < 256 := b3.toNat_lt
      clear qs q0
      rw [show [b0, b1, b2, b3].length = 4 from rfl]
      go_wp2
      go_ret
      refine ⟨?_, HG.out, HC.out⟩
      refine (ret_int (or4 b0.toNat b1.toNat b2.toNat b3.toNat l0 l1 l2 l3)).trans (ret_int ?_)
      simp only [leN]
      omega
  · have hb : ((l.length : Int) != 4) = true := by rw [bne_iff_ne]; omega
    have Hk := Lib.hid hk
    clear hk
    go_wp2
    go_ret
    refine ⟨?_, HG.out, HC.out⟩
    rw [HZ.out Hk.out]; rfl

theorem or2 (b0 b1 : Nat) (l0 : b0 < 256) (l1 : b1 < 256) :
    (bits BinOp.or IntKind.u64 (bits BinOp.or IntKind.u64 0 ((b1 : Int) * 256)) (b0 : Int)) = ((b0 + b1 * 256 : Nat) : Int) := by

  rw [show bits BinOp.or IntKind.u64 (0) ((b1 : Int) * 256) = 0 + ((b1 : Int) * 256) from orI 16 _ _ 65536 (by rfl) (by omega) (by omega) (by omega) (by omega) (by omega)]
  rw [show bits BinOp.or IntKind.u64 (0 + ((b1 : Int) * 256)) (b0 : Int) = 0 + ((b1 : Int) * 256) + (b0 : Int) from orI 8 _ _ 256 (by rfl) (by omega) (by omega) (by omega) (by omega) (by omega)]
  omega

set_option maxHeartbeats 400000 in
theorem number2 (g : Nat) (bs : List UInt8) (k : Nat) (er : Int) (w : World) (hc : Cur w g bs k er) (hl : bs.length ≤ 1000000) :
    Calls Try.prog 118 #[.pointer (some ⟨g, 0, none⟩), .int .i64 2] w (RetCV w g bs (.int .u64 (leN (takeC bs k er 2).1)) (takeC bs k er 2).2.1 (takeC bs k er 2).2.2) := by
  have Hc := Lib.hid hc
  clear hc
  have hz : (takeC bs k er 2).1.length ≠ 2 → (takeC bs k er 2).1 = [] := by
    unfold takeC; split
    · intro _; rfl
    · split
      · intro _; rfl
      · intro h; exfalso; apply h; simp; omega
  go_enter Try.func118, Try.ntmps118
  go_wp2_with fail
  refine (oknown_calls _ _).mono ?_
  rintro e w' ⟨rfl, rfl⟩
  go_wp2_with fail
  refine (take_calls g bs k er 2 _ Hc.out hl (by omega)).mono ?_
  rintro e w1 ⟨A, c, rfl, hr, hcap, hg, hcur⟩
  generalize takeC bs k er 2 = r at *
  obtain ⟨l, k', er'⟩ := r
  have HG := Lib.hid hg
  have HC := Lib.hid hcur
  have HR := Lib.hid hr
  have HZ := Lib.hid hz
  clear hg hcur hr hz
  dsimp only at *
  by_cases hk : l.length = 2
  · match l, hk with
    | [b0, b1], _ =>
      obtain ⟨ad, rfl, q0⟩ := HR.out.at_ (k := 0) (by simp)
      have qs : ∀ i, (hi : i < 2) → w1.cell? (ad.add i) = some (.int .u8 (([b0, b1][i]).toNat : Int)) := by
        intro i hi
        obtain ⟨ad', h, q⟩ := HR.out.at_ (k := i) (by simpa using hi)
        cases h
        exact q
      have q0' : w1.cell? ad = some (.int .u8 (b0.toNat : Int)) := q0
      have q1 : w1.cell? { block := ad.block, off := ad.off + 1 } = some (.int .u8 (b1.toNat : Int)) := qs 1 (by omega)
      have l0 : b0.toNat < 256 := b0.toNat_lt
      have l1 : b1.toNat < 256 := b1.toNat_lt
      clear qs q0
      rw [show [b0, b1].length = 2 from rfl]
      go_wp2
      go_ret
      refine ⟨?_, HG.out, HC.out⟩
      refine (ret_int (or2 b0.toNat b1.toNat l0 l1)).trans (ret_int ?_)
      simp only [leN]
      omega
  · have hb : ((l.length : Int) != 2) = true := by rw [bne_iff_ne]; omega
    have Hk := Lib.hid hk
    clear hk
    go_wp2
    go_ret
    refine ⟨?_, HG.out, HC.out⟩
    rw [HZ.out Hk.out]; rfl

theorem or1 (b0 : Nat) (l0 : b0 < 256) :
    (bits BinOp.or IntKind.u64 0 (b0 : Int)) = ((b0 : Nat) : Int) := by

  rw [show bits BinOp.or IntKind.u64 (0) (b0 : Int) = 0 + (b0 : Int) from orI 8 _ _ 256 (by rfl) (by omega) (by omega) (by omega) (by omega) (by omega)]
  omega

set_option maxHeartbeats 400000 in
theorem number1 (g : Nat) (bs : List UInt8) (k : Nat) (er : Int) (w : World) (hc : Cur w g bs k er) (hl : bs.length ≤ 1000000) :
    Calls Try.prog 118 #[.pointer (some ⟨g, 0, none⟩), .int .i64 1] w (RetCV w g bs (.int .u64 (leN (takeC bs k er 1).1)) (takeC bs k er 1).2.1 (takeC bs k er 1).2.2) := by
  have Hc := Lib.hid hc
  clear hc
  have hz : (takeC bs k er 1).1.length ≠ 1 → (takeC bs k er 1).1 = [] := by
    unfold takeC; split
    · intro _; rfl
    · split
      · intro _; rfl
      · intro h; exfalso; apply h; simp; omega
  go_enter Try.func118, Try.ntmps118
  go_wp2_with fail
  refine (oknown_calls _ _).mono ?_
  rintro e w' ⟨rfl, rfl⟩
  go_wp2_with fail
  refine (take_calls g bs k er 1 _ Hc.out hl (by omega)).mono ?_
  rintro e w1 ⟨A, c, rfl, hr, hcap, hg, hcur⟩
  generalize takeC bs k er 1 = r at *
  obtain ⟨l, k', er'⟩ := r
  have HG := Lib.hid hg
  have HC := Lib.hid hcur
  have HR := Lib.hid hr
  have HZ := Lib.hid hz
  clear hg hcur hr hz
  dsimp only at *
  by_cases hk : l.length = 1
  · match l, hk with
    | [b0], _ =>
      obtain ⟨ad, rfl, q0⟩ := HR.out.at_ (k := 0) (by simp)
      have qs : ∀ i, (hi : i < 1) → w1.cell? (ad.add i) = some (.int .u8 (([b0][i]).toNat : Int)) := by
        intro i hi
        obtain ⟨ad', h, q⟩ := HR.out.at_ (k := i) (by simpa using hi)
        cases h
        exact q
      have q0' : w1.cell? ad = some (.int .u8 (b0.toNat : Int)) := q0
      have l0 : b0.toNat < 256 := b0.toNat_lt
      clear qs q0
      rw [show [b0].length = 1 from rfl]
      go_wp2
      go_ret
      refine ⟨?_, HG.out, HC.out⟩
      refine (ret_int (or1 b0.toNat l0)).trans (ret_int ?_)
      simp only [leN]
      omega
  · have hb : ((l.length : Int) != 1) = true := by rw [bne_iff_ne]; omega
    have Hk := Lib.hid hk
    clear hk
    go_wp2
    go_ret
    refine ⟨?_, HG.out, HC.out⟩
    rw [HZ.out Hk.out]; rfl

theorem cnumber_calls (g : Nat) (bs : List UInt8) (k : Nat) (er : Int) (width : Int) (w : World) (hc : Cur w g bs k er) (hl : bs.length ≤ 1000000) :
    Calls Try.prog 118 #[.pointer (some ⟨g, 0, none⟩), .int .i64 width] w (RetCV w g bs (.int .u64 (numC bs k er width).1) (numC bs k er width).2.1 (numC bs k er width).2.2) := by
  by_cases h1 : width = 1
  · subst h1; exact number1 g bs k er w hc hl
  by_cases h2 : width = 2
  · subst h2; exact number2 g bs k er w hc hl
  by_cases h4 : width = 4
  · subst h4; exact number4 g bs k er w hc hl
  by_cases h8 : width = 8
  · subst h8; exact number8 g bs k er w hc hl
  have ho : okW width = false := by simp [okW, h1, h2, h4, h8]
  have hn : numC bs k er width = (0, k, er) := by simp [numC, ho]
  rw [hn]
  have Ho := Lib.hid ho
  have Hc := Lib.hid hc
  clear ho hc hn h1 h2 h4 h8
  go_enter Try.func118, Try.ntmps118
  go_wp2_with fail
  refine (oknown_calls _ _).mono ?_
  rintro e w' ⟨rfl, rfl⟩
  rw [Ho.out]
  go_wp2_with fail
  go_ret
  exact ⟨rfl, grown_refl _ _, Hc.out⟩
end Go.Proofs.Ytlgngnkaiidbeaa
