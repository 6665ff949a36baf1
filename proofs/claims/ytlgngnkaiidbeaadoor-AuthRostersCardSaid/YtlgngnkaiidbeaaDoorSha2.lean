/- sha.Block. -/
import Derived.Test.YtlgngnkaiidbeaaDoorSha
import Derived.Deep.Cut
set_option maxRecDepth 100000
set_option linter.unusedVariables false
set_option linter.unusedSimpArgs false
namespace Go.Proofs.YtlgngnkaiidbeaaDoor
open Go.RowKit

def bvs (l : List UInt8) : Array Value := (l.map bv).toArray
theorem bvs_get (l : List UInt8) (i : Nat) (h : i < l.length) : (bvs l)[i]? = some (.int .u8 ((l[i]?.getD 0).toNat : Int)) := by
  simp [bvs, bv, List.getElem?_eq_getElem h]
/-- the table of constants lies in its variable -/
def Laid (w : World) : Prop := ∀ i, i < 64 → w.cell? ⟨0, i, none⟩ = some (.int .u32 (Sha.at_ Sha.K i : Int))
theorem Laid.ext {w w1 : World} (h : Laid w) (e : Ext w w1) : Laid w1 := fun i hi => e.cell (h i hi)

/-- words that were reckoned, zeros behind -/
def wz (b : List UInt8) (k : Nat) : List Nat := Sha.ws b k ++ List.replicate (64 - k) 0
theorem wz_length (b : List UInt8) (k : Nat) (h : k ≤ 64) : (wz b k).length = 64 := by simp [wz, Sha.ws_length]; omega
theorem wz_at (b : List UInt8) (k i : Nat) (h : i < k) : Sha.at_ (wz b k) i = Sha.at_ (Sha.ws b k) i := by
  unfold Sha.at_ wz; rw [List.getElem?_append_left (by rw [Sha.ws_length]; exact h)]
theorem wz_set (b : List UInt8) (k : Nat) (h : k < 64) : (wz b k).set k (Sha.nextW b (Sha.ws b k) k) = wz b (k + 1) := by
  unfold wz
  have hl := Sha.ws_length b k
  rw [List.set_append_right k _ (by omega), hl, Nat.sub_self, show 64 - k = (64 - (k + 1)) + 1 from by omega, List.replicate_succ, List.set_cons_zero]
  rw [Sha.ws]
  simp
theorem wz_full (b : List UInt8) : wz b 64 = Sha.ws b 64 := by simp [wz]

/-- where sha.Block stands: its variables -/
def BW (w wr : World) (g : Nat) (s : List Nat) (b : List UInt8) (W : List Nat) : Prop :=
  Ext w wr ∧ w.heap.size = g ∧ Arr wr g 71 (uvs s) ∧ Arr wr (g + 1) 60 (bvs b) ∧ Arr wr (g + 2) 71 (uvs (List.replicate 8 0)) ∧ Arr wr (g + 3) 83 (uvs W)
theorem BW.drewN {w wr : World} {g : Nat} {s : List Nat} {b : List UInt8} {W : List Nat} (h : BW w wr g s b W) (n : Nat) : BW w (wr.drewN n) g s b W :=
  ⟨h.1.drewN n, h.2.1, h.2.2.1, h.2.2.2.1, h.2.2.2.2.1, h.2.2.2.2.2⟩
theorem BW.drew {w wr : World} {g : Nat} {s : List Nat} {b : List UInt8} {W : List Nat} (h : BW w wr g s b W) : BW w wr.drew g s b W :=
  ⟨h.1.drew, h.2.1, h.2.2.1, h.2.2.2.1, h.2.2.2.2.1, h.2.2.2.2.2⟩
theorem BW.set {w wr : World} {g : Nat} {s : List Nat} {b : List UInt8} {W : List Nat} (h : BW w wr g s b W) (i n : Nat) (x : Int) (hx : x = (n : Int)) : BW w (wr.setCell ⟨g + 3, i, none⟩ (.int .u32 x)) g s b (W.set i n) := by
  subst hx
  obtain ⟨h1, h2, h3, h4, h5, h6⟩ := h
  refine ⟨h1.setCell (by show _ ≤ g + 3; omega) _, h2, h3.other (by omega) _ _, h4.other (by omega) _ _, h5.other (by omega) _ _, ?_⟩
  rw [← uvs_set]
  exact h6.set i _

theorem or_add (a b i : Nat) (h : b < 2 ^ i) : (a * 2 ^ i) ||| b = a * 2 ^ i + b := by
  rw [Nat.mul_comm]; exact (Nat.two_pow_add_eq_or_of_lt h a).symm
theorem word_bits (p0 p1 p2 p3 : Nat) (h0 : p0 < 256) (h1 : p1 < 256) (h2 : p2 < 256) (h3 : p3 < 256) :
    bits BinOp.or IntKind.u32 ((p0 : Int) * 16777216) ((p1 : Int) * 65536) = ((p0 * 16777216 + p1 * 65536 : Nat) : Int) ∧
    bits BinOp.or IntKind.u32 ((p0 * 16777216 + p1 * 65536 : Nat) : Int) ((p2 : Int) * 256) = ((p0 * 16777216 + p1 * 65536 + p2 * 256 : Nat) : Int) ∧
    bits BinOp.or IntKind.u32 ((p0 * 16777216 + p1 * 65536 + p2 * 256 : Nat) : Int) (p3 : Int) = ((p0 * 16777216 + p1 * 65536 + p2 * 256 + p3 : Nat) : Int) := by
  have e1 : (p0 * 16777216) ||| (p1 * 65536) = p0 * 16777216 + p1 * 65536 := or_add p0 (p1 * 65536) 24 (by omega)
  have e2 : (p0 * 16777216 + p1 * 65536) ||| (p2 * 256) = p0 * 16777216 + p1 * 65536 + p2 * 256 := by
    have := or_add (p0 * 256 + p1) (p2 * 256) 16 (by omega)
    rw [show p0 * 16777216 + p1 * 65536 = (p0 * 256 + p1) * 2 ^ 16 from by omega]; exact this
  have e3 : (p0 * 16777216 + p1 * 65536 + p2 * 256) ||| p3 = p0 * 16777216 + p1 * 65536 + p2 * 256 + p3 := by
    have := or_add (p0 * 65536 + p1 * 256 + p2) p3 8 (by omega)
    rw [show p0 * 16777216 + p1 * 65536 + p2 * 256 = (p0 * 65536 + p1 * 256 + p2) * 2 ^ 8 from by omega]; exact this
  refine ⟨?_, ?_, ?_⟩
  · rw [← e1, ← u32_or_nat _ _ (by omega) (by omega)]; rfl
  · rw [← e2, ← u32_or_nat _ _ (by omega) (by omega)]; rfl
  · rw [← e3, ← u32_or_nat _ _ (by omega) (by omega)]
theorem word_ex (p0 p1 p2 p3 : Nat) (h0 : p0 < 256) (h1 : p1 < 256) (h2 : p2 < 256) (h3 : p3 < 256) : ∃ y1 y2 y3 : Nat,
    bits BinOp.or IntKind.u32 ((p0 : Int) * 16777216) ((p1 : Int) * 65536) = (y1 : Int) ∧ bits BinOp.or IntKind.u32 (y1 : Int) ((p2 : Int) * 256) = (y2 : Int) ∧
    bits BinOp.or IntKind.u32 (y2 : Int) (p3 : Int) = (y3 : Int) ∧ y3 = p0 * 16777216 + p1 * 65536 + p2 * 256 + p3 :=
  let ⟨a, b, c⟩ := word_bits p0 p1 p2 p3 h0 h1 h2 h3; ⟨_, _, _, a, b, c, rfl⟩
theorem u32_in (x : Int) (h0 : 0 ≤ x) (h1 : x < 4294967296) : IntKind.u32.wrap x = x := by
  simp only [IntKind.wrap, IntKind.signed, IntKind.bits]
  simp
  omega

theorem xor_ex (a b : Nat) (ha : a < 4294967296) (hb : b < 4294967296) : ∃ y : Nat, bits BinOp.xor IntKind.u32 (a : Int) (b : Int) = (y : Int) ∧ y = a ^^^ b ∧ y < 4294967296 :=
  ⟨_, u32_xor_nat a b ha hb, rfl, Nat.xor_lt_two_pow (n := 32) ha hb⟩
theorem and_ex (a b : Nat) (ha : a < 4294967296) (hb : b < 4294967296) : ∃ y : Nat, bits BinOp.and IntKind.u32 (a : Int) (b : Int) = (y : Int) ∧ y = a &&& b ∧ y < 4294967296 :=
  ⟨_, u32_and_nat a b ha hb, rfl, Nat.and_lt_two_pow (n := 32) a hb⟩
theorem s0_ex (x : Nat) (hx : x < 4294967296) : ∃ y1 y2 : Nat, bits BinOp.xor IntKind.u32 (Sha.rotr 7 x : Int) (Sha.rotr 18 x : Int) = (y1 : Int) ∧ bits BinOp.xor IntKind.u32 (y1 : Int) ((x : Int) / 8) = (y2 : Int) ∧ y2 = Sha.s0 x ∧ y2 < 4294967296 := by
  obtain ⟨y1, h1, e1, l1⟩ := xor_ex _ _ (Sha.rotr_lt 7 x hx) (Sha.rotr_lt 18 x hx)
  obtain ⟨y2, h2, e2, l2⟩ := xor_ex y1 (x / 8) l1 (by omega)
  exact ⟨y1, y2, h1, h2, by rw [e2, e1]; rfl, l2⟩
theorem s1_ex (x : Nat) (hx : x < 4294967296) : ∃ y1 y2 : Nat, bits BinOp.xor IntKind.u32 (Sha.rotr 17 x : Int) (Sha.rotr 19 x : Int) = (y1 : Int) ∧ bits BinOp.xor IntKind.u32 (y1 : Int) ((x : Int) / 1024) = (y2 : Int) ∧ y2 = Sha.s1 x ∧ y2 < 4294967296 := by
  obtain ⟨y1, h1, e1, l1⟩ := xor_ex _ _ (Sha.rotr_lt 17 x hx) (Sha.rotr_lt 19 x hx)
  obtain ⟨y2, h2, e2, l2⟩ := xor_ex y1 (x / 1024) l1 (by omega)
  exact ⟨y1, y2, h1, h2, by rw [e2, e1]; rfl, l2⟩
theorem add_ex (a b : Nat) : ∃ z : Nat, IntKind.u32.wrap ((a : Int) + (b : Int)) = (z : Int) ∧ z = (a + b) % 4294967296 := by
  refine ⟨(a + b) % 4294967296, ?_, rfl⟩
  simp only [IntKind.wrap, IntKind.signed, IntKind.bits]
  simp

theorem not_ex (e : Nat) (he : e < 4294967296) : ∃ y : Nat, bits BinOp.xor IntKind.u32 IntKind.u32.max (e : Int) = (y : Int) ∧ y = 4294967295 - e ∧ y < 4294967296 := by
  refine ⟨4294967295 - e, ?_, rfl, by omega⟩
  have h := u32_xor_nat 4294967295 e (by omega) he
  have h2 : 4294967295 ^^^ e = 4294967295 - e := by
    have h : (BitVec.allOnes 32 ^^^ BitVec.ofNat 32 e).toNat = (~~~ (BitVec.ofNat 32 e)).toNat := by rw [BitVec.allOnes_xor]
    rw [BitVec.toNat_xor, BitVec.toNat_not, BitVec.toNat_allOnes, BitVec.toNat_ofNat, Nat.mod_eq_of_lt (by simpa using he)] at h
    exact h
  rw [h2] at h
  exact h
theorem t_ex (h e f g k v : Nat) (he : e < 4294967296) (hf : f < 4294967296) (hg : g < 4294967296) : ∃ x1 x2 a1 b1 ne b2 b3 a2 a3 a4 : Nat,
    (bits BinOp.xor IntKind.u32 (Sha.rotr 6 e : Int) (Sha.rotr 11 e : Int) = (x1 : Int) ∧ bits BinOp.xor IntKind.u32 (x1 : Int) (Sha.rotr 25 e : Int) = (x2 : Int) ∧ IntKind.u32.wrap ((h : Int) + (x2 : Int)) = (a1 : Int) ∧
     bits BinOp.and IntKind.u32 (e : Int) (f : Int) = (b1 : Int) ∧ bits BinOp.xor IntKind.u32 IntKind.u32.max (e : Int) = (ne : Int) ∧ bits BinOp.and IntKind.u32 (ne : Int) (g : Int) = (b2 : Int) ∧
     bits BinOp.xor IntKind.u32 (b1 : Int) (b2 : Int) = (b3 : Int) ∧ IntKind.u32.wrap ((a1 : Int) + (b3 : Int)) = (a2 : Int) ∧ IntKind.u32.wrap ((a2 : Int) + (k : Int)) = (a3 : Int) ∧ IntKind.u32.wrap ((a3 : Int) + (v : Int)) = (a4 : Int)) ∧
    a4 = (h + Sha.S1 e + Sha.ch e f g + k + v) % 4294967296 ∧ a4 = (a1 + b3 + k + v) % 4294967296 := by
  obtain ⟨x1, p1, q1, l1⟩ := xor_ex _ _ (Sha.rotr_lt 6 e he) (Sha.rotr_lt 11 e he)
  obtain ⟨x2, p2, q2, l2⟩ := xor_ex x1 _ l1 (Sha.rotr_lt 25 e he)
  obtain ⟨a1, p3, q3⟩ := add_ex h x2
  obtain ⟨b1, p4, q4, l4⟩ := and_ex e f he hf
  obtain ⟨ne, p5, q5, l5⟩ := not_ex e he
  obtain ⟨b2, p6, q6, l6⟩ := and_ex ne g l5 hg
  obtain ⟨b3, p7, q7, l7⟩ := xor_ex b1 b2 l4 l6
  obtain ⟨a2, p8, q8⟩ := add_ex a1 b3
  obtain ⟨a3, p9, q9⟩ := add_ex a2 k
  obtain ⟨a4, p10, q10⟩ := add_ex a3 v
  refine ⟨x1, x2, a1, b1, ne, b2, b3, a2, a3, a4, ⟨p1, p2, p3, p4, p5, p6, p7, p8, p9, p10⟩, ?_, by rw [q10, q9, q8]; omega⟩
  have e1 : x2 = Sha.S1 e := by rw [q2, q1]; rfl
  have e2 : b3 = Sha.ch e f g := by rw [q7, q6, q5, q4]; rfl
  rw [q10, q9, q8, q3, ← e1, ← e2]
  omega
theorem u_ex (a b c : Nat) (ha : a < 4294967296) (hb : b < 4294967296) (hc : c < 4294967296) : ∃ x1 x2 b1 b2 b3 b4 b5 z : Nat,
    (bits BinOp.xor IntKind.u32 (Sha.rotr 2 a : Int) (Sha.rotr 13 a : Int) = (x1 : Int) ∧ bits BinOp.xor IntKind.u32 (x1 : Int) (Sha.rotr 22 a : Int) = (x2 : Int) ∧
     bits BinOp.and IntKind.u32 (a : Int) (b : Int) = (b1 : Int) ∧ bits BinOp.and IntKind.u32 (a : Int) (c : Int) = (b2 : Int) ∧ bits BinOp.xor IntKind.u32 (b1 : Int) (b2 : Int) = (b3 : Int) ∧
     bits BinOp.and IntKind.u32 (b : Int) (c : Int) = (b4 : Int) ∧ bits BinOp.xor IntKind.u32 (b3 : Int) (b4 : Int) = (b5 : Int) ∧ IntKind.u32.wrap ((x2 : Int) + (b5 : Int)) = (z : Int)) ∧
    z = (Sha.S0 a + Sha.maj a b c) % 4294967296 ∧ x2 < 4294967296 ∧ b5 < 4294967296 := by
  obtain ⟨x1, p1, q1, l1⟩ := xor_ex _ _ (Sha.rotr_lt 2 a ha) (Sha.rotr_lt 13 a ha)
  obtain ⟨x2, p2, q2, l2⟩ := xor_ex x1 _ l1 (Sha.rotr_lt 22 a ha)
  obtain ⟨b1, p3, q3, l3⟩ := and_ex a b ha hb
  obtain ⟨b2, p4, q4, l4⟩ := and_ex a c ha hc
  obtain ⟨b3, p5, q5, l5⟩ := xor_ex b1 b2 l3 l4
  obtain ⟨b4, p6, q6, l6⟩ := and_ex b c hb hc
  obtain ⟨b5, p7, q7, l7⟩ := xor_ex b3 b4 l5 l6
  obtain ⟨z, p8, q8⟩ := add_ex x2 b5
  refine ⟨x1, x2, b1, b2, b3, b4, b5, z, ⟨p1, p2, p3, p4, p5, p6, p7, p8⟩, ?_, l2, l7⟩
  have e1 : x2 = Sha.S0 a := by rw [q2, q1]; rfl
  have e2 : b5 = Sha.maj a b c := by rw [q7, q6, q5, q4, q3]; rfl
  rw [q8, ← e1, ← e2]
theorem quiet_left {P : Program} {f : FuncId} {args : Array Value} {w : World} {n : Nat} {v : Value}
    (h : Calls P f args (w.drewN n) fun e w' => e = .returned v ∧ w.drewN n = w') : Calls P f args (w.drewN n) fun e w'' => e = .returned v ∧ ∃ m, w'' = w.drewN m :=
  h.mono fun _ _ ⟨he, hm⟩ => ⟨he, n, hm.symm⟩

theorem quiet_add_left {P : Program} {f : FuncId} {args : Array Value} {w : World} {a n : Nat} {v : Value}
    (h : Calls P f args (w.drewN (a + n)) fun e w' => e = .returned v ∧ w.drewN (a + n) = w') :
    Calls P f args (w.drewN (a + n)) fun e w'' => e = .returned v ∧ ∃ m, w'' = w.drewN (a + m) :=
  h.mono fun _ _ ⟨he, hm⟩ => ⟨he, n, hm.symm⟩

theorem one8 (a b c d e f g h : Int) : ∀ v ∈ #[Value.int .u32 a, .int .u32 b, .int .u32 c, .int .u32 d, .int .u32 e, .int .u32 f, .int .u32 g, .int .u32 h], v.oneCell' = true := by
  intro v hv
  simp at hv
  rcases hv with h | h | h | h | h | h | h | h <;> (subst h; rfl)
theorem uvs8 (a b c d e f g h : Nat) (x y : Int) (hx : x = (a : Int)) (hy : y = (e : Int)) : uvs [a, b, c, d, e, f, g, h] = #[Value.int .u32 x, .int .u32 b, .int .u32 c, .int .u32 d, .int .u32 y, .int .u32 f, .int .u32 g, .int .u32 h] := by
  subst hx hy; rfl

/-- .. and the state that turns, in its own variable -/
def BN (w wr : World) (g h : Nat) (s : List Nat) (b : List UInt8) (V : List Nat) : Prop := BW w wr g s b (Sha.ws b 64) ∧ g + 3 < h ∧ Arr wr h 71 (uvs V)
theorem BN.drewN {w wr : World} {g h : Nat} {s : List Nat} {b : List UInt8} {V : List Nat} (H : BN w wr g h s b V) (n : Nat) : BN w (wr.drewN n) g h s b V := ⟨H.1.drewN n, H.2.1, H.2.2⟩
theorem BW.grown {w wr w2 : World} {g h : Nat} {s : List Nat} {b : List UInt8} {W : List Nat} (H : BW w wr g s b W) (hh : g + 3 < h) (hg : wr.grownBy w2 (some h)) : BW w w2 g s b W := by
  obtain ⟨h1, h2, h3, h4, h5, h6⟩ := H
  refine ⟨h1.grown hg (fun k hk => by injection hk with hk; omega), h2, h3.grown hg ?_, h4.grown hg ?_, h5.grown hg ?_, h6.grown hg ?_⟩ <;> (intro e; injection e with e; omega)
theorem BW.ext {w wr w2 : World} {g : Nat} {s : List Nat} {b : List UInt8} {W : List Nat} (H : BW w wr g s b W) (he : Ext wr w2) : BW w w2 g s b W :=
  ⟨H.1.trans he, H.2.1, H.2.2.1.ext he, H.2.2.2.1.ext he, H.2.2.2.2.1.ext he, H.2.2.2.2.2.ext he⟩

/-- the first k are added -/
def mix (s V : List Nat) (k : Nat) : List Nat := Sha.addS (s.take k) (V.take k) ++ s.drop k
theorem mix_length (s V : List Nat) (k : Nat) (hs : s.length = 8) (hV : V.length = 8) (hk : k ≤ 8) : (mix s V k).length = 8 := by simp [mix, Sha.addS, hs, hV]; omega
theorem mix_at (s V : List Nat) (k : Nat) (hs : s.length = 8) (hV : V.length = 8) (hk : k < 8) : Sha.at_ (mix s V k) k = Sha.at_ s k := by
  unfold Sha.at_ mix
  have hl : (Sha.addS (s.take k) (V.take k)).length = k := by simp [Sha.addS, hs, hV]; omega
  rw [List.getElem?_append_right (by omega), hl, Nat.sub_self, List.getElem?_drop, Nat.add_zero]
theorem mix_set (s V : List Nat) (k : Nat) (hs : s.length = 8) (hV : V.length = 8) (hk : k < 8) : (mix s V k).set k ((Sha.at_ s k + Sha.at_ V k) % 4294967296) = mix s V (k + 1) := by
  unfold mix
  have hl : (Sha.addS (s.take k) (V.take k)).length = k := by simp [Sha.addS, hs, hV]; omega
  rw [List.set_append_right k _ (by omega), hl, Nat.sub_self, List.drop_eq_getElem_cons (by omega), List.set_cons_zero]
  rw [List.take_succ_eq_append_getElem (by omega), List.take_succ_eq_append_getElem (by omega)]
  unfold Sha.addS
  rw [List.zipWith_append (by simp; omega), List.append_assoc]
  simp [Sha.at_, List.getElem?_eq_getElem (show k < s.length by omega), List.getElem?_eq_getElem (show k < V.length by omega)]
theorem mix_full (s V : List Nat) (hs : s.length = 8) (hV : V.length = 8) : mix s V 8 = Sha.addS s V := by
  unfold mix; rw [List.take_of_length_le (by omega), List.take_of_length_le (by omega), List.drop_of_length_le (by omega), List.append_nil]
theorem BN.set {w wr : World} {g h : Nat} {s : List Nat} {b : List UInt8} {V : List Nat} (H : BN w wr g h s b V) (i n : Nat) (x : Int) (hx : x = (n : Int)) : BN w (wr.setCell ⟨g, i, none⟩ (.int .u32 x)) g h (s.set i n) b V := by
  subst hx
  obtain ⟨⟨h1, h2, h3, h4, h5, h6⟩, h7, h8⟩ := H
  refine ⟨⟨h1.setCell (by show _ ≤ g; omega) _, h2, ?_, h4.other (by omega) _ _, h5.other (by omega) _ _, h6.other (by omega) _ _⟩, h7, h8.other (by omega) _ _⟩
  rw [← uvs_set]
  exact h3.set i _
theorem BN.drew {w wr : World} {g h : Nat} {s : List Nat} {b : List UInt8} {V : List Nat} (H : BN w wr g h s b V) : BN w wr.drew g h s b V := ⟨H.1.drew, H.2.1, H.2.2⟩

set_option maxHeartbeats 8000000 in
theorem block_calls (s : List Nat) (b : List UInt8) (w : World) (hs : s.length = 8) (hs2 : ∀ x ∈ s, x < 4294967296) (hb : b.length = 64) (hL : Laid w) :
    Calls Tryd.prog 53 #[.agg (uvs s), .agg (bvs b)] w fun e w' => e = .returned (.agg (uvs (Sha.block s b))) ∧ Ext w w' := by
  have HS := Lib.hid hs
  have HS2 := Lib.hid hs2
  have HB := Lib.hid hb
  have HL := Lib.hid hL
  clear hs hs2 hb hL
  go_enter Tryd.func53, Tryd.ntmps53
  go_wp2_with (first | (refine bxA _ rfl 71 _ rfl (uvs s) rfl ?_; intro g w1 hg hs1 h1 e1; have HG := Lib.hid hg; have H1 := Lib.hid h1; have E1 := Lib.hid e1; have S1 := Lib.hid hs1; clear h1 e1 hs1 hg) | (refine bxA _ rfl 60 _ rfl (bvs b) rfl ?_; intro g2 w2 hg hs1 h1 e1; have HG2 := Lib.hid (hg.symm.trans S1.out); have H2 := Lib.hid h1; have E2 := Lib.hid e1; have S2 := Lib.hid hs1; clear h1 e1 hs1 hg) | (refine alA _ rfl 71 rfl _ _ zero8 ?_; intro g3 w3 hg hs1 h1 e1; have HG3 := Lib.hid (hg.symm.trans S2.out); have H3 := Lib.hid h1; have E3 := Lib.hid e1; have S3 := Lib.hid hs1; clear h1 e1 hs1 hg) | (refine alA _ rfl 83 rfl _ _ zero64 ?_; intro g4 w4 hg hs1 h1 e1; have HG4 := Lib.hid (hg.symm.trans S3.out); have H4 := Lib.hid h1; have E4 := Lib.hid e1; have S4 := Lib.hid hs1; clear h1 e1 hs1 hg) | fail)
  have e2 : g2 = g + 1 := HG2.out
  have e3 : g3 = g + 2 := by have := HG3.out; omega
  have e4 : g4 = g + 3 := by have := HG4.out; omega
  subst e2 e3 e4
  have HW : Hid (BW w w4 g s b (wz b 0)) := ⟨((E1.out.trans E2.out).trans E3.out).trans E4.out, HG.out, ((H1.out.ext E2.out).ext E3.out).ext E4.out, (H2.out.ext E3.out).ext E4.out, H3.out.ext E4.out, H4.out⟩
  clear H1 H2 H3 H4 E1 E2 E3 E4 S1 S2 S3 S4 HG HG2 HG3 HG4
  go_loopw [6, 7, 26] (fun _ _ i wr => ∃ k : Nat, k ≤ 16 ∧ i = .int .i64 k ∧ BW w wr g s b (wz b k)) (fun _ _ i _ => 16 - (intOf i).toNat)
  case atStart => exact ⟨0, by omega, rfl, HW.out⟩
  case round =>
    rename_i wr
    obtain ⟨k, hk, rfl, hbw⟩ := hrel
    have HW := Lib.hid hbw
    clear hbw
    by_cases hlt : k < 16
    · have hsl := slice_arr (P := Tryd.prog) wr 60 5 64 (g + 1) (4 * k) (4 * k + 4) (4 * (k : Int)) (4 * (k : Int) + 4) Tryd.underlying60 (by kernel_rfl) (by omega) (by omega) (by omega) (by omega) (by omega)
      rw [show 4 * k + 4 - 4 * k = 4 from by omega] at hsl
      have hb := HB.out
      have HW2 := Lib.hid HW.out.drew
      clear HW
      have c0 := HW2.out.2.2.2.1.cell_some (bvs_get b (4 * k) (by omega))
      have c1 := HW2.out.2.2.2.1.cell_some (bvs_get b (4 * k + 1) (by omega))
      have c2 := HW2.out.2.2.2.1.cell_some (bvs_get b (4 * k + 2) (by omega))
      have c3 := HW2.out.2.2.2.1.cell_some (bvs_get b (4 * k + 3) (by omega))
      have f := HW2.out.2.2.2.2.2.frozen k
      have q := HW2.out.2.2.2.2.2.cell_some (uvs_get (wz b k) k (by rw [wz_length b k (by omega)]; omega))
      have HN : Hid (Sha.nextW b (Sha.ws b k) k = (b[4 * k]?.getD 0).toNat * 16777216 + (b[4 * k + 1]?.getD 0).toNat * 65536 + (b[4 * k + 2]?.getD 0).toNat * 256 + (b[4 * k + 3]?.getD 0).toNat) := by
        show _ = _; rw [Sha.nextW, if_pos hlt]; rfl
      have l0 := (b[4 * k]?.getD 0).toNat_lt
      have l1 := (b[4 * k + 1]?.getD 0).toNat_lt
      have l2 := (b[4 * k + 2]?.getD 0).toNat_lt
      have l3 := (b[4 * k + 3]?.getD 0).toNat_lt
      generalize (b[4 * k]?.getD 0).toNat = p0 at *
      generalize (b[4 * k + 1]?.getD 0).toNat = p1 at *
      generalize (b[4 * k + 2]?.getD 0).toNat = p2 at *
      generalize (b[4 * k + 3]?.getD 0).toNat = p3 at *
      obtain ⟨y1, y2, y3, o1, o2, o3, hy⟩ := word_ex p0 p1 p2 p3 l0 l1 l2 l3
      have HN2 := Lib.hid (HN.out.trans hy.symm)
      clear HN hy
      have v0 := u32_in (p0 : Int) (by omega) (by omega)
      have v1 := u32_in (p1 : Int) (by omega) (by omega)
      have v2 := u32_in (p2 : Int) (by omega) (by omega)
      have v3 := u32_in (p3 : Int) (by omega) (by omega)
      have x0 := u32_in ((p0 : Int) * 16777216) (by omega) (by omega)
      have x1 := u32_in ((p1 : Int) * 65536) (by omega) (by omega)
      have x2 := u32_in ((p2 : Int) * 256) (by omega) (by omega)
      clear hb
      have k64 : (k : Int) < 64 := by omega
      have k0 : (0 : Int) ≤ (k : Int) := by omega
      go_wp2_with fail
      refine wp_region_still_tail 24 (by kernel_rfl) (by kernel_rfl) ?_
      simp only [List.take_succ_cons, List.take_zero, List.drop_succ_cons, List.drop_zero]
      change wpStill _ _ wr.drew (fun a' => wpList _ _ _ _ a' wr.drew) _ _
      generalize wr.drew = w2 at *
      repeat still_step
      refine wpStill_nil ?_
      go_wp2
      go_roundw
      case rel => exact ⟨k + 1, by omega, by go_num, by rw [← wz_set b k (by omega), HN2.out]; exact HW2.out.set k y3 _ rfl⟩
      case measure => simp [intOf]; omega
    · have HK := Lib.hid (show k = 16 from by omega)
      rw [HK.out] at HW
      go_wp2_with fail
      go_loopw [8, 9, 10, 11, 12] (fun i _ _ _ _ wr => ∃ k : Nat, 16 ≤ k ∧ k ≤ 64 ∧ i = .int .i64 k ∧ BW w wr g s b (wz b k)) (fun i _ _ _ _ _ => 64 - (intOf i).toNat)
      case atStart => exact ⟨16, by omega, by omega, rfl, HW.out⟩
      case round =>
        clear HW HK hlt
        rename_i wr
        generalize k = k16 at *
        obtain ⟨k, hk, hk2, rfl, hbw⟩ := hrel
        have HW := Lib.hid hbw
        clear hbw
        by_cases hlt : k < 64
        · have hwl := wz_length b k hk2
          have c15 := HW.out.2.2.2.2.2.cell_some (uvs_get (wz b k) (k - 15) (by omega))
          have c2 := HW.out.2.2.2.2.2.cell_some (uvs_get (wz b k) (k - 2) (by omega))
          rw [wz_at b k _ (by omega)] at c15 c2
          have lx := Sha.at_lt (Sha.ws_lt b k) (k - 15)
          have ly := Sha.at_lt (Sha.ws_lt b k) (k - 2)
          have HN : Hid (Sha.nextW b (Sha.ws b k) k = (Sha.at_ (Sha.ws b k) (k - 16) + Sha.s0 (Sha.at_ (Sha.ws b k) (k - 15)) + Sha.at_ (Sha.ws b k) (k - 7) + Sha.s1 (Sha.at_ (Sha.ws b k) (k - 2))) % 4294967296) := by
            show _ = _; rw [Sha.nextW, if_neg (by omega)]
          have H16 := Lib.hid (fun (w' : World) (h : BW w w' g s b (wz b k)) => h.2.2.2.2.2.cell_some (uvs_get (wz b k) (k - 16) (by omega)))
          have H7 := Lib.hid (fun (w' : World) (h : BW w w' g s b (wz b k)) => h.2.2.2.2.2.cell_some (uvs_get (wz b k) (k - 7) (by omega)))
          have Hk := Lib.hid (fun (w' : World) (h : BW w w' g s b (wz b k)) => h.2.2.2.2.2.cell_some (uvs_get (wz b k) k (by omega)))
          rw [wz_at b k _ (by omega)] at H16 H7
          clear hwl
          generalize Sha.at_ (Sha.ws b k) (k - 15) = x at *
          generalize Sha.at_ (Sha.ws b k) (k - 2) = y at *
          generalize Sha.at_ (Sha.ws b k) (k - 16) = p at *
          generalize Sha.at_ (Sha.ws b k) (k - 7) = q at *
          obtain ⟨y1, y2, o1, o2, o3, o4⟩ := s0_ex x lx
          obtain ⟨z1, z2, q1, q2, q3, q4⟩ := s1_ex y ly
          obtain ⟨a1, r1, t1⟩ := add_ex p y2
          obtain ⟨a2, r2, t2⟩ := add_ex a1 q
          obtain ⟨a3, r3, t3⟩ := add_ex a2 z2
          have HN2 : Hid (Sha.nextW b (Sha.ws b k) k = a3) := by show _ = _; rw [HN.out, t3, t2, t1, o3, q3]; omega
          clear HN o3 q3 t1 t2 t3
          have s1 : IntKind.i64.wrap ((k : Int) - 15) = (k : Int) - 15 := IntWalk.i64_in _ (by omega)
          have s2 : (0 : Int) ≤ (k : Int) - 15 := by omega
          have s3 : ((k : Int) - 15).toNat = k - 15 := by omega
          have s4 : (k : Int) - 15 < 64 := by omega
          have u1 : IntKind.i64.wrap ((k : Int) - 2) = (k : Int) - 2 := IntWalk.i64_in _ (by omega)
          have u2 : (0 : Int) ≤ (k : Int) - 2 := by omega
          have u3 : ((k : Int) - 2).toNat = k - 2 := by omega
          have u4 : (k : Int) - 2 < 64 := by omega
          go_wp2_with fail
          go_quiet (fail)
          clear s1 s2 s3 s4 u1 u2 u3 u4
          have HW2 := Lib.hid (HW.out.drewN nq)
          clear HW c15 c2
          generalize wr.drewN nq = w2 at *
          go_wp2_with (go_at_call 59; (first | (with_reducible refine (right7 _ _ lx).mono ?_) | (with_reducible refine (right18 _ _ lx).mono ?_) | (with_reducible refine (right17 _ _ ly).mono ?_) | (with_reducible refine (right19 _ _ ly).mono ?_)); rintro e w' ⟨rfl, rfl⟩)
          have HW3 := Lib.hid HW2.out.drew
          clear HW2
          have c16 := H16.out _ HW3.out
          have c7 := H7.out _ HW3.out
          have ck := Hk.out _ HW3.out
          have f := HW3.out.2.2.2.2.2.frozen k
          have s1 : IntKind.i64.wrap ((k : Int) - 16) = (k : Int) - 16 := IntWalk.i64_in _ (by omega)
          have s2 : (0 : Int) ≤ (k : Int) - 16 := by omega
          have s3 : ((k : Int) - 16).toNat = k - 16 := by omega
          have s4 : (k : Int) - 16 < 64 := by omega
          have u1 : IntKind.i64.wrap ((k : Int) - 7) = (k : Int) - 7 := IntWalk.i64_in _ (by omega)
          have u2 : (0 : Int) ≤ (k : Int) - 7 := by omega
          have u3 : ((k : Int) - 7).toNat = k - 7 := by omega
          have u4 : (k : Int) - 7 < 64 := by omega
          have k64 : (k : Int) < 64 := by omega
          have k0 : (0 : Int) ≤ (k : Int) := by omega
          have k16 : (16 : Int) ≤ (k : Int) := by omega
          have k7 : (7 : Int) ≤ (k : Int) := by omega
          have k16n : 16 ≤ k := by omega
          have k7n : 7 ≤ k := by omega
          refine wp_region_still_tail 15 (by kernel_rfl) (by kernel_rfl) ?_
          simp only [List.take_succ_cons, List.take_zero, List.drop_succ_cons, List.drop_zero]
          change wpStill _ _ w2.drew (fun a' => wpList _ _ _ _ a' w2.drew) _ _
          generalize w2.drew = w5 at *
          repeat still_step
          refine wpStill_nil ?_
          clear s1 s2 s3 s4 u1 u2 u3 u4
          go_wp2
          go_roundw
          case rel => exact ⟨k + 1, by omega, by omega, by go_num, by rw [← wz_set b k (by omega), HN2.out]; exact HW3.out.set k a3 _ rfl⟩
          case measure => simp [intOf]; omega
        · have HK := Lib.hid (show k = 64 from by omega)
          rw [HK.out, wz_full] at HW
          generalize k = k64 at *
          have h8 := size8
          have HZ : Hid ((Tryd.prog.info? 71).map (·.size) = some (uvs s).size) := by show _ = _; rw [uvs_size, HS.out]; exact size8
          have HZ2 : Hid ((uvs (List.replicate 8 0)).size = (uvs s).size) := by show _ = _; rw [uvs_size, uvs_size, HS.out]; rfl
          clear h8
          go_wp2_with (first | (refine ldA _ rfl 71 71 _ rfl g rfl (uvs s) _ HW.out.2.2.1 Tryd.underlying71 rfl HZ.out ?_) | (refine alA _ rfl 71 rfl _ _ zero8 ?_; intro gn w5 hg hs1 h1 e1; have H5 := Lib.hid h1; have HW5 := Lib.hid (HW.out.ext e1); have HH := Lib.hid (show g + 3 < gn from by have := HW.out.2.2.2.2.2.lt; omega); clear h1 e1 hs1 hg HW) | (refine stA _ rfl 71 71 _ _ rfl gn _ (uvs s) rfl rfl H5.out HZ.out HZ2.out (uvs_one _) ?_; intro w6 hs6 h6 g6; have HN := Lib.hid (show BN w w6 g gn s b (Sha.rounds s (Sha.ws b 64) 0) from ⟨HW5.out.grown HH.out g6, HH.out, h6⟩); clear hs6 h6 g6 H5 HW5 HH HZ HZ2) | fail)
          go_loopw [14, 15, 16, 17, 18, 19, 20, 21, 22, 23, 24, 104] (fun _ _ _ _ _ _ _ _ _ _ _ i wr => ∃ k : Nat, k ≤ 64 ∧ i = .int .i64 k ∧ BN w wr g gn s b (Sha.rounds s (Sha.ws b 64) k)) (fun _ _ _ _ _ _ _ _ _ _ _ i _ => 64 - (intOf i).toNat)
          case atStart => exact ⟨0, by omega, rfl, HN.out⟩
          case round =>
            clear HN HK
            rename_i wr
            obtain ⟨k, hk, rfl, hbn⟩ := hrel
            have HN := Lib.hid hbn
            clear hbn
            by_cases hlt : k < 64
            · have hv := Sha.rounds_lt HS2.out (Sha.ws b 64) k
              have hvl := Sha.rounds_length s (Sha.ws b 64) k HS.out
              have HV : Hid (Sha.rounds s (Sha.ws b 64) (k + 1) = Sha.rnd (Sha.rounds s (Sha.ws b 64) k) (Sha.at_ Sha.K k) (Sha.at_ (Sha.ws b 64) k)) := rfl
              generalize Sha.rounds s (Sha.ws b 64) k = V at *
              have HC := Lib.hid (fun (w' : World) (hh : BN w w' g gn s b V) (i : Nat) (hi : i < 8) => hh.2.2.cell_some (uvs_get V i (by omega)))
              have HCw := Lib.hid (fun (w' : World) (hh : BN w w' g gn s b V) => hh.1.2.2.2.2.2.cell_some (uvs_get (Sha.ws b 64) k (by rw [Sha.ws_length]; exact hlt)))
              have HCk := Lib.hid (fun (w' : World) (hh : BN w w' g gn s b V) => (HL.out.ext hh.1.1) k hlt)
              have lw := Sha.at_lt (Sha.ws_lt b 64) k
              have l0 := Sha.at_lt hv 0
              have l1 := Sha.at_lt hv 1
              have l2 := Sha.at_lt hv 2
              have l4 := Sha.at_lt hv 4
              have l5 := Sha.at_lt hv 5
              have l6 := Sha.at_lt hv 6
              obtain ⟨x1, x2, a1, b1, ne, b2, b3, a2, a3, t, ⟨o1, o2, o3, o4, o5, o6, o7, o8, o9, o10⟩, ht, ht2⟩ := t_ex (Sha.at_ V 7) (Sha.at_ V 4) (Sha.at_ V 5) (Sha.at_ V 6) (Sha.at_ Sha.K k) (Sha.at_ (Sha.ws b 64) k) l4 l5 l6
              obtain ⟨y1, y2, c1, c2, c3, c4, c5, z, ⟨q1, q2, q3, q4, q5, q6, q7, q8⟩, hz, m1, m2⟩ := u_ex (Sha.at_ V 0) (Sha.at_ V 1) (Sha.at_ V 2) l0 l1 l2
              obtain ⟨n0, r0, hn0⟩ := add_ex t z
              obtain ⟨n4, r4, hn4⟩ := add_ex (Sha.at_ V 3) t
              have HV2 : Hid (Sha.rounds s (Sha.ws b 64) (k + 1) = [n0, Sha.at_ V 0, Sha.at_ V 1, Sha.at_ V 2, n4, Sha.at_ V 4, Sha.at_ V 5, Sha.at_ V 6]) := by
                show _ = _
                rw [HV.out, Sha.rnd]
                have e0 : (Sha.tOf V (Sha.at_ Sha.K k) (Sha.at_ (Sha.ws b 64) k) + Sha.uOf V) % 4294967296 = n0 := by
                  rw [hn0, ht, hz, Sha.tOf, Sha.uOf]; omega
                have e4 : (Sha.at_ V 3 + Sha.tOf V (Sha.at_ Sha.K k) (Sha.at_ (Sha.ws b 64) k)) % 4294967296 = n4 := by
                  rw [hn4, ht, Sha.tOf]; omega
                rw [e0, e4]
              have HVL : Hid ((uvs V).size = 8) := by show _ = _; rw [uvs_size, hvl]
              have HF0 : Hid (((a1 : Int) + b3 + (Sha.at_ Sha.K k : Int) + (Sha.at_ (Sha.ws b 64) k : Int) + z) % 4294967296 = (n0 : Int)) := by show _ = _; rw [hn0, ht2]; omega
              have HF4 : Hid (((Sha.at_ V 3 : Int) + ((a1 : Int) + b3 + (Sha.at_ Sha.K k : Int) + (Sha.at_ (Sha.ws b 64) k : Int))) % 4294967296 = (n4 : Int)) := by show _ = _; rw [hn4, ht2]; omega
              clear HV hv hvl ht hz hn0 hn4 ht2
              have d0 := HC.out _ HN.out 0 (by omega)
              have d1 := HC.out _ HN.out 1 (by omega)
              have d2 := HC.out _ HN.out 2 (by omega)
              have d3 := HC.out _ HN.out 3 (by omega)
              have d4 := HC.out _ HN.out 4 (by omega)
              have d5 := HC.out _ HN.out 5 (by omega)
              have d6 := HC.out _ HN.out 6 (by omega)
              have d7 := HC.out _ HN.out 7 (by omega)
              have dw := HCw.out _ HN.out
              have dk := HCk.out _ HN.out
              clear HCw HCk
              generalize Sha.at_ V 0 = v0 at *
              generalize Sha.at_ V 1 = v1 at *
              generalize Sha.at_ V 2 = v2 at *
              generalize Sha.at_ V 3 = v3 at *
              generalize Sha.at_ V 4 = v4 at *
              generalize Sha.at_ V 5 = v5 at *
              generalize Sha.at_ V 6 = v6 at *
              generalize Sha.at_ V 7 = v7 at *
              generalize Sha.at_ Sha.K k = kk at *
              generalize Sha.at_ (Sha.ws b 64) k = ww at *
              have k64' : (k : Int) < 64 := by omega
              have k0' : (0 : Int) ≤ (k : Int) := by omega
              go_wp2_with fail
              go_quiet (fail)
              go_wp2_with fail
              go_quiet (fail)
              go_wp2_with fail
              go_quiet ((go_at_call 59; (first | (with_reducible exact quiet_add_left (right6 _ _ l4)) | (with_reducible exact quiet_add_left (right11 _ _ l4)) | (with_reducible exact quiet_add_left (right25 _ _ l4)))))
              go_upto_region 23 with (go_at_call 59; (first | (with_reducible refine (right2 _ _ l0).mono ?_) | (with_reducible refine (right13 _ _ l0).mono ?_) | (with_reducible refine (right22 _ _ l0).mono ?_)); rintro e w' ⟨rfl, rfl⟩)
              go_wp2_with ((with_reducible show wpList _ _ _ ({ dst := none, op := Op.store 71 (.tmp 13) (.tmp 182), type := _, pos := _, after := _, guard := _ } :: _) _ _); refine stA _ rfl 71 71 (.tmp 13) (.tmp 182) rfl gn (uvs V) _ rfl rfl (HN.out.drewN _).2.2 size8 HVL.out (one8 _ _ _ _ _ _ _ _) ?_)
              intro w7 hs7 h7 g7
              have HN7 := Lib.hid (show BN w w7 g gn s b (Sha.rounds s (Sha.ws b 64) (k + 1)) from ⟨(HN.out.drewN _).1.grown HN.out.2.1 g7, HN.out.2.1, by rw [HV2.out, uvs8 _ _ _ _ _ _ _ _ _ _ HF0.out HF4.out]; exact h7⟩)
              clear hs7 h7 g7
              go_wp2_with fail
              go_roundw
              case rel => exact ⟨k + 1, by omega, by go_num, HN7.out⟩
              case measure => simp [intOf]; omega
            · have HK := Lib.hid (show k = 64 from by omega)
              rw [HK.out] at HN
              generalize k = kq at *
              go_wp2_with fail
              have HVL := Lib.hid (Sha.rounds_length s (Sha.ws b 64) 64 HS.out)
              have HBL : Hid (Sha.block s b = Sha.addS s (Sha.rounds s (Sha.ws b 64) 64)) := rfl
              generalize Sha.rounds s (Sha.ws b 64) 64 = V at *
              go_loopw [25, 184] (fun _ i wr => ∃ k : Nat, k ≤ 8 ∧ i = .int .i64 k ∧ BN w wr g gn (mix s V k) b V) (fun _ i _ => 8 - (intOf i).toNat)
              case atStart => exact ⟨0, by omega, rfl, HN.out⟩
              case round =>
                clear HN HK
                rename_i wr
                obtain ⟨k, hk, rfl, hbn⟩ := hrel
                have HN := Lib.hid hbn.drew
                have HN0 := Lib.hid hbn
                clear hbn
                by_cases hlt : k < 8
                · have c0 := HN.out.1.2.2.1.cell_some (uvs_get (mix s V k) k (by rw [mix_length s V k HS.out HVL.out hk]; exact hlt))
                  have c1 := HN.out.2.2.cell_some (uvs_get V k (by rw [HVL.out]; exact hlt))
                  have f := HN.out.1.2.2.1.frozen k
                  have HM := Lib.hid (mix_set s V k HS.out HVL.out hlt)
                  rw [mix_at s V k HS.out HVL.out hlt] at c0
                  generalize Sha.at_ s k = x at *
                  generalize Sha.at_ V k = y at *
                  obtain ⟨z, r, hz⟩ := add_ex x y
                  rw [← hz] at HM
                  clear hz
                  have k8 : (k : Int) < 8 := by omega
                  have k0 : (0 : Int) ≤ (k : Int) := by omega
                  go_wp2_with fail
                  refine wp_region_still_tail 8 (by kernel_rfl) (by kernel_rfl) ?_
                  simp only [List.take_succ_cons, List.take_zero, List.drop_succ_cons, List.drop_zero]
                  change wpStill _ _ wr.drew (fun a' => wpList _ _ _ _ a' wr.drew) _ _
                  clear HN0
                  generalize wr.drew = w5 at *
                  repeat still_step
                  refine wpStill_nil ?_
                  go_wp2
                  go_roundw
                  case rel => exact ⟨k + 1, by omega, by go_num, by rw [← HM.out]; exact HN.out.set k z _ rfl⟩
                  case measure => simp [intOf]; omega
                · have HK := Lib.hid (show k = 8 from by omega)
                  rw [HK.out, mix_full s V HS.out HVL.out, ← HBL.out] at HN0
                  have HZ : Hid ((Tryd.prog.info? 71).map (·.size) = some (uvs (Sha.block s b)).size) := by show _ = _; rw [uvs_size, Sha.block_length s b HS.out]; exact size8
                  have HZ2 : Hid ((uvs (List.replicate 8 0)).size = (uvs (Sha.block s b)).size) := by show _ = _; rw [uvs_size, uvs_size, Sha.block_length s b HS.out]; rfl
                  clear HN
                  go_wp2_with (first | ((with_reducible show wpList _ _ _ ({ dst := _, op := Op.load 71 (.tmp 2), type := _, pos := _, after := _, guard := _ } :: _) _ _); refine ldA _ rfl 71 71 _ rfl g rfl (uvs (Sha.block s b)) _ HN0.out.1.2.2.1 Tryd.underlying71 rfl HZ.out ?_) | ((with_reducible show wpList _ _ _ ({ dst := none, op := Op.store 71 (.tmp 4) _, type := _, pos := _, after := _, guard := _ } :: _) _ _); refine stA _ rfl 71 71 _ _ rfl (g + 2) _ (uvs (Sha.block s b)) rfl rfl HN0.out.1.2.2.2.2.1 HZ.out HZ2.out (uvs_one _) ?_; intro w6 hs6 h6 g6; have H6 := Lib.hid h6; have E6 := Lib.hid (HN0.out.1.1.grown g6 (fun k hk => by injection hk with hk; have := HN0.out.1.2.1; omega)); clear hs6 h6 g6))
                  exact ret_row Tryd.results53 (g + 2) _ _ _ rfl H6.out Tryd.underlying71 rfl HZ.out ⟨rfl, E6.out⟩
end Go.Proofs.YtlgngnkaiidbeaaDoor
