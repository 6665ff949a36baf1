/- the book beside the document's pages: contracts as the law needs them. -/
import Derived.Test.YtlgngnkaiidbeaaTargG
set_option maxRecDepth 100000
set_option linter.unusedVariables false
set_option linter.unusedSimpArgs false
namespace Go.Proofs.Ytlgngnkaiidbeaa
open Go.RowKit

/-- the book holds Xb, the document's list is xs -/
structure TK (w0 W : World) (gb : Nat) (G : Nat → Prop) (A : Option Addr) (c : Nat) (xs : List Pg) (Xb : List XP) (sum : Nat) : Prop where
  bk : ∃ S gm ps A' c', BkI W S gb ps sum gm A' c' ∧ Off S A xs ∧ (∀ k, S k → w0.heap.size ≤ k) ∧ ps.map Pg.pl = Xb ∧ ∀ k, G k → ¬ S k
  gl : ∀ k, G k → k < W.heap.size
  pg : Pgs W w0.heap.size A c xs
  ex : Ext w0 W
/-- sizes -/
def XB (k : Nat) (X : List XP) : Prop := X.length ≤ k ∧ ∀ q ∈ X, q.2.2.length ≤ 200 * k ∧ q.2.1.size ≤ 100
section tk
variable {w0 W W1 W2 : World} {G : Nat → Prop} {gb c sum : Nat} {A : Option Addr} {xs : List Pg} {Xb : List XP}
theorem TK.ext (h : TK w0 W gb G A c xs Xb sum) (e : Ext W W1) : TK w0 W1 gb G A c xs Xb sum := by
  obtain ⟨S, gm, ps, A', c', h1, h2, h3, h4, h5⟩ := h.bk
  exact ⟨⟨S, gm, ps, A', c', h1.ext e, h2, h3, h4, h5⟩, fun k hk => Nat.lt_of_lt_of_le (h.gl k hk) e.size, h.pg.ext e, h.ex.trans e⟩
theorem TK.weak {G' : Nat → Prop} (h : TK w0 W gb G A c xs Xb sum) (hg : ∀ k, G' k → G k) : TK w0 W gb G' A c xs Xb sum := by
  obtain ⟨S, gm, ps, A', c', h1, h2, h3, h4, h5⟩ := h.bk
  exact ⟨⟨S, gm, ps, A', c', h1, h2, h3, h4, fun k hk => h5 k (hg k hk)⟩, fun k hk => h.gl k (hg k hk), h.pg, h.ex⟩
/-- a block that is new lies outside -/
theorem TK.new (h : TK w0 W gb G A c xs Xb sum) (e : Ext W W1) {g : Nat} (h1 : W.heap.size ≤ g) (h2 : g < W1.heap.size) : TK w0 W1 gb (fun k => k = g) A c xs Xb sum := by
  obtain ⟨S, gm, ps, A', c', q1, q2, q3, q4, q5⟩ := h.bk
  exact ⟨⟨S, gm, ps, A', c', q1.ext e, q2, q3, q4, fun k hk hs => by have := q1.lt k hs; omega⟩, fun k hk => by omega, h.pg.ext e, h.ex.trans e⟩
theorem off_gr {S S' : Nat → Prop} (h : ∀ k, G k → ¬ S k) (hl : ∀ k, G k → k < W.heap.size) (g : Gr S S' W) : ∀ k, G k → ¬ S' k := fun k hk hs => (g k hs).elim (h k hk) (fun h2 => by have := hl k hk; omega)
/-- blocks that are as they were -/
def KpO (G : Nat → Prop) (W W' : World) : Prop := ∀ k, G k → W'.heap[k]? = W.heap[k]?
theorem keys_of {ps : List Pg} (h : ps.map Pg.pl = Xb) : ps.map (·.k) = keysX Xb := by rw [← h, keys_pl]
theorem mem_len {ps : List Pg} (h : ps.map Pg.pl = Xb) {n : Nat} (hb : ∀ q ∈ Xb, q.2.2.length ≤ n) : ∀ p ∈ ps, p.d.length ≤ n := fun p hp => hb p.pl (by rw [← h]; exact List.mem_map_of_mem hp)
theorem len_of {ps : List Pg} (h : ps.map Pg.pl = Xb) : ps.length = Xb.length := by rw [← h, List.length_map]
theorem fN_lt {l : List (Int × Int)} {k : Int × Int} {j : Nat} (h : fN l k 0 = some j) : j < l.length := by have := fN_some h; omega
theorem tk_open_there (h : TK w0 W gb G A c xs Xb sum) (kk : Int × Int) (t : ByteArray) {j : Nat} (hf : fN (keysX Xb) kk 0 = some j) :
    Calls Try.prog 16 #[.pointer (some ⟨gb, 0, none⟩), .int .i64 kk.1, .int .i64 kk.2, .string t] W (RetV W (.int .i64 9)) := by
  obtain ⟨S, gm, ps, A', c', h1, h2, h3, h4, h5⟩ := h.bk
  exact topen_there S gb gm sum c' j ps A' kk t W h1 (by rw [keys_of h4]; exact hf)
theorem tk_open_new (h : TK w0 W gb G A c xs Xb sum) (kk : Int × Int) (t : ByteArray) (hf : fN (keysX Xb) kk 0 = none) (hl : Xb.length ≤ 1000) :
    Calls Try.prog 16 #[.pointer (some ⟨gb, 0, none⟩), .int .i64 kk.1, .int .i64 kk.2, .string t] W fun e w' => e = .returned (.int .i64 0) ∧ TK w0 w' gb G A c xs (Xb ++ [(kk, t, [])]) sum ∧ KpO G W w' := by
  obtain ⟨S, gm, ps, A', c', h1, h2, h3, h4, h5⟩ := h.bk
  refine (topen_new S gb gm sum c' ps A' kk t W h1 (by rw [keys_of h4]; exact hf) (by rw [len_of h4]; exact hl)).mono ?_
  rintro e w' ⟨rfl, S', A2, c2, j1, k1, g1⟩
  exact ⟨rfl, ⟨⟨S', gm, _, A2, c2, j1, Off.gr h.pg h2 g1, gr_base h.ex h3 g1, by rw [List.map_append, h4]; rfl, off_gr h5 h.gl g1⟩, fun k hk => Nat.lt_of_lt_of_le (h.gl k hk) k1.size, h.pg.kps h2 k1, KpS.ext h.ex k1 h3⟩, fun k hk => k1.block k (h.gl k hk) (h5 k hk)⟩
theorem tk_give_none (h : TK w0 W gb G A c xs Xb sum) (kk : Int × Int) (v : Value) (hf : fN (keysX Xb) kk 0 = none) :
    Calls Try.prog 18 #[.pointer (some ⟨gb, 0, none⟩), .int .i64 kk.1, .int .i64 kk.2, v] W fun e w' => e = .returned (.int .i64 8) ∧ W = w' := by
  obtain ⟨S, gm, ps, A', c', h1, h2, h3, h4, h5⟩ := h.bk
  exact tgive_none S gb gm sum c' ps A' kk v W h1 (by rw [keys_of h4]; exact hf)
theorem tk_give (h : TK w0 W gb G A c xs Xb sum) (kk : Int × Int) (B : Option Addr) (bc : Nat) (ys : List UInt8) {j : Nat} (hf : fN (keysX Xb) kk 0 = some j) (hd : ∀ q ∈ Xb, q.2.2.length ≤ 1000000) (hs : sum ≤ 1000000) (hb : RdB W B ys) (hy : ys.length ≤ 1000000) :
    Calls Try.prog 18 #[.pointer (some ⟨gb, 0, none⟩), .int .i64 kk.1, .int .i64 kk.2, .slice B ys.length bc] W fun e w' => e = .returned (.int .i64 0) ∧ TK w0 w' gb G A c xs (giveX Xb j ys) (sum + ys.length) ∧ KpO G W w' := by
  obtain ⟨S, gm, ps, A', c', h1, h2, h3, h4, h5⟩ := h.bk
  have hj : j < ps.length := by have := fN_lt hf; rw [len_of h4]; simpa [keysX] using this
  refine (tgive_some S gb gm sum c' j ps A' kk B bc ys W h1 (by rw [keys_of h4]; exact hf) hj (mem_len h4 hd _ (List.getElem_mem hj)) hs hb hy).mono ?_
  rintro e w' ⟨rfl, S', q, q1, q2, q3, j1, k1, g1⟩
  exact ⟨rfl, ⟨⟨S', gm, _, A', c', j1, Off.gr h.pg h2 g1, gr_base h.ex h3 g1, by rw [give_pl hj q ys q1 q2 q3, h4], off_gr h5 h.gl g1⟩, fun k hk => Nat.lt_of_lt_of_le (h.gl k hk) k1.size, h.pg.kps h2 k1, KpS.ext h.ex k1 h3⟩, fun k hk => k1.block k (h.gl k hk) (h5 k hk)⟩
theorem tk_bytes_none (h : TK w0 W gb G A c xs Xb sum) (kk : Int × Int) (hf : fN (keysX Xb) kk 0 = none) :
    Calls Try.prog 23 #[.pointer (some ⟨gb, 0, none⟩), .int .i64 kk.1, .int .i64 kk.2] W fun e w' => e = .returned (.slice none 0 0) ∧ W = w' := by
  obtain ⟨S, gm, ps, A', c', h1, h2, h3, h4, h5⟩ := h.bk
  exact tbytes_none S gb gm sum c' ps A' kk W h1 (by rw [keys_of h4]; exact hf)
theorem tk_bytes (h : TK w0 W gb G A c xs Xb sum) (kk : Int × Int) {j : Nat} (hf : fN (keysX Xb) kk 0 = some j) (hd : ∀ q ∈ Xb, q.2.2.length ≤ 1000000) {d : List UInt8} (hq : Xb[j]?.map (·.2.2) = some d) :
    Calls Try.prog 23 #[.pointer (some ⟨gb, 0, none⟩), .int .i64 kk.1, .int .i64 kk.2] W (RetB W d) := by
  obtain ⟨S, gm, ps, A', c', h1, h2, h3, h4, h5⟩ := h.bk
  have hj : j < ps.length := by have := fN_lt hf; rw [len_of h4]; simpa [keysX] using this
  have hx : ps[j].d = d := by
    rw [← h4, List.getElem?_map, List.getElem?_eq_getElem hj] at hq
    simpa [Pg.pl] using hq
  have := tbytes_some S gb gm sum c' j ps A' kk W h1 (by rw [keys_of h4]; exact hf) hj (mem_len h4 hd _ (List.getElem_mem hj))
  rw [hx] at this
  exact this
theorem tk_pages (h : TK w0 W gb G A c xs Xb sum) (hl : Xb.length ≤ 1000) (hd : ∀ q ∈ Xb, q.2.2.length ≤ 1000000) :
    Calls Try.prog 20 #[.pointer (some ⟨gb, 0, none⟩)] W fun e w' => ∃ A' c', ∃ ys : List Pg, e = .returned (.slice A' ys.length c') ∧ ys.map Pg.pl = Xb ∧ Pgs w' W.heap.size A' c' ys ∧ Ext W w' := by
  obtain ⟨S, gm, ps, A', c', h1, h2, h3, h4, h5⟩ := h.bk
  refine (tpages_calls S gb gm sum c' ps A' W h1 (by rw [len_of h4]; exact hl) (mem_len h4 hd)).mono ?_
  rintro e w' ⟨A2, c2, ys, rfl, y1, y2, y3⟩
  exact ⟨A2, c2, ys, rfl, by rw [y1, h4], y2, y3⟩
theorem tk_sum (h : TK w0 W gb G A c xs Xb sum) : Calls Try.prog 21 #[.pointer (some ⟨gb, 0, none⟩)] W fun e w' => e = .returned (.int .u64 (sum : Int)) ∧ W = w' := by
  obtain ⟨S, gm, ps, A', c', h1, h2, h3, h4, h5⟩ := h.bk
  exact tsum_calls S gb gm sum c' ps A' W h1
theorem tk_rgive (h : TK w0 W gb G A c xs Xb sum) (a b : Int) (B : Option Addr) (bc : Nat) (ys : List UInt8) {j : Nat} (hf : fN (keysX (xs.map Pg.pl)) (a, b) 0 = some j) (hl : xs.length ≤ 1000) (hd : ∀ p ∈ xs, p.d.length ≤ 1000000) (hb : RdB W B ys) (hy : ys.length ≤ 1000000) :
    Calls Try.prog 17 #[.slice A xs.length c, .int .i64 a, .int .i64 b, .slice B ys.length bc] W fun e w' => ∃ A' c', ∃ zs : List Pg, e = .returned (.slice A' zs.length c') ∧ zs.map Pg.pl = giveX (xs.map Pg.pl) j ys ∧ TK w0 w' gb G A' c' zs Xb sum ∧ Ext W w' := by
  refine (rgive_calls w0.heap.size A c j xs a b B bc ys W h.pg (by rw [← keys_pl]; exact hf) hl hd hb hy h.ex.size).mono ?_
  rintro e w' ⟨A2, c2, zs, rfl, y1, y2, y3, y4⟩
  obtain ⟨S, gm, ps, A', c', h1, h2, h3, h4, h5⟩ := h.bk
  have hS : ∀ k, S k → k < W.heap.size := h1.lt
  refine ⟨A2, c2, zs, rfl, y1, ⟨⟨S, gm, ps, A', c', h1.ext y4, ⟨fun k e hs => ?_, fun p hp k e hs => ?_⟩, h3, h4, h5⟩, fun k hk => Nat.lt_of_lt_of_le (h.gl k hk) y4.size, ⟨y2.lower h.ex.size, fun p hp => (y3 p hp).1⟩, h.ex.trans y4⟩, y4⟩
  · have := (y2.base_ k e).1; have := hS k hs; omega
  · rcases (y3 p hp).2 with ⟨q, hq, he⟩ | ho
    · exact h2.2 q hq k (by rw [← he]; exact e) hs
    · have := (ho.base_ k e).1; have := hS k hs; omega
/-- a page without bytes is put behind the document's -/
theorem TK.app (h : TK w0 W gb G A c xs Xb sum) (g : W.grownBy W2 (blk A)) {A' : Option Addr} {c' : Nat} (kk : Int × Int) (t : ByteArray) (o : OwnV W2 w0.heap.size 29 4 A' (xs.length + 1) c' (xs.flatMap Pg.cs ++ Pg.cs ⟨kk, t, none, 0, []⟩)) (hb : blk A' = blk A ∨ blk A' = some W.heap.size) :
    TK w0 W2 gb G A' c' (xs ++ [⟨kk, t, none, 0, []⟩]) Xb sum := by
  obtain ⟨S, gm, ps, B, d, h1, h2, h3, h4, h5⟩ := h.bk
  have hS : ∀ k, S k → k < W.heap.size := h1.lt
  refine ⟨⟨S, gm, ps, B, d, h1.same (fun k hk => g.block k (hS k hk) (fun e => h2.1 k e.symm hk)) g.size, ⟨fun k e hs => ?_, fun p hp k e => ?_⟩, h3, h4, h5⟩, fun k hk => Nat.lt_of_lt_of_le (h.gl k hk) g.size, ⟨by rw [List.length_append, List.flatMap_append]; simpa using o, fun p hp => ?_⟩, h.ex.grown g (fun k hk => (h.pg.row.base_ k hk).1)⟩
  · rcases hb with hb | hb
    · exact h2.1 k (by rw [← hb]; exact e) hs
    · rw [hb] at e; injection e with e; have := hS k hs; omega
  · rcases mem_snoc hp with hp | rfl
    · exact h2.2 p hp k e
    · simp [blk] at e
  · rcases mem_snoc hp with hp | rfl
    · exact (h.pg.pg p hp).keep g (ownV_ownV (h.pg.pg p hp) h.pg.row (by decide))
    · exact OwnB.nil _ _
end tk
section xb
variable {k : Nat} {X : List XP}
theorem XB.snoc (h : XB k X) (kk : Int × Int) (t : ByteArray) (ht : t.size ≤ 100) : XB (k + 1) (X ++ [(kk, t, [])]) := by
  refine ⟨by rw [List.length_append]; have := h.1; simp; omega, fun q hq => ?_⟩
  rcases mem_snoc hq with hq | rfl
  · have := h.2 q hq; omega
  · exact ⟨Nat.zero_le _, ht⟩
theorem XB.next (h : XB k X) : XB (k + 1) X := ⟨by have := h.1; omega, fun q hq => by have := h.2 q hq; omega⟩
theorem XB.give (h : XB k X) (j : Nat) (d : List UInt8) (hd : d.length ≤ 200) : XB (k + 1) (giveX X j d) := by
  refine ⟨by rw [giveX_len]; have := h.1; omega, fun q hq => ?_⟩
  obtain ⟨i, hi, rfl⟩ := List.mem_iff_getElem.1 hq
  have hi2 : i < X.length := by rwa [giveX_len] at hi
  have hg := giveX_get X j d i
  rw [List.getElem?_eq_getElem hi, List.getElem?_eq_getElem hi2, Option.map_some] at hg
  injection hg with hg
  have hm := h.2 _ (List.getElem_mem hi2)
  rw [hg]
  split
  · simp only [List.length_append]; omega
  · omega
end xb
end Go.Proofs.Ytlgngnkaiidbeaa
