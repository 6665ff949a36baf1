/- SHA-256 on plain lists of numbers. -/
set_option linter.unusedVariables false
set_option linter.unusedSimpArgs false
namespace Go.Proofs.YtlgngnkaiidbeaaDoor.Sha
def K : List Nat := [1116352408, 1899447441, 3049323471, 3921009573, 961987163, 1508970993, 2453635748, 2870763221, 3624381080, 310598401, 607225278, 1426881987, 1925078388, 2162078206, 2614888103, 3248222580, 3835390401, 4022224774, 264347078, 604807628, 770255983, 1249150122, 1555081692, 1996064986, 2554220882, 2821834349, 2952996808, 3210313671, 3336571891, 3584528711, 113926993, 338241895, 666307205, 773529912, 1294757372, 1396182291, 1695183700, 1986661051, 2177026350, 2456956037, 2730485921, 2820302411, 3259730800, 3345764771, 3516065817, 3600352804, 4094571909, 275423344, 430227734, 506948616, 659060556, 883997877, 958139571, 1322822218, 1537002063, 1747873779, 1955562222, 2024104815, 2227730452, 2361852424, 2428436474, 2756734187, 3204031479, 3329325298]
def start : List Nat := [0x6a09e667, 0xbb67ae85, 0x3c6ef372, 0xa54ff53a, 0x510e527f, 0x9b05688c, 0x1f83d9ab, 0x5be0cd19]
def rotr (n x : Nat) : Nat := (x / 2 ^ n) ||| (x * 2 ^ (32 - n) % 4294967296)
def s0 (x : Nat) : Nat := (rotr 7 x ^^^ rotr 18 x) ^^^ (x / 8)
def s1 (y : Nat) : Nat := (rotr 17 y ^^^ rotr 19 y) ^^^ (y / 1024)
def S0 (a : Nat) : Nat := (rotr 2 a ^^^ rotr 13 a) ^^^ rotr 22 a
def S1 (e : Nat) : Nat := (rotr 6 e ^^^ rotr 11 e) ^^^ rotr 25 e
def ch (e f g : Nat) : Nat := (e &&& f) ^^^ ((4294967295 - e) &&& g)
def maj (a b c : Nat) : Nat := ((a &&& b) ^^^ (a &&& c)) ^^^ (b &&& c)
def at_ (l : List Nat) (i : Nat) : Nat := l[i]?.getD 0
def word (b : List UInt8) (i : Nat) : Nat := (b[4*i]?.getD 0).toNat * 16777216 + (b[4*i+1]?.getD 0).toNat * 65536 + (b[4*i+2]?.getD 0).toNat * 256 + (b[4*i+3]?.getD 0).toNat
def nextW (b : List UInt8) (l : List Nat) (n : Nat) : Nat := if n < 16 then word b n else (at_ l (n-16) + s0 (at_ l (n-15)) + at_ l (n-7) + s1 (at_ l (n-2))) % 4294967296
def ws (b : List UInt8) : Nat → List Nat
  | 0 => []
  | n + 1 => ws b n ++ [nextW b (ws b n) n]
def tOf (v : List Nat) (k w : Nat) : Nat := at_ v 7 + S1 (at_ v 4) + ch (at_ v 4) (at_ v 5) (at_ v 6) + k + w
def uOf (v : List Nat) : Nat := S0 (at_ v 0) + maj (at_ v 0) (at_ v 1) (at_ v 2)
def rnd (v : List Nat) (k w : Nat) : List Nat := [(tOf v k w + uOf v) % 4294967296, at_ v 0, at_ v 1, at_ v 2, (at_ v 3 + tOf v k w) % 4294967296, at_ v 4, at_ v 5, at_ v 6]
def rounds (s W : List Nat) : Nat → List Nat
  | 0 => s
  | n + 1 => rnd (rounds s W n) (at_ K n) (at_ W n)
def addS (s v : List Nat) : List Nat := List.zipWith (fun a b => (a + b) % 4294967296) s v
def block (s : List Nat) (b : List UInt8) : List Nat := addS s (rounds s (ws b 64) 64)

/-! fast -/
def force {α : Type} (n : Nat) (k : Nat → α) : α := match n with | 0 => k 0 | m + 1 => k (m + 1)
theorem force_eq {α : Type} (n : Nat) (k : Nat → α) : force n k = k n := by cases n <;> rfl

def frnd (k w : Nat) (C : Nat → Nat → Nat → Nat → Nat → Nat → Nat → Nat → List Nat) (a b c d e f g h : Nat) : List Nat :=
  force (h + S1 e + ch e f g + k + w) fun t => force ((t + (S0 a + maj a b c)) % 4294967296) fun x => force ((d + t) % 4294967296) fun y => C x a b c y e f g
def frounds : List Nat → List Nat → Nat → Nat → Nat → Nat → Nat → Nat → Nat → Nat → List Nat
  | k :: ks, w :: l => frnd k w (frounds ks l)
  | _, _ => fun a b c d e f g h => [a, b, c, d, e, f, g, h]
-- schedule: reversed window
def fws : Nat → List Nat → List Nat   -- l: the words so far, reversed
  | 0, l => l.reverse
  | n + 1, l => force ((at_ l 15 + s0 (at_ l 14) + at_ l 6 + s1 (at_ l 1)) % 4294967296) fun x => fws n (x :: l)
def words16 (b : List UInt8) : Nat → List Nat → List Nat
  | 0, l => l
  | n + 1, l => force (word b (15 - n)) fun x => words16 b n (x :: l)
def fblock (s : List Nat) (b : List UInt8) : List Nat :=
  addS s (frounds K (fws 48 (words16 b 16 [])) (at_ s 0) (at_ s 1) (at_ s 2) (at_ s 3) (at_ s 4) (at_ s 5) (at_ s 6) (at_ s 7))

theorem rotr_lt (n x : Nat) (h : x < 4294967296) : rotr n x < 4294967296 := by
  unfold rotr
  refine Nat.or_lt_two_pow (n := 32) (Nat.lt_of_le_of_lt (Nat.div_le_self _ _) h) (Nat.mod_lt _ (by decide))
theorem ws_length (b : List UInt8) (n : Nat) : (ws b n).length = n := by
  induction n with
  | zero => rfl
  | succ n ih => rw [ws, List.length_append, ih]; rfl
theorem ws_take (b : List UInt8) (n m : Nat) (h : n ≤ m) : (ws b m).take n = ws b n := by
  induction m with
  | zero => obtain rfl : n = 0 := by omega
            rfl
  | succ m ih =>
    by_cases e : n = m + 1
    · subst e; rw [List.take_of_length_le (by rw [ws_length]; omega)]
    · rw [ws, List.take_append_of_le_length (by rw [ws_length]; omega), ih (by omega)]
theorem rnd_length (v : List Nat) (k w : Nat) : (rnd v k w).length = 8 := rfl
theorem rounds_length (s W : List Nat) (n : Nat) (h : s.length = 8) : (rounds s W n).length = 8 := by
  cases n with
  | zero => exact h
  | succ n => rfl
theorem addS_length (s v : List Nat) (h : s.length = 8) (k : v.length = 8) : (addS s v).length = 8 := by simp [addS, h, k]
theorem block_length (s : List Nat) (b : List UInt8) (h : s.length = 8) : (block s b).length = 8 := addS_length _ _ h (rounds_length _ _ _ h)
theorem at_lt {l : List Nat} (h : ∀ x ∈ l, x < 4294967296) (i : Nat) : at_ l i < 4294967296 := by
  unfold at_
  by_cases hi : i < l.length
  · rw [List.getElem?_eq_getElem hi]; exact h _ (List.getElem_mem hi)
  · rw [List.getElem?_eq_none (by omega)]; decide
theorem word_lt (b : List UInt8) (i : Nat) : word b i < 4294967296 := by
  unfold word
  have h1 := (b[4*i]?.getD 0).toNat_lt
  have h2 := (b[4*i+1]?.getD 0).toNat_lt
  have h3 := (b[4*i+2]?.getD 0).toNat_lt
  have h4 := (b[4*i+3]?.getD 0).toNat_lt
  omega
theorem nextW_lt (b : List UInt8) (l : List Nat) (n : Nat) : nextW b l n < 4294967296 := by
  unfold nextW; split
  · exact word_lt b n
  · exact Nat.mod_lt _ (by decide)
theorem ws_lt (b : List UInt8) (n : Nat) : ∀ x ∈ ws b n, x < 4294967296 := by
  induction n with
  | zero => simp [ws]
  | succ n ih =>
    intro x hx
    rw [ws, List.mem_append] at hx
    rcases hx with hx | hx
    · exact ih x hx
    · simp at hx; subst hx; exact nextW_lt _ _ _
theorem rnd_lt {v : List Nat} (h : ∀ x ∈ v, x < 4294967296) (k w : Nat) : ∀ x ∈ rnd v k w, x < 4294967296 := by
  intro x hx
  simp only [rnd, List.mem_cons, List.not_mem_nil, or_false] at hx
  rcases hx with h1 | h1 | h1 | h1 | h1 | h1 | h1 | h1 <;> subst h1
  · exact Nat.mod_lt _ (by decide)
  · exact at_lt h _
  · exact at_lt h _
  · exact at_lt h _
  · exact Nat.mod_lt _ (by decide)
  · exact at_lt h _
  · exact at_lt h _
  · exact at_lt h _
theorem rounds_lt {s : List Nat} (h : ∀ x ∈ s, x < 4294967296) (W : List Nat) (n : Nat) : ∀ x ∈ rounds s W n, x < 4294967296 := by
  induction n with
  | zero => exact h
  | succ n ih => exact rnd_lt ih _ _
theorem addS_lt (s v : List Nat) : ∀ x ∈ addS s v, x < 4294967296 := by
  intro x hx
  unfold addS at hx
  obtain ⟨i, hi, rfl⟩ := List.getElem_of_mem hx
  rw [List.getElem_zipWith]
  exact Nat.mod_lt _ (by decide)
theorem block_lt (s : List Nat) (b : List UInt8) : ∀ x ∈ block s b, x < 4294967296 := addS_lt _ _
theorem start_lt : ∀ x ∈ start, x < 4294967296 := by decide

/-! the quick way is the plain one -/
def app8 (C : Nat → Nat → Nat → Nat → Nat → Nat → Nat → Nat → List Nat) (v : List Nat) : List Nat := C (at_ v 0) (at_ v 1) (at_ v 2) (at_ v 3) (at_ v 4) (at_ v 5) (at_ v 6) (at_ v 7)
theorem list8 (v : List Nat) (h : v.length = 8) : [at_ v 0, at_ v 1, at_ v 2, at_ v 3, at_ v 4, at_ v 5, at_ v 6, at_ v 7] = v := by
  match v, h with
  | [a, b, c, d, e, f, g, i], _ => rfl
theorem at_drop (l : List Nat) (n : Nat) (h : n < l.length) : l.drop n = at_ l n :: l.drop (n + 1) := by
  rw [List.drop_eq_getElem_cons h]
  simp [at_, List.getElem?_eq_getElem h]
theorem frounds_eq (s W : List Nat) (hs : s.length = 8) (hW : W.length = 64) (m : Nat) : ∀ n, n + m = 64 → app8 (frounds (K.drop n) (W.drop n)) (rounds s W n) = rounds s W 64 := by
  induction m with
  | zero =>
    intro n hn
    obtain rfl : n = 64 := by omega
    rw [List.drop_of_length_le (show K.length ≤ 64 by decide), List.drop_of_length_le (show W.length ≤ 64 by omega)]
    exact list8 _ (rounds_length _ _ _ hs)
  | succ m ih =>
    intro n hn
    rw [at_drop K n (by show n < 64; omega), at_drop W n (by omega), ← ih (n + 1) (by omega)]
    simp only [frounds, app8, frnd, force_eq]
    rfl
theorem at_rev (l : List Nat) (i : Nat) (h : i < l.length) : at_ l.reverse i = at_ l (l.length - 1 - i) := by
  unfold at_
  rw [List.getElem?_reverse h]
theorem fws_eq (b : List UInt8) (m : Nat) : ∀ n, 16 ≤ n → fws m (ws b n).reverse = ws b (n + m) := by
  induction m with
  | zero => intro n _; simp [fws]
  | succ m ih =>
    intro n hn
    have hl := ws_length b n
    rw [fws, force_eq, at_rev _ _ (by omega), at_rev _ _ (by omega), at_rev _ _ (by omega), at_rev _ _ (by omega), hl]
    have e : ws b (n + 1) = ws b n ++ [nextW b (ws b n) n] := rfl
    have e2 : nextW b (ws b n) n = (at_ (ws b n) (n - 16) + s0 (at_ (ws b n) (n - 15)) + at_ (ws b n) (n - 7) + s1 (at_ (ws b n) (n - 2))) % 4294967296 := by
      rw [nextW, if_neg (by omega)]
    rw [show n - 1 - 15 = n - 16 from by omega, show n - 1 - 14 = n - 15 from by omega, show n - 1 - 6 = n - 7 from by omega, show n - 1 - 1 = n - 2 from by omega, ← e2]
    have := ih (n + 1) (by omega)
    rw [e, List.reverse_append] at this
    rw [show n + (m + 1) = n + 1 + m from by omega, ← this]
    rfl
theorem words16_eq (b : List UInt8) (m : Nat) : ∀ n, n + m = 16 → words16 b m (ws b n).reverse = (ws b 16).reverse := by
  induction m with
  | zero => intro n hn; obtain rfl : n = 16 := by omega
            rfl
  | succ m ih =>
    intro n hn
    rw [words16, force_eq, ← ih (n + 1) (by omega), ws, List.reverse_append, nextW, if_pos (by omega), show 15 - m = n from by omega]
    rfl
theorem fblock_eq (s : List Nat) (b : List UInt8) (hs : s.length = 8) : block s b = fblock s b := by
  unfold block fblock
  have h1 := words16_eq b 16 0 rfl
  have h2 := fws_eq b 48 16 (by omega)
  have h3 := frounds_eq s (ws b 64) hs (ws_length b 64) 64 0 rfl
  have h4 : words16 b 16 [] = (ws b 16).reverse := h1
  rw [h4, h2, ← h3]
  simp only [List.drop_zero, rounds, app8]

/-! padding, the digest -/
def beB (n : Nat) : List UInt8 := [UInt8.ofNat (n / 16777216), UInt8.ofNat (n / 65536 % 256), UInt8.ofNat (n / 256 % 256), UInt8.ofNat (n % 256)]
def be8 : Nat → Nat → List UInt8
  | 0, _ => []
  | k + 1, n => be8 k (n / 256) ++ [UInt8.ofNat (n % 256)]
/-- how many zeros stand behind the first byte of a pad -/
def zeros (n : Nat) : Nat := (119 - n % 64) % 64
def pad (n : Nat) : List UInt8 := 128 :: List.replicate (zeros n) 0 ++ be8 8 (n * 8)
def blocks (s : List Nat) : Nat → List UInt8 → List Nat
  | 0, _ => s
  | k + 1, b => blocks (block s (b.take 64)) k (b.drop 64)
def out (s : List Nat) : List UInt8 := s.flatMap beB
def sum (b : List UInt8) : List UInt8 := out (blocks start ((b ++ pad b.length).length / 64) (b ++ pad b.length))
theorem be8_length (k n : Nat) : (be8 k n).length = k := by
  induction k generalizing n with
  | zero => rfl
  | succ k ih => rw [be8, List.length_append, ih]; rfl
theorem pad_length (n : Nat) : (pad n).length = 9 + zeros n := by simp [pad, be8_length]; omega
theorem pad_whole (n : Nat) : (n + (pad n).length) % 64 = 0 := by rw [pad_length, zeros]; omega
theorem beB_length (n : Nat) : (beB n).length = 4 := rfl
theorem out_length (s : List Nat) : (out s).length = 4 * s.length := by
  induction s with
  | nil => rfl
  | cons a l ih => simp only [out, List.flatMap_cons, List.length_append, List.length_cons, beB_length] at *; omega
theorem blocks_length (s : List Nat) (k : Nat) (b : List UInt8) (h : s.length = 8) : (blocks s k b).length = 8 := by
  induction k generalizing s b with
  | zero => exact h
  | succ k ih => exact ih _ _ (block_length _ _ h)
theorem blocks_lt (s : List Nat) (k : Nat) (b : List UInt8) (h : ∀ x ∈ s, x < 4294967296) : ∀ x ∈ blocks s k b, x < 4294967296 := by
  induction k generalizing s b with
  | zero => exact h
  | succ k ih => exact ih _ _ (block_lt _ _)
theorem sum_length (b : List UInt8) : (sum b).length = 32 := by rw [sum, out_length, blocks_length _ _ _ rfl]
/-- one block more, at the end -/
theorem blocks_snoc (s : List Nat) (k : Nat) (b : List UInt8) : blocks s (k + 1) b = block (blocks s k b) ((b.drop (64 * k)).take 64) := by
  induction k generalizing s b with
  | zero => rfl
  | succ k ih =>
    rw [blocks, ih, blocks, List.drop_drop]
    rw [show 64 + 64 * k = 64 * (k + 1) from by omega]
theorem blocks_append (s : List Nat) (k m : Nat) (a b : List UInt8) (h : a.length = 64 * k) : blocks s (k + m) (a ++ b) = blocks (blocks s k a) m b := by
  induction k generalizing s a with
  | zero => obtain rfl : a = [] := List.length_eq_zero_iff.1 (by omega)
            simp [blocks]
  | succ k ih =>
    rw [show k + 1 + m = (k + m) + 1 from by omega, blocks, blocks, List.take_append_of_le_length (by omega), List.drop_append_of_le_length (by omega)]
    exact ih _ _ (by rw [List.length_drop]; omega)
/-- only whole blocks count -/
theorem blocks_take (s : List Nat) (k : Nat) (b : List UInt8) (m : Nat) (h : 64 * k ≤ m) : blocks s k (b.take m) = blocks s k b := by
  induction k generalizing s b m with
  | zero => rfl
  | succ k ih => rw [blocks, blocks, List.take_take, Nat.min_eq_left (by omega), List.drop_take, ih _ _ _ (by omega)]

/-! the quick digest -/
def fblocks (s : List Nat) : Nat → List UInt8 → List Nat
  | 0, _ => s
  | k + 1, b => fblocks (fblock s (b.take 64)) k (b.drop 64)
theorem fblocks_eq (s : List Nat) (k : Nat) (b : List UInt8) (h : s.length = 8) : blocks s k b = fblocks s k b := by
  induction k generalizing s b with
  | zero => rfl
  | succ k ih => rw [blocks, fblocks, ih _ _ (block_length _ _ h), fblock_eq _ _ h]
def fsum (b : List UInt8) : List UInt8 := out (fblocks start ((b ++ pad b.length).length / 64) (b ++ pad b.length))
theorem fsum_eq (b : List UInt8) : sum b = fsum b := by unfold sum fsum; rw [fblocks_eq _ _ _ rfl]
set_option maxRecDepth 100000 in
theorem sum_abc : sum [97, 98, 99] = [0xba, 0x78, 0x16, 0xbf, 0x8f, 0x01, 0xcf, 0xea, 0x41, 0x41, 0x40, 0xde, 0x5d, 0xae, 0x22, 0x23, 0xb0, 0x03, 0x61, 0xa3, 0x96, 0x17, 0x7a, 0x9c, 0xb4, 0x10, 0xff, 0x61, 0xf2, 0x00, 0x15, 0xad] := by
  rw [fsum_eq]; decide +kernel
end Go.Proofs.YtlgngnkaiidbeaaDoor.Sha
