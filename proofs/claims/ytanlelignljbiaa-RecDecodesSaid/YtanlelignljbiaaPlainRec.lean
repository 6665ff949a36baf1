/- Plain laws of records: what is decoded out of a record's bytes. -/
import Derived.Test.YtanlelignljbiaaDec3
import Derived.Test.YtanlelignljbiaaRefB
set_option maxRecDepth 100000
namespace Go.Proofs.Ytanlelignljbiaa
open Go.RowKit

theorem encB_eq (seq kn : Nat) (ten : ByteArray) (lease n bits : Nat) : encB seq kn ten lease n bits = bytesP seq kn ten lease n bits := by
  unfold encB bytesP fieldsP
  have e8 : ∀ bs m, putW bs 8 m = bs ++ leB 8 m := fun _ _ => rfl
  have e1 : ∀ bs m, putW bs 1 m = bs ++ leB 1 m := fun _ _ => rfl
  simp only [e8, e1, List.nil_append, List.append_assoc]

set_option maxHeartbeats 1000000 in
theorem encode_err (seq : Nat) (kn : Int) (ten : ByteArray) (lease n bits : Nat) (w : World) (hE : recE seq kn ten lease n bits ≠ 0) (hb : bits < 18446744073709551616) :
    Calls Try.prog 15 #[recA seq kn ten lease n bits] w (RetV w (.tuple #[.slice none 0 0, .int .i64 (recE seq kn ten lease n bits)])) := by
  have HC : Hid (∀ W, Calls Try.prog 12 #[.agg #[.int .u64 seq, .int .i64 kn, .string ten, .int .u64 lease, .int .u64 n, .int .u64 bits]] W (RetV W (.int .i64 (recE seq kn ten lease n bits)))) := fun W => check_calls seq kn ten lease n bits W hb
  have b1 : (recE seq kn ten lease n bits != 0) = true := by simpa using hE
  clear hE
  unfold recA
  generalize recE seq kn ten lease n bits = ee at *
  go_enter Try.func15, Try.ntmps15
  go_wp2_with (first | ((with_reducible show wpList _ _ _ ({ dst := some 1, op := Op.box 24 _, type := _, pos := _, after := _, guard := _ } :: _) _ _); refine bxA _ rfl 24 _ rfl _ rfl ?_; intro g w1 hg hs1 h1 e1; have E1 := Lib.hid e1; have d0 := h1.cell 0; have d1 := h1.cell 1; have d2 := h1.cell 2; have d3 := h1.cell 3; have d4 := h1.cell 4; have d5 := h1.cell 5; simp at d0 d1 d2 d3 d4 d5; clear h1 e1 hs1 hg))
  refine (HC.out _).mono ?_
  rintro e w2 ⟨rfl, e2⟩
  have E2 := Lib.hid (E1.out.trans e2)
  clear e2 d0 d1 d2 d3 d4 d5
  go_wp2_with fail
  go_ret2
  exact ⟨rfl, E2.out⟩

/-- a number that stands at the cursor -/
theorem num_at (a b : List UInt8) (width m : Nat) (hw : okW width = true) (hm : m < 256 ^ width) : numC (a ++ leB width m ++ b) a.length 0 width = (m, a.length + width, 0) := by
  have ht : takeC (a ++ leB width m ++ b) a.length 0 width = (leB width m, a.length + width, 0) := by
    unfold takeC
    rw [if_neg (by simp), if_neg (by simp [leB_length]), List.append_assoc, List.drop_left, List.take_left' (by rw [leB_length])]
  unfold numC
  rw [if_pos hw, Int.toNat_natCast, ht, leN_leB, Nat.mod_eq_of_lt hm]
theorem text_at (a b : List UInt8) (ten : ByteArray) (h : ten.size ≤ 16) : textC (a ++ (leB 1 ten.size ++ ten.data.toList) ++ b) a.length 0 1 16 = (ten.data.toList, a.length + 1 + ten.size, 0) := by
  have hn : numC (a ++ (leB 1 ten.size ++ ten.data.toList) ++ b) a.length 0 1 = (ten.size, a.length + 1, 0) := by
    have := num_at a (ten.data.toList ++ b) 1 ten.size rfl (by omega)
    rw [show a ++ (leB 1 ten.size ++ ten.data.toList) ++ b = a ++ leB 1 ten.size ++ (ten.data.toList ++ b) from by simp [List.append_assoc]]
    exact this
  have hl : ten.data.toList.length = ten.size := rfl
  have ht : takeC (a ++ (leB 1 ten.size ++ ten.data.toList) ++ b) (a.length + 1) 0 ten.size = (ten.data.toList, a.length + 1 + ten.size, 0) := by
    unfold takeC
    rw [if_neg (by simp), if_neg (by simp [leB_length, hl]; omega)]
    rw [show a ++ (leB 1 ten.size ++ ten.data.toList) ++ b = (a ++ leB 1 ten.size) ++ (ten.data.toList ++ b) from by simp [List.append_assoc], show a.length + 1 = (a ++ leB 1 ten.size).length from by rw [List.length_append, leB_length], List.drop_left, List.take_left' hl]
  unfold textC
  rw [hn]
  simp only
  rw [if_neg (by simp), if_neg (by omega), ht]
/-- the fields' bytes -/
def fldB (k : Int) (lease n bits : Nat) : List UInt8 := (if hasL k = true then leB 8 lease else []) ++ ((if hasN k = true then leB 8 n else []) ++ (if hasB k = true then leB 8 bits else []))
theorem bytesP_eq (seq kn : Nat) (ten : ByteArray) (lease n bits : Nat) : bytesP seq kn ten lease n bits = leB 1 kn ++ leB 8 seq ++ (leB 1 ten.size ++ ten.data.toList) ++ fldB kn lease n bits := by
  unfold bytesP fldB
  rcases has_triples (kn : Int) with ⟨e1, e2, e3⟩ | ⟨e1, e2, e3⟩ | ⟨e1, e2, e3⟩ | ⟨e1, e2, e3⟩ <;> simp [e1, e2, e3]
theorem num8_at (a b : List UInt8) (m : Nat) (hm : m < 18446744073709551616) : numC (a ++ leB 8 m ++ b) a.length 0 8 = (m, a.length + 8, 0) := num_at a b 8 m rfl (by simpa using hm)
theorem num8_end (a : List UInt8) (m : Nat) (hm : m < 18446744073709551616) : numC (a ++ leB 8 m) a.length 0 8 = (m, a.length + 8, 0) := by
  have := num8_at a [] m hm
  rwa [List.append_nil] at this
theorem each_at (a : List UInt8) (kd : Int) (lease n bits : Nat) (hl : lease < 18446744073709551616) (hn : n < 18446744073709551616) (hb : bits < 18446744073709551616) (f1 : hasL kd = false → lease = 0) (f2 : hasN kd = false → n = 0) (f3 : hasB kd = false → bits = 0) :
    eachC (a ++ fldB kd lease n bits) kd 0 0 0 a.length 0 = ((lease, n, bits), (a ++ fldB kd lease n bits).length, 0) := by
  rcases has_triples kd with ⟨e1, e2, e3⟩ | ⟨e1, e2, e3⟩ | ⟨e1, e2, e3⟩ | ⟨e1, e2, e3⟩
  · obtain rfl := f1 e1
    obtain rfl := f3 e3
    simp [eachC, fieldC, fldB, e1, e2, e3, num8_end a n hn, leB_length]
  · obtain rfl := f1 e1
    obtain rfl := f2 e2
    simp [eachC, fieldC, fldB, e1, e2, e3, num8_end a bits hb, leB_length]
  · obtain rfl := f3 e3
    have h1 := num8_at a (leB 8 n) lease hl
    have h2 := num8_end (a ++ leB 8 lease) n hn
    rw [List.length_append, leB_length] at h2
    rw [List.append_assoc] at h1 h2
    simp [eachC, fieldC, fldB, e1, e2, e3, h1, h2, leB_length]
  · obtain rfl := f1 e1
    obtain rfl := f2 e2
    obtain rfl := f3 e3
    simp [eachC, fieldC, fldB, e1, e2, e3]
theorem recE_zero {seq : Nat} {k : Int} {ten : ByteArray} {lease n bits : Nat} (h : recE seq k ten lease n bits = 0) : knownB k = true ∧ tenantB ten.data.toList = true ∧ (hasL k = false → lease = 0) ∧ (hasN k = false → n = 0) ∧ (hasB k = false → bits = 0) := by
  unfold recE at h
  by_cases h1 : knownB k = false
  · rw [if_pos h1] at h; omega
  rw [if_neg h1] at h
  by_cases h2 : tenantB ten.data.toList = false
  · rw [if_pos h2] at h; omega
  rw [if_neg h2] at h
  split at h
  · omega
  split at h
  · omega
  split at h
  · omega
  rename_i _ _ h5
  refine ⟨by simpa using h1, by simpa using h2, fun q => ?_, fun q => ?_, fun q => ?_⟩
  · exact Classical.byContradiction fun e => h5 (.inl ⟨q, e⟩)
  · exact Classical.byContradiction fun e => h5 (.inr (.inl ⟨q, e⟩))
  · exact Classical.byContradiction fun e => h5 (.inr (.inr ⟨q, e⟩))

theorem read_bytes (seq kn : Nat) (ten : ByteArray) (lease n bits : Nat) (hE : recE seq kn ten lease n bits = 0) (hs : seq < 18446744073709551616) (hk : kn ≤ 5) (ht : ten.size ≤ 16) (hl : lease < 18446744073709551616) (hn : n < 18446744073709551616) (hb : bits < 18446744073709551616) :
    numC (bytesP seq kn ten lease n bits) 0 0 1 = (kn, 1, 0) ∧ readC (bytesP seq kn ten lease n bits) = ((kn, seq, ten.data.toList, (lease, n, bits)), (bytesP seq kn ten lease n bits).length, 0) := by
  obtain ⟨_, _, f1, f2, f3⟩ := recE_zero hE
  rw [bytesP_eq]
  have a1 : numC (leB 1 kn ++ leB 8 seq ++ (leB 1 ten.size ++ ten.data.toList) ++ fldB kn lease n bits) 0 0 1 = (kn, 1, 0) := by
    have := num_at [] (leB 8 seq ++ (leB 1 ten.size ++ ten.data.toList) ++ fldB kn lease n bits) 1 kn rfl (by omega)
    simpa [List.append_assoc] using this
  have a2 : numC (leB 1 kn ++ leB 8 seq ++ (leB 1 ten.size ++ ten.data.toList) ++ fldB kn lease n bits) 1 0 8 = (seq, 9, 0) := by
    have := num8_at (leB 1 kn) ((leB 1 ten.size ++ ten.data.toList) ++ fldB kn lease n bits) seq hs
    rw [leB_length] at this
    simpa [List.append_assoc] using this
  have a3 : textC (leB 1 kn ++ leB 8 seq ++ (leB 1 ten.size ++ ten.data.toList) ++ fldB kn lease n bits) 9 0 1 16 = (ten.data.toList, 10 + ten.size, 0) := by
    have := text_at (leB 1 kn ++ leB 8 seq) (fldB kn lease n bits) ten ht
    rw [List.length_append, leB_length, leB_length] at this
    exact this
  have a4 := each_at (leB 1 kn ++ leB 8 seq ++ (leB 1 ten.size ++ ten.data.toList)) kn lease n bits hl hn hb f1 f2 f3
  rw [show (leB 1 kn ++ leB 8 seq ++ (leB 1 ten.size ++ ten.data.toList)).length = 10 + ten.size from by simp [leB_length]; omega] at a4
  refine ⟨a1, ?_⟩
  unfold readC
  simp only [a1, a2, a3, a4]
theorem dec_bytes (seq kn : Nat) (ten : ByteArray) (lease n bits : Nat) (hE : recE seq kn ten lease n bits = 0) (hs : seq < 18446744073709551616) (hk : kn ≤ 5) (ht : ten.size ≤ 16) (hl : lease < 18446744073709551616) (hn : n < 18446744073709551616) (hb : bits < 18446744073709551616) :
    decR (bytesP seq kn ten lease n bits) = (recV seq kn ten lease n bits, 0) := by
  obtain ⟨h1, h2⟩ := read_bytes seq kn ten lease n bits hE hs hk ht hl hn hb
  have hkn := (recE_zero hE).1
  have hten : (⟨ten.data.toList.toArray⟩ : ByteArray) = ten := rfl
  unfold decR
  simp only [h1, h2]
  rw [if_neg (by rw [hkn]; simp), hten, if_neg (by simp [doneC]), if_neg (by simpa using hE)]
end Go.Proofs.Ytanlelignljbiaa
