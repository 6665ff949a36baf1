/- Plain facts on bytes and numbers: nothing of the program. Contracts of taximeterref01. Contracts of package octet (Put, Fits) and of ref01.Fits. append of a string's bytes onto a row of the call's own. Plain facts on the sum (CRC-32C): nothing of the program. Contracts of package crc and of ref02.Sum. Contracts of ref02.Seal, ref12.Box, box.Put, box.Size, law12.awake; the walk of BoxPuts. Contracts of octet's Cursor. Contracts of octet's Cursor: Bytes, Text, Left, Err, Done; a cursor that is nil. Plain facts on the sum: it is linear, and no change of up to four bytes in a row is passed over. Nothing of the program. The contract of crc.Open. Contracts of octet's Cursor, which name where its bytes lie (made of Cursor and Cursor2 by a program). -/
import Derived.Test.YtkbjnlbbfapgdaaDoorMem
import Derived.Lib.AppendStr
import Derived.Laws.BitsAll
import Derived.Lib.SlBytesConst
import Derived.Laws.IdiomStrings
import Derived.Laws.BytesArg
import Derived.Deep.RegionWith
set_option linter.unusedVariables false
set_option linter.unusedSimpArgs false
set_option maxRecDepth 100000
namespace Go.Proofs.YtkbjnlbbfapgdaaDoor

/-- n, the lowest byte first, k bytes -/
def leB : Nat → Nat → List UInt8
  | 0, _ => []
  | k + 1, n => UInt8.ofNat n :: leB k (n / 256)
/-- the number of bytes, the lowest first -/
def leN : List UInt8 → Nat
  | [] => 0
  | b :: l => b.toNat + 256 * leN l

theorem leB_length (k n : Nat) : (leB k n).length = k := by
  induction k generalizing n with
  | zero => rfl
  | succ k ih => simp [leB, ih]
theorem leB_snoc (k n : Nat) : leB (k + 1) n = leB k n ++ [UInt8.ofNat (n / 256 ^ k)] := by
  induction k generalizing n with
  | zero => simp [leB]
  | succ k ih =>
    rw [leB, ih, leB, Nat.div_div_eq_div_mul, Nat.pow_succ, Nat.mul_comm 256]
    rfl
theorem leN_leB (k n : Nat) : leN (leB k n) = n % 256 ^ k := by
  induction k generalizing n with
  | zero => simp [leB, leN, Nat.mod_one]
  | succ k ih =>
    have e : n % 256 ^ (k + 1) = n % 256 + 256 * (n / 256 % 256 ^ k) := by rw [Nat.pow_succ, Nat.mul_comm (256 ^ k), Nat.mod_mul]
    rw [leB, leN, ih, UInt8.toNat_ofNat', e]
theorem leN_lt (l : List UInt8) : leN l < 256 ^ l.length := by
  induction l with
  | nil => simp [leN]
  | cons b l ih =>
    have := b.toNat_lt
    rw [leN, List.length_cons, Nat.pow_succ]
    omega
theorem leN_append (a b : List UInt8) : leN (a ++ b) = leN a + 256 ^ a.length * leN b := by
  induction a with
  | nil => simp [leN]
  | cons x l ih => rw [List.cons_append, leN, leN, ih, List.length_cons, Nat.pow_succ, Nat.mul_add, Nat.mul_comm (256 ^ l.length) 256, Nat.mul_assoc]; omega
theorem leB_leN (l : List UInt8) : leB l.length (leN l) = l := by
  induction l with
  | nil => rfl
  | cons b l ih =>
    have := b.toNat_lt
    rw [List.length_cons, leB, leN]
    congr 1
    · apply UInt8.toNat.inj
      rw [UInt8.toNat_ofNat']; omega
    · rw [show (b.toNat + 256 * leN l) / 256 = leN l from by omega, ih]
theorem leN_drop (l : List UInt8) (i : Nat) (h : i < l.length) : leN (l.drop i) = l[i].toNat + 256 * leN (l.drop (i + 1)) := by
  rw [List.drop_eq_getElem_cons h, leN]
theorem leB_inj {k n m : Nat} (hn : n < 256 ^ k) (hm : m < 256 ^ k) (h : leB k n = leB k m) : n = m := by
  have := congrArg leN h
  rwa [leN_leB, leN_leB, Nat.mod_eq_of_lt hn, Nat.mod_eq_of_lt hm] at this

/-- the widths -/
def okW (w : Int) : Bool := w == 1 || w == 2 || w == 4 || w == 8
theorem okW_iff (w : Int) : okW w = true ↔ w = 1 ∨ w = 2 ∨ w = 4 ∨ w = 8 := by simp [okW, or_assoc]
/-- a number fits a width -/
def fitsW (w : Int) (n : Nat) : Bool := okW w && decide (n < 256 ^ w.toNat)
end Go.Proofs.YtkbjnlbbfapgdaaDoor

namespace Go.Proofs.YtkbjnlbbfapgdaaDoor
open Go.RowKit

theorem ret_int {k : IntKind} {a b : Int} (h : a = b) : Ending.returned (.int k a) = .returned (.int k b) := by rw [h]

set_option maxHeartbeats 400000 in
theorem same_calls (A B : Option Addr) (c d : Nat) (xs ys : List UInt8) (w : World) (ha : RdB w A xs) (hb : RdB w B ys)
   (hx : xs.length ≤ 1000000) (_hy : ys.length ≤ 1000000) :
   Calls Tryd.prog 27 #[.slice A xs.length c, .slice B ys.length d] w fun e w' => e = .returned (.bool (decide (xs = ys))) ∧ ∃ n, w' = w.drewN n := by
  by_cases hl : xs.length = ys.length
  · have HL := Lib.hid hl
    have h0 : ((xs.length : Int) != (ys.length : Int)) = false := by simp [hl]
    clear hl
    have Ha := Lib.hid ha
    have Hb := Lib.hid hb
    clear ha hb
    go_enter Tryd.func27, Tryd.ntmps27
    go_wp2
    go_loopw [5] (fun i wr => ∃ k n : Nat, k ≤ xs.length ∧ i = .int .i64 k ∧ wr = w.drewN n ∧ xs.take k = ys.take k) (fun i _ => xs.length - (intOf i).toNat)
    case atStart => exact ⟨0, 0, by omega, rfl, rfl, by simp⟩
    case round =>
      obtain ⟨k, n, hk, rfl, rfl, ht⟩ := hrel
      have Ht := Lib.hid ht
      clear ht
      by_cases hlt : k < xs.length
      · have hlt' : k < ys.length := by have := HL.out; omega
        obtain ⟨ad, rfl, hca⟩ := (Ha.out).at_ hlt
        obtain ⟨bd, rfl, hcb⟩ := (Hb.out).at_ hlt'
        by_cases he : xs[k] = ys[k]
        · have he' : ((xs[k].toNat : Int) != (ys[k].toNat : Int)) = false := by simp [he]
          have He := Lib.hid he
          clear he
          go_wp2
          go_quiet (fail)
          go_wp2
          go_roundw
          case rel => exact ⟨k+1, _, by omega, by go_num, rfl, by rw [List.take_succ_eq_append_getElem hlt, List.take_succ_eq_append_getElem hlt', Ht.out, He.out]⟩
          case measure => simp [intOf]; omega
        · have he' : ((xs[k].toNat : Int) != (ys[k].toNat : Int)) = true := by
            simp; intro h; exact he (UInt8.toNat.inj (by omega))
          have He := Lib.hid he
          clear he
          go_wp2
          go_quiet (fail)
          go_wp2
          go_ret
          refine ⟨?_, _, World.drewN_drewN _ _ _⟩
          have : xs ≠ ys := fun h => He.out (by simp [h])
          simp [this]
      · go_wp2
        go_ret
        refine ⟨?_, _, rfl⟩
        have : xs = ys := by
          have h := Ht.out
          rwa [List.take_of_length_le (by omega), List.take_of_length_le (by have := HL.out; omega)] at h
        simp [this]
  · have h0 : ((xs.length : Int) != (ys.length : Int)) = true := by simp; omega
    have HL := Lib.hid hl
    clear hl
    have Ha := Lib.hid ha
    have Hb := Lib.hid hb
    clear ha hb
    go_enter Tryd.func27, Tryd.ntmps27
    go_wp2
    go_ret
    refine ⟨?_, 0, rfl⟩
    have : xs ≠ ys := fun h => HL.out (by simp [h])
    simp [this]

theorem sameE (A B : Option Addr) (c d : Nat) (xs ys : List UInt8) (w : World) (ha : RdB w A xs) (hb : RdB w B ys)
   (hx : xs.length ≤ 1000000) (hy : ys.length ≤ 1000000) :
   Calls Tryd.prog 27 #[.slice A xs.length c, .slice B ys.length d] w (RetV w (.bool (decide (xs = ys)))) :=
  (same_calls A B c d xs ys w ha hb hx hy).mono fun _ _ ⟨h, n, hw⟩ => ⟨h, by rw [hw]; exact (Ext.refl w).drewN n⟩

theorem ofNat_toNat (q : Nat) : (((UInt8.ofNat q).toNat : Nat) : Int) = (q : Int) % 256 := by
  rw [UInt8.toNat_ofNat']; omega

set_option maxHeartbeats 400000 in
theorem bytes_calls (k n : Nat) (w : World) (hk : k ≤ 8) (hn : n < 18446744073709551616) :
   Calls Tryd.prog 79 #[.int .i64 k, .int .u64 n] w (RetB w (leB k n)) := by
  go_enter Tryd.func79, Tryd.ntmps79
  go_wp2
  go_loopw [1, 5, 6] (fun m out i wr => ∃ (j q : Nat) (A : Option Addr) (c : Nat), j ≤ k ∧ i = .int .i64 j ∧ q = n / 256 ^ j ∧ m = .int .u64 q ∧ out = .slice A (leB j n).length c ∧ OwnB wr w.heap.size A c (leB j n) ∧ Ext w wr) (fun _ _ i _ => k - (intOf i).toNat)
  case atStart => exact ⟨0, n, none, 0, by omega, rfl, by simp, rfl, rfl, OwnB.nil _ _, Ext.refl _⟩
  case round =>
    obtain ⟨j, q, A, c, hj, rfl, hq, rfl, rfl, hown, hext⟩ := hrel
    have hqn : q ≤ n := hq ▸ Nat.div_le_self _ _
    have hq64 : q < 18446744073709551616 := by omega
    have HQ := Lib.hid hq
    have H1 := Lib.hid hown
    have H2 := Lib.hid hext
    have hLl : (leB j n).length ≤ 8 := by rw [leB_length]; omega
    generalize hL : leB j n = L at *
    have HL := Lib.hid hL
    clear hL hq hown hext
    by_cases hlt : j < k
    · go_wp2_with (at_builtin; refine appB _ rfl (.tmp 12) (.tmp 16) rfl w.heap.size A c L rfl _ _ [UInt8.ofNat q] rfl ?_ (OwnB.ext H1.out ((Ext.refl _).alloc _)) (RdB.one _ _ _ _ ?c1) ?c2 ?c3; intro A' c' w' h1 h2 h3)
      case c1 => rw [ofNat_toNat]
      case c2 => simp; omega
      case c3 => simp; have := H2.out.size; omega
      go_roundw
      case rel =>
        refine ⟨j + 1, q / 256, A', c', by omega, by go_num, ?_, ?_, ?_, ?_, ?_⟩
        · rw [HQ.out, Nat.pow_succ, Nat.div_div_eq_div_mul]
        · go_num
        · rw [leB_snoc, HL.out]; simp
        · rw [leB_snoc, HL.out, ← HQ.out]; exact h1
        · exact (H2.out.alloc _).grown h2 (fun g hg => (H1.out.base_ g hg).1)
      case measure => simp [intOf]; omega
    · go_wp2
      go_ret
      obtain rfl : j = k := by omega
      exact ⟨A, c, by rw [HL.out]; rfl, by rw [HL.out]; exact H1.out, H2.out⟩

theorem leN_lt8 (bs : List UInt8) (hl : bs.length ≤ 8) : leN bs < 18446744073709551616 :=
  Nat.lt_of_lt_of_le (leN_lt bs) (Nat.pow_le_pow_right (n := 256) (j := 8) (by omega) hl)
end Go.Proofs.YtkbjnlbbfapgdaaDoor

namespace Go.Proofs.YtkbjnlbbfapgdaaDoor
open Go.RowKit

theorem ret_bool {a b : Bool} (h : a = b) : Ending.returned (.bool a) = .returned (.bool b) := by rw [h]
theorem fitsW_no {width : Int} {n : Nat} (h : okW width = false) : fitsW width n = false := by simp [fitsW, h]
theorem fitsW_yes {width : Int} {n : Nat} (h : okW width = true) : fitsW width n = decide (n < 256 ^ width.toNat) := by simp [fitsW, h]

/-- what Put answers -/
def putW (bs : List UInt8) (width : Int) (n : Nat) : List UInt8 := if okW width then bs ++ leB width.toNat n else bs

/-- behind the make: the local array holds the number's bytes; the new row is another block -/
def PutMid (w w1 : World) (g k n : Nat) : Prop := Ext w w1 ∧ g ≠ w.heap.size ∧ RdB w1 (some ⟨w.heap.size, 0, none⟩) (leB k n)
theorem putMid_mk {w w1 : World} {g k n : Nat} {cs : Array Value} {E : TypeId} (hc : cs.toList.take k = (leB k n).map bv) (e1 : Ext (w.alloc (.cells cs E)) w1) (hg : (w.alloc (.cells cs E)).heap.size = g) : PutMid w w1 g k n := by
  refine ⟨((Ext.refl _).alloc _).trans e1, ?_, ?_⟩
  · simp at hg; omega
  · unfold RdB
    rw [← hc]
    exact ((Rd.of_block (heap_new w _)).take k).ext e1
theorem bv_of {q : Nat} {x : Int} (h : x = (q : Int) % 256) : Value.int .u8 x = bv (UInt8.ofNat q) := by rw [bv, ofNat_toNat, h]
theorem putMid8 {w w1 : World} {g n : Nat} {E : TypeId} (_hn : n < 18446744073709551616) (e1 : Ext (w.alloc (.cells #[.int .u8 (n % 256), .int .u8 (n / 256 % 256), .int .u8 (n / 65536 % 256), .int .u8 (n / 16777216 % 256), .int .u8 (n / 4294967296 % 256), .int .u8 (n / 1099511627776 % 256), .int .u8 (n / 281474976710656 % 256), .int .u8 (n / 72057594037927936)] E)) w1)
    (hg : (w.alloc (.cells #[.int .u8 (n % 256), .int .u8 (n / 256 % 256), .int .u8 (n / 65536 % 256), .int .u8 (n / 16777216 % 256), .int .u8 (n / 4294967296 % 256), .int .u8 (n / 1099511627776 % 256), .int .u8 (n / 281474976710656 % 256), .int .u8 (n / 72057594037927936)] E)).heap.size = g) : PutMid w w1 g 8 n := by
  refine putMid_mk ?_ e1 hg
  simp only [leB, List.map_cons, List.map_nil, List.take_succ_cons, List.take_zero, List.cons.injEq, and_true]
  refine ⟨?_, ?_, ?_, ?_, ?_, ?_, ?_, ?_⟩ <;> apply bv_of <;> omega

set_option maxHeartbeats 400000 in
theorem put8 (A : Option Addr) (c : Nat) (bs : List UInt8) (n : Nat) (w : World) (hb : RdB w A bs) (hl : bs.length ≤ 1000000) (hn : n < 18446744073709551616) :
    Calls Tryd.prog 108 #[.slice A bs.length c, .int .i64 8, .int .u64 n] w (RetB w (bs ++ leB 8 n)) := by
  have Hb := Lib.hid hb
  clear hb
  go_enter Tryd.func108, Tryd.ntmps108
  go_wp2_with (first | (at_make; refine makB _ rfl _ _ rfl w.heap.size _ _ _ (bs.length + 8) rfl rfl ?_ ?c1 ?c2 ?c3; intro g w1 h1 e1 hg; have HP : Hid (PutMid w w1 g 8 n) := putMid8 hn e1 hg; clear hg; have H1 := Lib.hid h1; clear h1 e1) | (at_builtin; refine appB _ rfl (.tmp 56) (.tmp 57) rfl w.heap.size _ _ [] rfl A c bs rfl ?_ H1.out ?c4 ?c5 ?c6; intro A2 c2 w2 h2 g2 k2; have H2 := Lib.hid h2; have G2 := Lib.hid g2; clear h2 g2 k2) | (at_builtin; refine appB _ rfl (.tmp 59) (.tmp 61) rfl w.heap.size A2 c2 ([] ++ bs) rfl _ _ (leB 8 n) rfl ?_ H2.out ?c7 ?c8 ?c9; intro A3 c3 w3 h3 g3 k3))
  case c1 => simp
  case c2 => rfl
  case c3 => omega
  case c4 => exact Hb.out.ext HP.out.1
  case c5 => simp; omega
  case c6 => exact HP.out.1.size
  case c7 => exact HP.out.2.2.grown G2.out (fun ad h => by cases h; intro h; exact HP.out.2.1 (by simpa [blk] using h.symm))
  case c8 => simp [leB_length]; omega
  case c9 => exact Nat.le_trans HP.out.1.size G2.out.size
  go_ret
  rw [List.nil_append] at h3
  have e2 := HP.out.1.grown G2.out (fun k hk => (H1.out.base_ k hk).1)
  refine ⟨A3, c3, ?_, h3, e2.grown g3 (fun k hk => (H2.out.base_ k hk).1)⟩
  rw [List.length_append]; rfl

theorem putMid4 {w w1 : World} {g n : Nat} {E : TypeId} (_hn : n < 18446744073709551616) (e1 : Ext (w.alloc (.cells #[.int .u8 (n % 256), .int .u8 (n / 256 % 256), .int .u8 (n / 65536 % 256), .int .u8 (n / 16777216 % 256), .int .u8 0, .int .u8 0, .int .u8 0, .int .u8 0] E)) w1)
    (hg : (w.alloc (.cells #[.int .u8 (n % 256), .int .u8 (n / 256 % 256), .int .u8 (n / 65536 % 256), .int .u8 (n / 16777216 % 256), .int .u8 0, .int .u8 0, .int .u8 0, .int .u8 0] E)).heap.size = g) : PutMid w w1 g 4 n := by
  refine putMid_mk ?_ e1 hg
  simp only [leB, List.map_cons, List.map_nil, List.take_succ_cons, List.take_zero, List.cons.injEq, and_true]
  refine ⟨?_, ?_, ?_, ?_⟩ <;> apply bv_of <;> omega

set_option maxHeartbeats 400000 in
theorem put4 (A : Option Addr) (c : Nat) (bs : List UInt8) (n : Nat) (w : World) (hb : RdB w A bs) (hl : bs.length ≤ 1000000) (hn : n < 18446744073709551616) :
    Calls Tryd.prog 108 #[.slice A bs.length c, .int .i64 4, .int .u64 n] w (RetB w (bs ++ leB 4 n)) := by
  have Hb := Lib.hid hb
  clear hb
  go_enter Tryd.func108, Tryd.ntmps108
  go_wp2_with (first | (at_make; refine makB _ rfl _ _ rfl w.heap.size _ _ _ (bs.length + 4) rfl rfl ?_ ?c1 ?c2 ?c3; intro g w1 h1 e1 hg; have HP : Hid (PutMid w w1 g 4 n) := putMid4 hn e1 hg; clear hg; have H1 := Lib.hid h1; clear h1 e1) | (at_builtin; refine appB _ rfl (.tmp 56) (.tmp 57) rfl w.heap.size _ _ [] rfl A c bs rfl ?_ H1.out ?c4 ?c5 ?c6; intro A2 c2 w2 h2 g2 k2; have H2 := Lib.hid h2; have G2 := Lib.hid g2; clear h2 g2 k2) | (at_builtin; refine appB _ rfl (.tmp 59) (.tmp 61) rfl w.heap.size A2 c2 ([] ++ bs) rfl _ _ (leB 4 n) rfl ?_ H2.out ?c7 ?c8 ?c9; intro A3 c3 w3 h3 g3 k3))
  case c1 => simp
  case c2 => rfl
  case c3 => omega
  case c4 => exact Hb.out.ext HP.out.1
  case c5 => simp; omega
  case c6 => exact HP.out.1.size
  case c7 => exact HP.out.2.2.grown G2.out (fun ad h => by cases h; intro h; exact HP.out.2.1 (by simpa [blk] using h.symm))
  case c8 => simp [leB_length]; omega
  case c9 => exact Nat.le_trans HP.out.1.size G2.out.size
  go_ret
  rw [List.nil_append] at h3
  have e2 := HP.out.1.grown G2.out (fun k hk => (H1.out.base_ k hk).1)
  refine ⟨A3, c3, ?_, h3, e2.grown g3 (fun k hk => (H2.out.base_ k hk).1)⟩
  rw [List.length_append]; rfl

theorem putMid2 {w w1 : World} {g n : Nat} {E : TypeId} (_hn : n < 18446744073709551616) (e1 : Ext (w.alloc (.cells #[.int .u8 (n % 256), .int .u8 (n / 256 % 256), .int .u8 0, .int .u8 0, .int .u8 0, .int .u8 0, .int .u8 0, .int .u8 0] E)) w1)
    (hg : (w.alloc (.cells #[.int .u8 (n % 256), .int .u8 (n / 256 % 256), .int .u8 0, .int .u8 0, .int .u8 0, .int .u8 0, .int .u8 0, .int .u8 0] E)).heap.size = g) : PutMid w w1 g 2 n := by
  refine putMid_mk ?_ e1 hg
  simp only [leB, List.map_cons, List.map_nil, List.take_succ_cons, List.take_zero, List.cons.injEq, and_true]
  refine ⟨?_, ?_⟩ <;> apply bv_of <;> omega

set_option maxHeartbeats 400000 in
theorem put2 (A : Option Addr) (c : Nat) (bs : List UInt8) (n : Nat) (w : World) (hb : RdB w A bs) (hl : bs.length ≤ 1000000) (hn : n < 18446744073709551616) :
    Calls Tryd.prog 108 #[.slice A bs.length c, .int .i64 2, .int .u64 n] w (RetB w (bs ++ leB 2 n)) := by
  have Hb := Lib.hid hb
  clear hb
  go_enter Tryd.func108, Tryd.ntmps108
  go_wp2_with (first | (at_make; refine makB _ rfl _ _ rfl w.heap.size _ _ _ (bs.length + 2) rfl rfl ?_ ?c1 ?c2 ?c3; intro g w1 h1 e1 hg; have HP : Hid (PutMid w w1 g 2 n) := putMid2 hn e1 hg; clear hg; have H1 := Lib.hid h1; clear h1 e1) | (at_builtin; refine appB _ rfl (.tmp 56) (.tmp 57) rfl w.heap.size _ _ [] rfl A c bs rfl ?_ H1.out ?c4 ?c5 ?c6; intro A2 c2 w2 h2 g2 k2; have H2 := Lib.hid h2; have G2 := Lib.hid g2; clear h2 g2 k2) | (at_builtin; refine appB _ rfl (.tmp 59) (.tmp 61) rfl w.heap.size A2 c2 ([] ++ bs) rfl _ _ (leB 2 n) rfl ?_ H2.out ?c7 ?c8 ?c9; intro A3 c3 w3 h3 g3 k3))
  case c1 => simp
  case c2 => rfl
  case c3 => omega
  case c4 => exact Hb.out.ext HP.out.1
  case c5 => simp; omega
  case c6 => exact HP.out.1.size
  case c7 => exact HP.out.2.2.grown G2.out (fun ad h => by cases h; intro h; exact HP.out.2.1 (by simpa [blk] using h.symm))
  case c8 => simp [leB_length]; omega
  case c9 => exact Nat.le_trans HP.out.1.size G2.out.size
  go_ret
  rw [List.nil_append] at h3
  have e2 := HP.out.1.grown G2.out (fun k hk => (H1.out.base_ k hk).1)
  refine ⟨A3, c3, ?_, h3, e2.grown g3 (fun k hk => (H2.out.base_ k hk).1)⟩
  rw [List.length_append]; rfl

theorem putMid1 {w w1 : World} {g n : Nat} {E : TypeId} (_hn : n < 18446744073709551616) (e1 : Ext (w.alloc (.cells #[.int .u8 (n % 256), .int .u8 0, .int .u8 0, .int .u8 0, .int .u8 0, .int .u8 0, .int .u8 0, .int .u8 0] E)) w1)
    (hg : (w.alloc (.cells #[.int .u8 (n % 256), .int .u8 0, .int .u8 0, .int .u8 0, .int .u8 0, .int .u8 0, .int .u8 0, .int .u8 0] E)).heap.size = g) : PutMid w w1 g 1 n := by
  refine putMid_mk ?_ e1 hg
  simp only [leB, List.map_cons, List.map_nil, List.take_succ_cons, List.take_zero, List.cons.injEq, and_true]
  apply bv_of; omega

set_option maxHeartbeats 400000 in
theorem put1 (A : Option Addr) (c : Nat) (bs : List UInt8) (n : Nat) (w : World) (hb : RdB w A bs) (hl : bs.length ≤ 1000000) (hn : n < 18446744073709551616) :
    Calls Tryd.prog 108 #[.slice A bs.length c, .int .i64 1, .int .u64 n] w (RetB w (bs ++ leB 1 n)) := by
  have Hb := Lib.hid hb
  clear hb
  go_enter Tryd.func108, Tryd.ntmps108
  go_wp2_with (first | (at_make; refine makB _ rfl _ _ rfl w.heap.size _ _ _ (bs.length + 1) rfl rfl ?_ ?c1 ?c2 ?c3; intro g w1 h1 e1 hg; have HP : Hid (PutMid w w1 g 1 n) := putMid1 hn e1 hg; clear hg; have H1 := Lib.hid h1; clear h1 e1) | (at_builtin; refine appB _ rfl (.tmp 56) (.tmp 57) rfl w.heap.size _ _ [] rfl A c bs rfl ?_ H1.out ?c4 ?c5 ?c6; intro A2 c2 w2 h2 g2 k2; have H2 := Lib.hid h2; have G2 := Lib.hid g2; clear h2 g2 k2) | (at_builtin; refine appB _ rfl (.tmp 59) (.tmp 61) rfl w.heap.size A2 c2 ([] ++ bs) rfl _ _ (leB 1 n) rfl ?_ H2.out ?c7 ?c8 ?c9; intro A3 c3 w3 h3 g3 k3))
  case c1 => simp
  case c2 => rfl
  case c3 => omega
  case c4 => exact Hb.out.ext HP.out.1
  case c5 => simp; omega
  case c6 => exact HP.out.1.size
  case c7 => exact HP.out.2.2.grown G2.out (fun ad h => by cases h; intro h; exact HP.out.2.1 (by simpa [blk] using h.symm))
  case c8 => simp [leB_length]; omega
  case c9 => exact Nat.le_trans HP.out.1.size G2.out.size
  go_ret
  rw [List.nil_append] at h3
  have e2 := HP.out.1.grown G2.out (fun k hk => (H1.out.base_ k hk).1)
  refine ⟨A3, c3, ?_, h3, e2.grown g3 (fun k hk => (H2.out.base_ k hk).1)⟩
  rw [List.length_append]; rfl

set_option maxHeartbeats 400000 in
theorem put0 (A : Option Addr) (c : Nat) (bs : List UInt8) (width : Int) (n : Nat) (w : World) (hb : RdB w A bs) (hl : bs.length ≤ 1000000) (h1 : (width == 1) = false) (h2 : (width == 2) = false) (h4 : (width == 4) = false) (h8 : (width == 8) = false) :
    Calls Tryd.prog 108 #[.slice A bs.length c, .int .i64 width, .int .u64 n] w (RetB w bs) := by
  have Hb := Lib.hid hb
  clear hb
  go_enter Tryd.func108, Tryd.ntmps108
  go_wp2_with (first | (at_make; refine makB _ rfl _ _ rfl w.heap.size _ _ _ bs.length rfl rfl ?_ ?c1 ?c2 ?c3; intro g w1 h1 e1 hg; have HP := Lib.hid (((Ext.refl w).alloc _).trans e1); clear hg; have H1 := Lib.hid h1; clear h1 e1) | (at_builtin; refine appB _ rfl (.tmp 56) (.tmp 57) rfl w.heap.size _ _ [] rfl A c bs rfl ?_ H1.out ?c4 ?c5 ?c6; intro A2 c2 w2 h2 g2 k2; have H2 := Lib.hid h2; have G2 := Lib.hid g2; clear h2 g2 k2) | (at_builtin; refine appB _ rfl (.tmp 59) (.tmp 61) rfl w.heap.size A2 c2 ([] ++ bs) rfl _ _ [] rfl ?_ H2.out ?c7 ?c8 ?c9; intro A3 c3 w3 h3 g3 k3))
  case c1 => simp
  case c2 => rfl
  case c3 => omega
  case c4 => exact Hb.out.ext HP.out
  case c5 => simp; omega
  case c6 => exact HP.out.size
  case c7 => exact RdB.nil
  case c8 => simp; omega
  case c9 => exact Nat.le_trans HP.out.size G2.out.size
  go_ret
  rw [List.nil_append, List.append_nil] at h3
  have e2 := HP.out.grown G2.out (fun k hk => (H1.out.base_ k hk).1)
  exact ⟨A3, c3, rfl, h3, e2.grown g3 (fun k hk => (H2.out.base_ k hk).1)⟩

theorem put_calls (A : Option Addr) (c : Nat) (bs : List UInt8) (width : Int) (n : Nat) (w : World) (hb : RdB w A bs) (hl : bs.length ≤ 1000000) (hn : n < 18446744073709551616) :
    Calls Tryd.prog 108 #[.slice A bs.length c, .int .i64 width, .int .u64 n] w (RetB w (putW bs width n)) := by
  by_cases h1 : width = 1
  · subst h1; exact put1 A c bs n w hb hl hn
  by_cases h2 : width = 2
  · subst h2; exact put2 A c bs n w hb hl hn
  by_cases h4 : width = 4
  · subst h4; exact put4 A c bs n w hb hl hn
  by_cases h8 : width = 8
  · subst h8; exact put8 A c bs n w hb hl hn
  have e1 : (width == 1) = false := by simpa using h1
  have e2 : (width == 2) = false := by simpa using h2
  have e4 : (width == 4) = false := by simpa using h4
  have e8 : (width == 8) = false := by simpa using h8
  have : putW bs width n = bs := by simp [putW, okW, e1, e2, e4, e8]
  rw [this]
  exact put0 A c bs width n w hb hl e1 e2 e4 e8
end Go.Proofs.YtkbjnlbbfapgdaaDoor

namespace Go.Proofs.YtkbjnlbbfapgdaaDoor
open Go.RowKit
variable {ops : Array Oper} {rest : List Oper} {o : Oper} {a : Act} {Q : Exit → Act → World → Prop}

theorem run_appS (w : World) (ty : TypeId) (base : Nat) (A : Option Addr) (c : Nat) (xs : List UInt8) (hown : OwnB w base A c xs)
    (t : ByteArray) (hl : xs.length + t.size ≤ 140737488355328) (hbase : base ≤ w.heap.size) :
    ∃ A' c' w', (Builtin.append_ #[42, 9] ty #[.slice A xs.length c, .string t]).run Tryd.prog w = .ok (.slice A' (xs ++ t.data.toList).length c') w' ∧
      OwnB w' base A' c' (xs ++ t.data.toList) ∧ w.grownBy w' (blk A) := by
  obtain ⟨i0, hi, hz0, hz1, hz2⟩ := info_parts byte_info
  obtain ⟨v', w', hrun, h2, h3, _⟩ := Lib.run_append_own_string (P := Tryd.prog) (w := w) base 42 9 ty 5 i0 Tryd.underlying42 Tryd.underlying9 hi hz0 hz1 hz2 _ _ _ hown t (by simp only [maxLen]; omega) hl hbase
  rw [ownBlock_slice] at h3
  have hex : ∃ A' c', v' = .slice A' (xs.length + t.size) c' := by
    rcases h2.2 with ⟨h, hz⟩ | ⟨g, cap, cur, h, _⟩
    · exact ⟨none, 0, by rw [h, hz]⟩
    · exact ⟨_, _, h⟩
  obtain ⟨A', c', rfl⟩ := hex
  have hlen : (xs ++ t.data.toList).length = xs.length + t.size := by rw [List.length_append]; rfl
  refine ⟨A', c', w', by rw [hrun, hlen], ?_, h3⟩
  unfold OwnB
  rw [hlen, List.map_append]
  exact h2

theorem appS (w : World) (hgd : Region.wanted o (yielded ops a.tmps) = true) (s x : Operand) (ho : o.op = .call { callee := .builtin .append, args := #[s, x], argTypes := #[42, 9] })
    (base : Nat) (A : Option Addr) (c : Nat) (xs : List UInt8) (hs : a.eval s = .slice A xs.length c)
    (t : ByteArray) (hx : a.eval x = .string t)
    (h : ∀ A' c' w', OwnB w' base A' c' (xs ++ t.data.toList) → w.grownBy w' (blk A) → wpList Tryd.prog ops Q rest (a.put o.dst (.slice A' (xs ++ t.data.toList).length c')) w')
    (hown : OwnB w base A c xs) (hl : xs.length + t.size ≤ 140737488355328) (hbase : base ≤ w.heap.size) :
    wpList Tryd.prog ops Q (o :: rest) a w := by
  refine wpList_want hgd fun K hK => ?_
  obtain ⟨A', c', w', hrun, h2, h3⟩ := run_appS w o.type base A c xs hown t hl hbase
  unfold Oper.wp execOp
  simp only [ho, resolve, invoke, builtin, Sem.run_bind, Sem.run_pure, Result.andThen_ok, List.map_toArray, List.map_cons, List.map_nil, hs, hx, hrun]
  exact hK _ _ (h A' c' w' h2 h3)
end Go.Proofs.YtkbjnlbbfapgdaaDoor

namespace Go.Proofs.YtkbjnlbbfapgdaaDoor

def crcBit (r : Nat) : Nat := if r % 2 = 1 then (r / 2) ^^^ 2197175160 else r / 2
def crcBits : Nat → Nat → Nat
  | 0, r => r
  | k + 1, r => crcBits k (crcBit r)
def crcReg (r : Nat) (bs : List UInt8) : Nat := bs.foldl (fun r b => crcBits 8 (r ^^^ b.toNat)) r
def crcMore (s : Nat) (bs : List UInt8) : Nat := 4294967295 - crcReg (4294967295 - s) bs
def crcSum (bs : List UInt8) : Nat := crcMore 0 bs

theorem crcBit_lt {r : Nat} (h : r < 4294967296) : crcBit r < 4294967296 := by
  unfold crcBit
  split
  · exact Nat.xor_lt_two_pow (n := 32) (by omega) (by omega)
  · omega
theorem crcBits_lt {k r : Nat} (h : r < 4294967296) : crcBits k r < 4294967296 := by
  induction k generalizing r with
  | zero => exact h
  | succ k ih => exact ih (crcBit_lt h)
theorem crcBits_snoc (k r : Nat) : crcBits (k + 1) r = crcBit (crcBits k r) := by
  induction k generalizing r with
  | zero => rfl
  | succ k ih => rw [crcBits, ih, crcBits]
theorem byte_lt (b : UInt8) : b.toNat < 4294967296 := Nat.lt_trans b.toNat_lt (by omega)
theorem crcReg_lt {r : Nat} (bs : List UInt8) (h : r < 4294967296) : crcReg r bs < 4294967296 := by
  induction bs generalizing r with
  | nil => exact h
  | cons b l ih => exact ih (crcBits_lt (Nat.xor_lt_two_pow (n := 32) h (byte_lt b)))
theorem crcReg_append (r : Nat) (a b : List UInt8) : crcReg r (a ++ b) = crcReg (crcReg r a) b := by simp [crcReg]
theorem crcReg_snoc (r : Nat) (a : List UInt8) (b : UInt8) : crcReg r (a ++ [b]) = crcBits 8 (crcReg r a ^^^ b.toNat) := by simp [crcReg]
theorem crcMore_lt (s : Nat) (bs : List UInt8) : crcMore s bs < 4294967296 := by unfold crcMore; omega
theorem crcSum_lt (bs : List UInt8) : crcSum bs < 4294967296 := crcMore_lt 0 bs
theorem crcMore_sum (a b : List UInt8) : crcMore (crcSum a) b = crcSum (a ++ b) := by
  unfold crcSum crcMore
  rw [crcReg_append]
  have := crcReg_lt (r := 4294967295 - 0) a (by omega)
  congr 2
  omega
end Go.Proofs.YtkbjnlbbfapgdaaDoor

namespace Go.Proofs.YtkbjnlbbfapgdaaDoor
open Go.RowKit

theorem not32_nat (s : Nat) (hs : s < 4294967296) : 4294967295 ^^^ s = 4294967295 - s := by
  have h : (BitVec.allOnes 32 ^^^ BitVec.ofNat 32 s).toNat = (~~~ (BitVec.ofNat 32 s)).toNat := by rw [BitVec.allOnes_xor]
  rw [BitVec.toNat_xor, BitVec.toNat_not, BitVec.toNat_allOnes, BitVec.toNat_ofNat, Nat.mod_eq_of_lt (by simpa using hs)] at h
  exact h
theorem not32 (s : Nat) (hs : s < 4294967296) : bits BinOp.xor IntKind.u32 IntKind.u32.max (s : Int) = ((4294967295 - s : Nat) : Int) := by
  have h := u32_xor_nat 4294967295 s (by omega) hs
  rw [not32_nat s hs] at h
  exact h

set_option maxHeartbeats 1000000 in
theorem more_calls (s : Nat) (A : Option Addr) (c : Nat) (bs : List UInt8) (w : World) (hb : RdB w A bs) (hl : bs.length ≤ 1000000) (hs : s < 4294967296) :
    Calls Tryd.prog 137 #[.int .u32 s, .slice A bs.length c] w fun e w' => e = .returned (.int .u32 (crcMore s bs)) ∧ w = w' := by
  have Hb := Lib.hid hb
  clear hb
  have hns : IntKind.u32.signed = false := rfl
  go_enter Tryd.func137, Tryd.ntmps137
  go_wp2
  go_loop [5, 13] (fun r i => ∃ k q : Nat, k ≤ bs.length ∧ i = .int .i64 k ∧ q = crcReg (4294967295 - s) (bs.take k) ∧ r = .int .u32 q) (fun _ i => bs.length - (intOf i).toNat)
  case atStart => exact ⟨0, 4294967295 - s, by omega, rfl, rfl, by rw [not32 s hs]⟩
  case round =>
    obtain ⟨k, q, hk, rfl, hq, rfl⟩ := hrel
    have hq32 : q < 4294967296 := by rw [hq]; exact crcReg_lt _ (by omega)
    have HQ := Lib.hid hq
    clear hq
    by_cases hlt : k < bs.length
    · obtain ⟨ad, rfl, hca⟩ := Hb.out.at_ hlt
      have hbl := (bs[k]).toNat_lt
      have hx := u32_xor_nat q (bs[k]).toNat hq32 (by omega)
      have hxl : q ^^^ (bs[k]).toNat < 4294967296 := Nat.xor_lt_two_pow (n := 32) hq32 (by omega)
      generalize hy : q ^^^ (bs[k]).toNat = y at *
      have HY := Lib.hid hy
      clear hy
      go_wp2
      go_loop [5, 8, 21] (fun r _ i => ∃ j z : Nat, j ≤ 8 ∧ i = .int .i64 j ∧ z = crcBits j y ∧ r = .int .u32 z) (fun _ _ i => 8 - (intOf i).toNat)
      case atStart => exact ⟨0, y, by omega, rfl, rfl, rfl⟩
      case round =>
        obtain ⟨j, z, hj, rfl, hz, rfl⟩ := hrel
        have hz32 : z < 4294967296 := by rw [hz]; exact crcBits_lt hxl
        have HZ := Lib.hid hz
        clear hz
        by_cases hj8 : j < 8
        · have hand := u32_and_nat z 1 hz32 (by omega)
          rw [nat_mask1] at hand
          have HX : Hid (bits BinOp.xor IntKind.u32 ((z : Int) / 2) 2197175160 = ((z / 2 ^^^ 2197175160 : Nat) : Int)) := by
            have h := u32_xor_nat (z / 2) 2197175160 (by omega) (by omega)
            exact h
          have HN : Hid (crcBits (j + 1) y = crcBit z) := by rw [HZ.out]; exact crcBits_snoc j y
          by_cases hodd : z % 2 = 1
          · have h1 : bits BinOp.and IntKind.u32 (z : Int) 1 = 1 := by rw [hodd] at hand; exact hand
            have HO := Lib.hid hodd
            clear hand hodd
            go_wp2
            go_round
            case rel => exact ⟨j + 1, crcBit z, by omega, by go_num, HN.out.symm, by rw [HX.out, crcBit, if_pos HO.out]⟩
            case measure => simp [intOf]; omega
          · have h1 : bits BinOp.and IntKind.u32 (z : Int) 1 = 0 := by rw [show z % 2 = 0 from by omega] at hand; exact hand
            have HO := Lib.hid hodd
            clear hand hodd
            go_wp2
            go_round
            case rel => exact ⟨j + 1, crcBit z, by omega, by go_num, HN.out.symm, by rw [crcBit, if_neg HO.out]; go_num⟩
            case measure => simp [intOf]; omega
        · obtain rfl : j = 8 := by omega
          have HN : Hid (crcReg (4294967295 - s) (bs.take (k + 1)) = z) := by
            show _ = _
            rw [List.take_succ_eq_append_getElem hlt, crcReg_snoc, ← HQ.out, HY.out, ← HZ.out]
          go_wp2
          go_round
          case rel => exact ⟨k + 1, z, by omega, by go_num, HN.out.symm, rfl⟩
          case measure => simp [intOf]; omega
    · have HN : Hid (bits BinOp.xor IntKind.u32 IntKind.u32.max (q : Int) = (crcMore s bs : Int)) := by
        show _ = _
        rw [not32 q hq32, HQ.out, List.take_of_length_le (by omega)]; rfl
      go_wp2
      go_ret
      exact ⟨ret_int HN.out, rfl⟩

theorem sum_calls (A : Option Addr) (c : Nat) (bs : List UInt8) (w : World) (hb : RdB w A bs) (hl : bs.length ≤ 1000000) :
    Calls Tryd.prog 109 #[.slice A bs.length c] w fun e w' => e = .returned (.int .u32 (crcSum bs)) ∧ w = w' := by
  have Hb := Lib.hid hb
  clear hb
  go_enter Tryd.func109, Tryd.ntmps109
  go_wp2_with fail
  refine (more_calls 0 A c bs _ Hb.out hl (by omega)).mono ?_
  rintro e w' ⟨rfl, rfl⟩
  go_wp2_with fail
  go_ret
  exact ⟨rfl, rfl⟩

/-- one bit of the reference: register and byte halve; the register turns if their low bits part -/
def refBits : Nat → Nat → Nat → Nat × Nat
  | 0, r, c => (r, c)
  | k + 1, r, c =>
    let p := refBits k r c
    (if (p.1 % 2 == 1) != (p.2 % 2 == 1) then (p.1 / 2) ^^^ 2197175160 else p.1 / 2, p.2 / 2)
theorem xor_half (a b : Nat) : (a ^^^ b) / 2 = a / 2 ^^^ b / 2 := by
  have := Nat.shiftRight_xor_distrib (a := a) (b := b) (i := 1)
  simpa [Nat.shiftRight_eq_div_pow] using this
theorem xor_odd (a b : Nat) : (a ^^^ b) % 2 = 1 ↔ ¬ (a % 2 = 1 ↔ b % 2 = 1) := by
  rw [Nat.xor_mod_two_eq_one]
theorem refBits_eq (k r c : Nat) : crcBits k (r ^^^ c) = (refBits k r c).1 ^^^ (refBits k r c).2 := by
  induction k with
  | zero => rfl
  | succ k ih =>
    rw [crcBits_snoc, ih, refBits, crcBit]
    generalize refBits k r c = p
    by_cases h : (p.1 ^^^ p.2) % 2 = 1
    · have h' := (xor_odd _ _).1 h
      have hb : ((p.1 % 2 == 1) != (p.2 % 2 == 1)) = true := by
        simp only [bne_iff_ne, ne_eq]; intro he; apply h'; rw [Bool.eq_iff_iff, beq_iff_eq, beq_iff_eq] at he; exact he
      rw [if_pos h, if_pos hb, xor_half, Nat.xor_assoc, Nat.xor_comm (p.2 / 2), ← Nat.xor_assoc]
    · have h' : (p.1 % 2 = 1 ↔ p.2 % 2 = 1) := Classical.not_not.1 (fun hn => h ((xor_odd _ _).2 hn))
      have hb : ((p.1 % 2 == 1) != (p.2 % 2 == 1)) = false := by
        simp only [bne_eq_false_iff_eq]; rw [Bool.eq_iff_iff, beq_iff_eq, beq_iff_eq]; exact h'
      rw [if_neg h, if_neg (by rw [hb]; decide), xor_half]
theorem refBits_snd (k r c : Nat) : (refBits k r c).2 = c / 2 ^ k := by
  induction k with
  | zero => simp [refBits]
  | succ k ih => rw [refBits, ih, Nat.pow_succ, Nat.div_div_eq_div_mul]
theorem refBits_lt (k r c : Nat) (h : r < 4294967296) : (refBits k r c).1 < 4294967296 := by
  induction k with
  | zero => exact h
  | succ k ih =>
    rw [refBits]; dsimp only; split
    · exact Nat.xor_lt_two_pow (n := 32) (by omega) (by omega)
    · omega
theorem refBits_8 (r : Nat) (b : UInt8) : (refBits 8 r b.toNat).1 = crcBits 8 (r ^^^ b.toNat) := by
  have := b.toNat_lt
  rw [refBits_eq, refBits_snd, Nat.div_eq_of_lt this, Nat.xor_zero]

set_option maxHeartbeats 1000000 in
theorem rsum_calls (A : Option Addr) (c : Nat) (bs : List UInt8) (w : World) (hb : RdB w A bs) (hl : bs.length ≤ 1000000) :
    Calls Tryd.prog 82 #[.slice A bs.length c] w fun e w' => e = .returned (.int .u32 (crcSum bs)) ∧ w = w' := by
  have Hb := Lib.hid hb
  clear hb
  go_enter Tryd.func82, Tryd.ntmps82
  go_wp2
  go_loop [3, 4] (fun r i => ∃ k q : Nat, k ≤ bs.length ∧ i = .int .i64 k ∧ q = crcReg 4294967295 (bs.take k) ∧ r = .int .u32 q) (fun _ i => bs.length - (intOf i).toNat)
  case atStart => exact ⟨0, 4294967295, by omega, rfl, rfl, rfl⟩
  case round =>
    obtain ⟨k, q, hk, rfl, hq, rfl⟩ := hrel
    have hq32 : q < 4294967296 := by rw [hq]; exact crcReg_lt _ (by omega)
    have HQ := Lib.hid hq
    clear hq
    by_cases hlt : k < bs.length
    · obtain ⟨ad, rfl, hca⟩ := Hb.out.at_ hlt
      have hbl : (bs[k]).toNat < 256 := (bs[k]).toNat_lt
      go_wp2
      go_loop [3, 5, 6] (fun r x i => ∃ j y z : Nat, j ≤ 8 ∧ i = .int .i64 j ∧ y = (refBits j q (bs[k]).toNat).1 ∧ z = (refBits j q (bs[k]).toNat).2 ∧ z < 256 ∧ r = .int .u32 y ∧ x = .int .u8 z) (fun _ _ i => 8 - (intOf i).toNat)
      case atStart => exact ⟨0, q, (bs[k]).toNat, by omega, rfl, rfl, rfl, hbl, rfl, rfl⟩
      case round =>
        obtain ⟨j, y, z, hj, rfl, hy, hz, hz8, rfl, rfl⟩ := hrel
        have hy32 : y < 4294967296 := by rw [hy]; exact refBits_lt _ _ _ hq32
        have HY := Lib.hid hy
        have HZ := Lib.hid hz
        clear hy hz
        by_cases hj8 : j < 8
        · have HX : Hid (bits BinOp.xor IntKind.u32 ((y : Int) / 2) 2197175160 = ((y / 2 ^^^ 2197175160 : Nat) : Int)) := by
            have h := u32_xor_nat (y / 2) 2197175160 (by omega) (by omega)
            exact h
          have HN : Hid (refBits (j + 1) q (bs[k]).toNat = (if (y % 2 == 1) != (z % 2 == 1) then (y / 2) ^^^ 2197175160 else y / 2, z / 2)) := by rw [HY.out, HZ.out]; rfl
          have hyb : y % 2 = 1 ∨ y % 2 = 0 := by omega
          have hzb : z % 2 = 1 ∨ z % 2 = 0 := by omega
          rcases hyb with ha | ha <;> rcases hzb with hb | hb
          · have h1 : ((y : Int) % 2 == 1) = true := by simp; omega
            have h2 : ((z : Int) % 2 == 1) = true := by simp; omega
            have HN2 : Hid (refBits (j + 1) q (bs[k]).toNat = (y / 2, z / 2)) := by show _ = _; rw [HN.out, ha, hb]; rfl
            clear ha hb
            go_wp2
            go_round
            case rel => exact ⟨j + 1, y / 2, z / 2, by omega, by go_num, by rw [HN2.out], by rw [HN2.out], by omega, by go_num, by go_num⟩
            case measure => simp [intOf]; omega
          · have h1 : ((y : Int) % 2 == 1) = true := by simp; omega
            have h2 : ((z : Int) % 2 == 1) = false := by simp; omega
            have HN2 : Hid (refBits (j + 1) q (bs[k]).toNat = (y / 2 ^^^ 2197175160, z / 2)) := by show _ = _; rw [HN.out, ha, hb]; rfl
            clear ha hb
            go_wp2
            go_round
            case rel => exact ⟨j + 1, y / 2 ^^^ 2197175160, z / 2, by omega, by go_num, by rw [HN2.out], by rw [HN2.out], by omega, by rw [HX.out], by go_num⟩
            case measure => simp [intOf]; omega
          · have h1 : ((y : Int) % 2 == 1) = false := by simp; omega
            have h2 : ((z : Int) % 2 == 1) = true := by simp; omega
            have HN2 : Hid (refBits (j + 1) q (bs[k]).toNat = (y / 2 ^^^ 2197175160, z / 2)) := by show _ = _; rw [HN.out, ha, hb]; rfl
            clear ha hb
            go_wp2
            go_round
            case rel => exact ⟨j + 1, y / 2 ^^^ 2197175160, z / 2, by omega, by go_num, by rw [HN2.out], by rw [HN2.out], by omega, by rw [HX.out], by go_num⟩
            case measure => simp [intOf]; omega
          · have h1 : ((y : Int) % 2 == 1) = false := by simp; omega
            have h2 : ((z : Int) % 2 == 1) = false := by simp; omega
            have HN2 : Hid (refBits (j + 1) q (bs[k]).toNat = (y / 2, z / 2)) := by show _ = _; rw [HN.out, ha, hb]; rfl
            clear ha hb
            go_wp2
            go_round
            case rel => exact ⟨j + 1, y / 2, z / 2, by omega, by go_num, by rw [HN2.out], by rw [HN2.out], by omega, by go_num, by go_num⟩
            case measure => simp [intOf]; omega
        · obtain rfl : j = 8 := by omega
          have HN : Hid (crcReg 4294967295 (bs.take (k + 1)) = y) := by
            show _ = _
            rw [List.take_succ_eq_append_getElem hlt, crcReg_snoc, ← HQ.out, HY.out, refBits_8]
          go_wp2
          go_round
          case rel => exact ⟨k + 1, y, by omega, by go_num, HN.out.symm, rfl⟩
          case measure => simp [intOf]; omega
    · have HN : Hid (((4294967295 - q : Nat) : Int) = (crcSum bs : Int)) := by
        show _ = _
        rw [HQ.out, List.take_of_length_le (by omega)]; rfl
      go_wp2
      go_ret
      exact ⟨ret_int (by rw [← HN.out]; omega), rfl⟩

set_option maxHeartbeats 400000 in
theorem seal_calls (A : Option Addr) (c : Nat) (bs : List UInt8) (w : World) (hb : RdB w A bs) (hl : bs.length ≤ 1000000) :
    Calls Tryd.prog 71 #[.slice A bs.length c] w (RetB w (bs ++ leB 4 (crcSum bs))) := by
  have Hb := Lib.hid hb
  clear hb
  have hs := crcSum_lt bs
  go_enter Tryd.func71, Tryd.ntmps71
  go_wp2_with fail
  refine (sum_calls A c bs _ Hb.out hl).mono ?_
  rintro e w' ⟨rfl, rfl⟩
  generalize crcSum bs = q at *
  go_wp2_with fail
  refine (put4 A c bs q _ Hb.out hl (by omega)).mono ?_
  rintro e w1 ⟨A1, c1, rfl, h1, e1⟩
  generalize bs ++ leB 4 q = L at *
  have H1 := Lib.hid h1; have E1 := Lib.hid e1; clear h1 e1
  go_wp2_with fail
  go_ret
  exact ⟨A1, c1, rfl, H1.out, E1.out⟩

theorem sealsum_example : crcSum [49, 50, 51, 52, 53, 54, 55, 56, 57] = 3808858755 := by decide +kernel


end Go.Proofs.YtkbjnlbbfapgdaaDoor

namespace Go.Proofs.YtkbjnlbbfapgdaaDoor
open Go.RowKit

def RetB2 (w : World) (bs : List UInt8) (x : Value) (e : Ending) (w' : World) : Prop :=
  ∃ A c, e = .returned (.tuple #[.slice A bs.length c, x]) ∧ OwnB w' w.heap.size A c bs ∧ Ext w w'

def sealB (bs : List UInt8) : List UInt8 := bs ++ leB 4 (crcSum bs)
def innerB (body : List UInt8) : List UInt8 := leB 2 body.length ++ body
def boxB (body : List UInt8) : List UInt8 := sealB (innerB body)
theorem sealB_length (bs : List UInt8) : (sealB bs).length = bs.length + 4 := by simp [sealB, leB_length]
theorem innerB_length (bs : List UInt8) : (innerB bs).length = bs.length + 2 := by simp [innerB, leB_length]; omega
theorem boxB_length (bs : List UInt8) : (boxB bs).length = bs.length + 6 := by rw [boxB, sealB_length, innerB_length]

set_option maxHeartbeats 400000 in
theorem rseal_calls (A : Option Addr) (c : Nat) (bs : List UInt8) (w : World) (hb : RdB w A bs) (hl : bs.length ≤ 1000000) :
    Calls Tryd.prog 30 #[.slice A bs.length c] w (RetB w (sealB bs)) := by
  have Hb := Lib.hid hb
  clear hb
  have hs := crcSum_lt bs
  go_enter Tryd.func30, Tryd.ntmps30
  go_wp2_with (at_builtin; refine cpyE w rfl (.tmp 3) (.tmp 4) rfl rfl A c bs rfl ?_ Hb.out ?c2; intro A1 c1 w1 h1 e1; have H1 := Lib.hid h1; have E1 := Lib.hid e1; clear h1 e1)
  case c2 => omega
  refine (rsum_calls A c bs _ (Hb.out.ext E1.out) hl).mono ?_
  rintro e w' ⟨rfl, rfl⟩
  have HS : Hid (sealB bs = bs ++ leB 4 (crcSum bs)) := rfl
  generalize crcSum bs = q at *
  go_wp2_with fail
  refine (bytes_calls 4 q _ (by omega) (by omega)).mono ?_
  rintro e w2 ⟨A2, c2, rfl, h2, e2⟩
  have hl4 : (leB 4 q).length ≤ 8 := by rw [leB_length]; omega
  generalize leB 4 q = L at *
  have H2 := Lib.hid h2; have E2 := Lib.hid (E1.out.trans e2); have H12 := Lib.hid (H1.out.ext e2); clear h2 e2
  go_wp2_with (at_builtin; refine appB _ rfl (.tmp 5) (.tmp 9) rfl w.heap.size A1 c1 bs rfl A2 c2 L rfl ?_ H12.out H2.out.rd ?c3 E2.out.size; intro A3 c3 w3 h3 g3 k3; have H3 := Lib.hid h3; have E3 : Hid (Ext w w3) := E2.out.grown g3 (fun g hg => (H1.out.base_ g hg).1); clear h3 g3 k3)
  case c3 => omega
  go_ret
  rw [HS.out]
  exact ⟨A3, c3, by rw [List.length_append]; rfl, H3.out, E3.out⟩






end Go.Proofs.YtkbjnlbbfapgdaaDoor

namespace Go.Proofs.YtkbjnlbbfapgdaaDoor
open Go.RowKit

theorem cells_setCell {w : World} {g : Nat} {cs : Array Value} {t : TypeId} (h : w.heap[g]? = some (.cells cs t (0, 0))) (i : Nat) (u : Value) :
    (w.setCell ⟨g, i, none⟩ u).heap[g]? = some (.cells (cs.setIfInBounds i u) t (0, 0)) := by
  simp [World.setCell, Array.getElem?_modify, h]
theorem grown_setCellC (w : World) (g i : Nat) (u : Value) : w.grownBy (w.setCell ⟨g, i, none⟩ u) (some g) :=
  ⟨rfl, rfl, rfl, by simp [World.setCell], fun k _ hne => Below.heap_setCell _ _ _ _ (by intro e; subst e; exact hne rfl)⟩
theorem grown_drewN (w : World) (n : Nat) (r : Option Nat) : w.grownBy (w.drewN n) r := ⟨rfl, rfl, rfl, Nat.le_refl _, fun _ _ _ => rfl⟩
theorem grown_refl (w : World) (r : Option Nat) : w.grownBy w r := World.grownBy.refl w r

theorem OwnB.store {w : World} {base : Nat} {g c : Nat} {bs : List UInt8} (h : OwnB w base (some ⟨g, 0, none⟩) c bs) (j : Nat) (u : UInt8) :
    OwnB (w.setCell ⟨g, j, none⟩ (.int .u8 (u.toNat : Int))) base (some ⟨g, 0, none⟩) c (bs.set j u) := by
  have h' := World.ownsRow.stored h j (bv u)
  unfold OwnB
  rw [List.length_set, List.map_set]
  exact h'.1
theorem block_cell {w : World} {g : Nat} {cs : Array Value} {t : TypeId} (h : w.heap[g]? = some (.cells cs t (0, 0))) (i : Nat) : w.cell? ⟨g, i, none⟩ = cs[i]? := by
  simp [World.cell?, h]
theorem block_frozen {w : World} {g : Nat} {cs : Array Value} {t : TypeId} (h : w.heap[g]? = some (.cells cs t (0, 0))) (i : Nat) : w.frozen? ⟨g, i, none⟩ = false := by
  simp [World.frozen?, h]
theorem block_lt {w : World} {g : Nat} {o : Obj} (hb : w.heap[g]? = some o) : g < w.heap.size := by
  rcases Nat.lt_or_ge g w.heap.size with hl | hg
  · exact hl
  · rw [Array.getElem?_eq_none hg] at hb; cases hb

/-- block g is a cursor over bs, at k, with that error -/
def Cur (w : World) (g : Nat) (bs : List UInt8) (k : Nat) (er : Int) : Prop :=
  ∃ A c, w.heap[g]? = some (.cells #[.slice A bs.length c, .int .i64 k, .int .i64 er] 127 (0, 0)) ∧ RdB w A bs ∧ bs.length ≤ c ∧ c ≤ 9223372036854775807 ∧ (∀ ad, A = some ad → ad.block ≠ g) ∧ k ≤ bs.length

theorem Cur.ext {w w1 : World} {g : Nat} {bs : List UInt8} {k : Nat} {er : Int} (h : Cur w g bs k er) (he : Ext w w1) : Cur w1 g bs k er := by
  obtain ⟨A, c, h1, h2, h3⟩ := h
  exact ⟨A, c, he.block h1, h2.ext he, h3⟩
theorem Cur.lt {w : World} {g : Nat} {bs : List UInt8} {k : Nat} {er : Int} (h : Cur w g bs k er) : g < w.heap.size := by
  obtain ⟨A, c, h1, _⟩ := h
  exact block_lt h1
theorem Cur.drewN {w : World} {g : Nat} {bs : List UInt8} {k : Nat} {er : Int} (h : Cur w g bs k er) (n : Nat) : Cur (w.drewN n) g bs k er := h.ext ((Ext.refl w).drewN n)

/-- take, by definition -/
def takeC (bs : List UInt8) (k : Nat) (er : Int) (n : Nat) : List UInt8 × Nat × Int :=
  if er ≠ 0 then ([], k, er) else if bs.length - k < n then ([], k, 1) else ((bs.drop k).take n, k + n, 0)

/-- what a cursor's call leaves: bytes that can be read -/
def RetCur (w : World) (g : Nat) (bs : List UInt8) (r : List UInt8 × Nat × Int) (e : Ending) (w' : World) : Prop :=
  ∃ A c, e = .returned (.slice A r.1.length c) ∧ RdB w' A r.1 ∧ r.1.length ≤ c ∧ w.grownBy w' (some g) ∧ Cur w' g bs r.2.1 r.2.2
/-- what a cursor's call leaves: a value -/
def RetCV (w : World) (g : Nat) (bs : List UInt8) (v : Value) (k : Nat) (er : Int) (e : Ending) (w' : World) : Prop :=
  e = .returned v ∧ w.grownBy w' (some g) ∧ Cur w' g bs k er

theorem Cur.setAt {w : World} {g : Nat} {bs : List UInt8} {k : Nat} {er : Int} (h : Cur w g bs k er) (k' : Nat) (hk : k' ≤ bs.length) : Cur (w.setCell ⟨g, 1, none⟩ (.int .i64 k')) g bs k' er := by
  obtain ⟨A, c, h1, h2, h3, h4, h5, _⟩ := h
  exact ⟨A, c, cells_setCell h1 1 _, h2.grown (grown_setCellC _ _ _ _) (fun ad ha hb => h5 ad ha (by injection hb)), h3, h4, h5, hk⟩
theorem Cur.setErr {w : World} {g : Nat} {bs : List UInt8} {k : Nat} {er : Int} (h : Cur w g bs k er) (er' : Int) : Cur (w.setCell ⟨g, 2, none⟩ (.int .i64 er')) g bs k er' := by
  obtain ⟨A, c, h1, h2, h3, h4, h5, h6⟩ := h
  exact ⟨A, c, cells_setCell h1 2 _, h2.grown (grown_setCellC _ _ _ _) (fun ad ha hb => h5 ad ha (by injection hb)), h3, h4, h5, h6⟩

set_option maxHeartbeats 400000 in
theorem newCursor_calls (A : Option Addr) (c : Nat) (bs : List UInt8) (w : World) (hb : RdB w A bs) (hl : bs.length ≤ 1000000) :
    Calls Tryd.prog 73 #[.slice A bs.length c] w fun e w' => ∃ g, e = .returned (.pointer (some ⟨g, 0, none⟩)) ∧ w.heap.size ≤ g ∧ Cur w' g bs 0 0 ∧ Ext w w' := by
  have Hb := Lib.hid hb
  clear hb
  go_enter Tryd.func73, Tryd.ntmps73
  go_wp2_with (at_builtin; refine cpyB w rfl (.const (.slice none 0 0)) (.tmp 3) rfl rfl A c bs rfl ?_ Hb.out ?c2; intro A1 c1 w1 h1 e1; have H1 := Lib.hid h1; have E1 := Lib.hid e1; clear h1 e1)
  case c2 => omega
  go_ret
  have H := (Ext.refl w1).alloc (.cells #[Value.slice A1 bs.length c1, Value.int IntKind.i64 0, Value.int IntKind.i64 0] 127)
  refine ⟨w1.heap.size, rfl, E1.out.size, ⟨A1, c1, heap_new _ _, (H1.out.ext H).rd, H1.out.cap, H1.out.capmax, ?_, Nat.zero_le _⟩, E1.out.trans H⟩
  intro ad had hbl
  have := (H1.out.base_ w1.heap.size (by rw [had]; simp [blk, hbl])).2
  omega

set_option maxHeartbeats 400000 in
theorem take_calls (g : Nat) (bs : List UInt8) (k : Nat) (er : Int) (n : Nat) (w : World) (hc : Cur w g bs k er) (hl : bs.length ≤ 1000000) (hn : n ≤ 9223372036854775807) :
    Calls Tryd.prog 111 #[.pointer (some ⟨g, 0, none⟩), .int .i64 n] w (RetCur w g bs (takeC bs k er n)) := by
  have Hc := Lib.hid hc
  obtain ⟨A, c, hblk, hrd, hcap, hcm, hne, hk⟩ := hc
  have c0 : w.cell? ⟨g, 0, none⟩ = some (.slice A bs.length c) := block_cell hblk 0
  have c1 : w.cell? ⟨g, 1, none⟩ = some (.int .i64 k) := block_cell hblk 1
  have c2 : w.cell? ⟨g, 2, none⟩ = some (.int .i64 er) := block_cell hblk 2
  have f1 : w.frozen? ⟨g, 1, none⟩ = false := block_frozen hblk 1
  have f2 : w.frozen? ⟨g, 2, none⟩ = false := block_frozen hblk 2
  have Hblk := Lib.hid hblk
  have Hrd := Lib.hid hrd
  have Hne := Lib.hid hne
  clear hblk hrd hne
  by_cases he : er = 0
  · subst he
    by_cases hs : bs.length - k < n
    · have HT : Hid (takeC bs k 0 n = ([], k, 1)) := by show _ = _; simp [takeC, hs]
      have hs' : (bs.length : Int) - k < n := by omega
      rw [HT.out]
      go_enter Tryd.func111, Tryd.ntmps111
      go_wp2
      go_quiet (fail)
      go_wp2
      go_ret
      exact ⟨none, 0, rfl, RdB.nil, Nat.le_refl _, (grown_drewN w nq _).trans (grown_setCellC _ _ _ _), (Hc.out.drewN nq).setErr 1⟩
    · have hkn : k + n ≤ bs.length := by omega
      have HT : Hid (takeC bs k 0 n = ((bs.drop k).take n, k + n, 0)) := by show _ = _; simp [takeC, hs]
      rw [HT.out]
      clear hs
      go_enter Tryd.func111, Tryd.ntmps111
      go_wp2
      go_quiet (fail)
      go_wp2
      have s1 : IntKind.i64.wrap ((k : Int) + n) = (k : Int) + n := IntWalk.i64_in _ (by omega)
      have s2 : (0 : Int) ≤ (k : Int) + n := by omega
      have s3 : ((k : Int) + n).toNat = k + n := by omega
      go_quiet (fail)
      clear s1 s2 s3
      have HL : Hid (((bs.drop k).take n).length = n) := by show _ = _; simp; omega
      have HG := fun a b : Nat => Lib.hid (((grown_drewN w (a + b) _).trans (grown_setCellC _ g 1 (.int .i64 ((k + n : Nat) : Int)))))
      have HC := fun a b : Nat => Lib.hid ((Hc.out.drewN (a + b)).setAt (k + n) hkn)
      by_cases hck : c = k
      · subst hck
        go_wp2
        go_ret
        obtain rfl : n = 0 := by omega
        exact ⟨A, c - c, by rw [HL.out]; rfl, by simp [RdB.nil], by simp, (HG _ _).out, (HC _ _).out⟩
      · go_wp2
        go_ret
        refine ⟨_, c - k, by rw [HL.out]; rfl, ?_, by rw [HL.out]; omega, (HG _ _).out, (HC _ _).out⟩
        have hr := ((Hrd.out.cut k c hcap).take n)
        rw [if_neg hck] at hr
        refine hr.grown (HG _ _).out ?_
        intro ad had hbl
        cases A with
        | none => cases had
        | some a0 =>
          simp only [Option.map_some, Option.some.injEq] at had hbl
          exact Hne.out a0 rfl (by rw [← hbl, ← had, block_add])
  · have h0 : (er != 0) = true := by simpa using he
    have HT : Hid (takeC bs k er n = ([], k, er)) := by show _ = _; simp [takeC, he]
    rw [HT.out]
    clear he
    go_enter Tryd.func111, Tryd.ntmps111
    go_wp2
    go_ret
    exact ⟨none, 0, rfl, RdB.nil, Nat.le_refl _, grown_refl _ _, Hc.out⟩

theorem oknown_calls (n : Int) (w : World) :
   Calls Tryd.prog 110 #[.int .i64 n] w fun e w' => e = .returned (.bool (okW n)) ∧ w = w' := by
  by_cases h1 : n = 1
  · subst h1; go_enter Tryd.func110, Tryd.ntmps110; go_wp2; go_ret; exact ⟨rfl, rfl⟩
  by_cases h2 : n = 2
  · subst h2; go_enter Tryd.func110, Tryd.ntmps110; go_wp2; go_ret; exact ⟨rfl, rfl⟩
  by_cases h4 : n = 4
  · subst h4; go_enter Tryd.func110, Tryd.ntmps110; go_wp2; go_ret; exact ⟨rfl, rfl⟩
  by_cases h8 : n = 8
  · subst h8; go_enter Tryd.func110, Tryd.ntmps110; go_wp2; go_ret; exact ⟨rfl, rfl⟩
  have e1 : (n == 1) = false := by simpa using h1
  have e2 : (n == 2) = false := by simpa using h2
  have e4 : (n == 4) = false := by simpa using h4
  have e8 : (n == 8) = false := by simpa using h8
  have ho : okW n = false := by simp [okW, e1, e2, e4, e8]
  rw [ho]
  go_enter Tryd.func110, Tryd.ntmps110
  go_wp2
  go_ret
  exact ⟨rfl, rfl⟩

/-- Number, by definition -/
def numC (bs : List UInt8) (k : Nat) (er : Int) (width : Int) : Nat × Nat × Int :=
  if okW width then (leN (takeC bs k er width.toNat).1, (takeC bs k er width.toNat).2) else (0, k, er)

theorem orI (i : Nat) (x y : Int) (P : Nat) (hP : P = 2 ^ i) (hx0 : 0 ≤ x) (hx : x % P = 0) (hy0 : 0 ≤ y) (hy : y < P) (h64 : x + y < 18446744073709551616) :
    bits BinOp.or IntKind.u64 x y = x + y := by
  obtain ⟨a, rfl⟩ := Int.eq_ofNat_of_zero_le hx0
  obtain ⟨b, rfl⟩ := Int.eq_ofNat_of_zero_le hy0
  rw [u64_or_nat a b (by omega) (by omega), nat_join i a b (by rw [← hP]; omega) (by rw [← hP]; omega)]
  omega

theorem or8 (b0 b1 b2 b3 b4 b5 b6 b7 : Nat) (l0 : b0 < 256) (l1 : b1 < 256) (l2 : b2 < 256) (l3 : b3 < 256) (l4 : b4 < 256) (l5 : b5 < 256) (l6 : b6 < 256) (l7 : b7 < 256) :
    (bits BinOp.or IntKind.u64 (bits BinOp.or IntKind.u64 (bits BinOp.or IntKind.u64 (bits BinOp.or IntKind.u64 (bits BinOp.or IntKind.u64 (bits BinOp.or IntKind.u64 (bits BinOp.or IntKind.u64 (bits BinOp.or IntKind.u64 0 ((b7 : Int) * 72057594037927936)) ((b6 : Int) * 281474976710656)) ((b5 : Int) * 1099511627776)) ((b4 : Int) * 4294967296)) ((b3 : Int) * 16777216)) ((b2 : Int) * 65536)) ((b1 : Int) * 256)) (b0 : Int)) = ((b0 + b1 * 256 + b2 * 65536 + b3 * 16777216 + b4 * 4294967296 + b5 * 1099511627776 + b6 * 281474976710656 + b7 * 72057594037927936 : Nat) : Int) := by

  rw [show bits BinOp.or IntKind.u64 (0) ((b7 : Int) * 72057594037927936) = 0 + ((b7 : Int) * 72057594037927936) from orI 64 _ _ 18446744073709551616 (by rfl) (by omega) (by omega) (by omega) (by omega) (by omega)]
  rw [show bits BinOp.or IntKind.u64 (0 + ((b7 : Int) * 72057594037927936)) ((b6 : Int) * 281474976710656) = 0 + ((b7 : Int) * 72057594037927936) + ((b6 : Int) * 281474976710656) from orI 56 _ _ 72057594037927936 (by rfl) (by omega) (by omega) (by omega) (by omega) (by omega)]
  rw [show bits BinOp.or IntKind.u64 (0 + ((b7 : Int) * 72057594037927936) + ((b6 : Int) * 281474976710656)) ((b5 : Int) * 1099511627776) = 0 + ((b7 : Int) * 72057594037927936) + ((b6 : Int) * 281474976710656) + ((b5 : Int) * 1099511627776) from orI 48 _ _ 281474976710656 (by rfl) (by omega) (by omega) (by omega) (by omega) (by omega)]
  rw [show bits BinOp.or IntKind.u64 (0 + ((b7 : Int) * 72057594037927936) + ((b6 : Int) * 281474976710656) + ((b5 : Int) * 1099511627776)) ((b4 : Int) * 4294967296) = 0 + ((b7 : Int) * 72057594037927936) + ((b6 : Int) * 281474976710656) + ((b5 : Int) * 1099511627776) + ((b4 : Int) * 4294967296) from orI 40 _ _ 1099511627776 (by rfl) (by omega) (by omega) (by omega) (by omega) (by omega)]
  rw [show bits BinOp.or IntKind.u64 (0 + ((b7 : Int) * 72057594037927936) + ((b6 : Int) * 281474976710656) + ((b5 : Int) * 1099511627776) + ((b4 : Int) * 4294967296)) ((b3 : Int) * 16777216) = 0 + ((b7 : Int) * 72057594037927936) + ((b6 : Int) * 281474976710656) + ((b5 : Int) * 1099511627776) + ((b4 : Int) * 4294967296) + ((b3 : Int) * 16777216) from orI 32 _ _ 4294967296 (by rfl) (by omega) (by omega) (by omega) (by omega) (by omega)]
  rw [show bits BinOp.or IntKind.u64 (0 + ((b7 : Int) * 72057594037927936) + ((b6 : Int) * 281474976710656) + ((b5 : Int) * 1099511627776) + ((b4 : Int) * 4294967296) + ((b3 : Int) * 16777216)) ((b2 : Int) * 65536) = 0 + ((b7 : Int) * 72057594037927936) + ((b6 : Int) * 281474976710656) + ((b5 : Int) * 1099511627776) + ((b4 : Int) * 4294967296) + ((b3 : Int) * 16777216) + ((b2 : Int) * 65536) from orI 24 _ _ 16777216 (by rfl) (by omega) (by omega) (by omega) (by omega) (by omega)]
  rw [show bits BinOp.or IntKind.u64 (0 + ((b7 : Int) * 72057594037927936) + ((b6 : Int) * 281474976710656) + ((b5 : Int) * 1099511627776) + ((b4 : Int) * 4294967296) + ((b3 : Int) * 16777216) + ((b2 : Int) * 65536)) ((b1 : Int) * 256) = 0 + ((b7 : Int) * 72057594037927936) + ((b6 : Int) * 281474976710656) + ((b5 : Int) * 1099511627776) + ((b4 : Int) * 4294967296) + ((b3 : Int) * 16777216) + ((b2 : Int) * 65536) + ((b1 : Int) * 256) from orI 16 _ _ 65536 (by rfl) (by omega) (by omega) (by omega) (by omega) (by omega)]
  rw [show bits BinOp.or IntKind.u64 (0 + ((b7 : Int) * 72057594037927936) + ((b6 : Int) * 281474976710656) + ((b5 : Int) * 1099511627776) + ((b4 : Int) * 4294967296) + ((b3 : Int) * 16777216) + ((b2 : Int) * 65536) + ((b1 : Int) * 256)) (b0 : Int) = 0 + ((b7 : Int) * 72057594037927936) + ((b6 : Int) * 281474976710656) + ((b5 : Int) * 1099511627776) + ((b4 : Int) * 4294967296) + ((b3 : Int) * 16777216) + ((b2 : Int) * 65536) + ((b1 : Int) * 256) + (b0 : Int) from orI 8 _ _ 256 (by rfl) (by omega) (by omega) (by omega) (by omega) (by omega)]
  omega

set_option maxHeartbeats 400000 in
theorem number8 (g : Nat) (bs : List UInt8) (k : Nat) (er : Int) (w : World) (hc : Cur w g bs k er) (hl : bs.length ≤ 1000000) :
    Calls Tryd.prog 74 #[.pointer (some ⟨g, 0, none⟩), .int .i64 8] w (RetCV w g bs (.int .u64 (leN (takeC bs k er 8).1)) (takeC bs k er 8).2.1 (takeC bs k er 8).2.2) := by
  have Hc := Lib.hid hc
  clear hc
  have hz : (takeC bs k er 8).1.length ≠ 8 → (takeC bs k er 8).1 = [] := by
    unfold takeC; split
    · intro _; rfl
    · split
      · intro _; rfl
      · intro h; exfalso; apply h; simp; omega
  go_enter Tryd.func74, Tryd.ntmps74
  go_wp2_with fail
  refine (oknown_calls _ _).mono ?_
  rintro e w' ⟨rfl, rfl⟩
  go_wp2_with fail
  refine (take_calls g bs k er 8 _ Hc.out hl (by omega)).mono ?_
  rintro e w1 ⟨A, c, rfl, hr, hcap, hg, hcur⟩
  generalize takeC bs k er 8 = r at *
  obtain ⟨l, k', er'⟩ := r
  have HG := Lib.hid hg
  have HC := Lib.hid hcur
  have HR := Lib.hid hr
  have HZ := Lib.hid hz
  clear hg hcur hr hz
  dsimp only at *
  by_cases hk : l.length = 8
  · match l, hk with
    | [b0, b1, b2, b3, b4, b5, b6, b7], _ =>
      obtain ⟨ad, rfl, q0⟩ := HR.out.at_ (k := 0) (by simp)
      have qs : ∀ i, (hi : i < 8) → w1.cell? (ad.add i) = some (.int .u8 (([b0, b1, b2, b3, b4, b5, b6, b7][i]).toNat : Int)) := by
        intro i hi
        obtain ⟨ad', h, q⟩ := HR.out.at_ (k := i) (by simpa using hi)
        cases h
        exact q
      have q0' : w1.cell? ad = some (.int .u8 (b0.toNat : Int)) := q0
      have q1 : w1.cell? { block := ad.block, off := ad.off + 1 } = some (.int .u8 (b1.toNat : Int)) := qs 1 (by omega)
      have q2 : w1.cell? { block := ad.block, off := ad.off + 2 } = some (.int .u8 (b2.toNat : Int)) := qs 2 (by omega)
      have q3 : w1.cell? { block := ad.block, off := ad.off + 3 } = some (.int .u8 (b3.toNat : Int)) := qs 3 (by omega)
      have q4 : w1.cell? { block := ad.block, off := ad.off + 4 } = some (.int .u8 (b4.toNat : Int)) := qs 4 (by omega)
      have q5 : w1.cell? { block := ad.block, off := ad.off + 5 } = some (.int .u8 (b5.toNat : Int)) := qs 5 (by omega)
      have q6 : w1.cell? { block := ad.block, off := ad.off + 6 } = some (.int .u8 (b6.toNat : Int)) := qs 6 (by omega)
      have q7 : w1.cell? { block := ad.block, off := ad.off + 7 } = some (.int .u8 (b7.toNat : Int)) := qs 7 (by omega)
      have l0 : b0.toNat < 256 := b0.toNat_lt
      have l1 : b1.toNat < 256 := b1.toNat_lt
      have l2 : b2.toNat < 256 := b2.toNat_lt
      have l3 : b3.toNat < 256 := b3.toNat_lt
      have l4 : b4.toNat < 256 := b4.toNat_lt
      have l5 : b5.toNat < 256 := b5.toNat_lt
      have l6 : b6.toNat < 256 := b6.toNat_lt
      have l7 : b7.toNat < 256 := b7.toNat_lt
      clear qs q0
      rw [show [b0, b1, b2, b3, b4, b5, b6, b7].length = 8 from rfl]
      go_wp2
      go_ret
      refine ⟨?_, HG.out, HC.out⟩
      refine (ret_int (or8 b0.toNat b1.toNat b2.toNat b3.toNat b4.toNat b5.toNat b6.toNat b7.toNat l0 l1 l2 l3 l4 l5 l6 l7)).trans (ret_int ?_)
      simp only [leN]
      omega
  · have hb : ((l.length : Int) != 8) = true := by rw [bne_iff_ne]; omega
    have Hk := Lib.hid hk
    clear hk
    go_wp2
    go_ret
    refine ⟨?_, HG.out, HC.out⟩
    rw [HZ.out Hk.out]; rfl

theorem or4 (b0 b1 b2 b3 : Nat) (l0 : b0 < 256) (l1 : b1 < 256) (l2 : b2 < 256) (l3 : b3 < 256) :
    (bits BinOp.or IntKind.u64 (bits BinOp.or IntKind.u64 (bits BinOp.or IntKind.u64 (bits BinOp.or IntKind.u64 0 ((b3 : Int) * 16777216)) ((b2 : Int) * 65536)) ((b1 : Int) * 256)) (b0 : Int)) = ((b0 + b1 * 256 + b2 * 65536 + b3 * 16777216 : Nat) : Int) := by

  rw [show bits BinOp.or IntKind.u64 (0) ((b3 : Int) * 16777216) = 0 + ((b3 : Int) * 16777216) from orI 32 _ _ 4294967296 (by rfl) (by omega) (by omega) (by omega) (by omega) (by omega)]
  rw [show bits BinOp.or IntKind.u64 (0 + ((b3 : Int) * 16777216)) ((b2 : Int) * 65536) = 0 + ((b3 : Int) * 16777216) + ((b2 : Int) * 65536) from orI 24 _ _ 16777216 (by rfl) (by omega) (by omega) (by omega) (by omega) (by omega)]
  rw [show bits BinOp.or IntKind.u64 (0 + ((b3 : Int) * 16777216) + ((b2 : Int) * 65536)) ((b1 : Int) * 256) = 0 + ((b3 : Int) * 16777216) + ((b2 : Int) * 65536) + ((b1 : Int) * 256) from orI 16 _ _ 65536 (by rfl) (by omega) (by omega) (by omega) (by omega) (by omega)]
  rw [show bits BinOp.or IntKind.u64 (0 + ((b3 : Int) * 16777216) + ((b2 : Int) * 65536) + ((b1 : Int) * 256)) (b0 : Int) = 0 + ((b3 : Int) * 16777216) + ((b2 : Int) * 65536) + ((b1 : Int) * 256) + (b0 : Int) from orI 8 _ _ 256 (by rfl) (by omega) (by omega) (by omega) (by omega) (by omega)]
  omega

set_option maxHeartbeats 400000 in
theorem number4 (g : Nat) (bs : List UInt8) (k : Nat) (er : Int) (w : World) (hc : Cur w g bs k er) (hl : bs.length ≤ 1000000) :
    Calls Tryd.prog 74 #[.pointer (some ⟨g, 0, none⟩), .int .i64 4] w (RetCV w g bs (.int .u64 (leN (takeC bs k er 4).1)) (takeC bs k er 4).2.1 (takeC bs k er 4).2.2) := by
  have Hc := Lib.hid hc
  clear hc
  have hz : (takeC bs k er 4).1.length ≠ 4 → (takeC bs k er 4).1 = [] := by
    unfold takeC; split
    · intro _; rfl
    · split
      · intro _; rfl
      · intro h; exfalso; apply h; simp; omega
  go_enter Tryd.func74, Tryd.ntmps74
  go_wp2_with fail
  refine (oknown_calls _ _).mono ?_
  rintro e w' ⟨rfl, rfl⟩
  go_wp2_with fail
  refine (take_calls g bs k er 4 _ Hc.out hl (by omega)).mono ?_
  rintro e w1 ⟨A, c, rfl, hr, hcap, hg, hcur⟩
  generalize takeC bs k er 4 = r at *
  obtain ⟨l, k', er'⟩ := r
  have HG := Lib.hid hg
  have HC := Lib.hid hcur
  have HR := Lib.hid hr
  have HZ := Lib.hid hz
  clear hg hcur hr hz
  dsimp only at *
  by_cases hk : l.length = 4
  · match l, hk with
    | [b0, b1, b2, b3], _ =>
      obtain ⟨ad, rfl, q0⟩ := HR.out.at_ (k := 0) (by simp)
      have qs : ∀ i, (hi : i < 4) → w1.cell? (ad.add i) = some (.int .u8 (([b0, b1, b2, b3][i]).toNat : Int)) := by
        intro i hi
        obtain ⟨ad', h, q⟩ := HR.out.at_ (k := i) (by simpa using hi)
        cases h
        exact q
      have q0' : w1.cell? ad = some (.int .u8 (b0.toNat : Int)) := q0
      have q1 : w1.cell? { block := ad.block, off := ad.off + 1 } = some (.int .u8 (b1.toNat : Int)) := qs 1 (by omega)
      have q2 : w1.cell? { block := ad.block, off := ad.off + 2 } = some (.int .u8 (b2.toNat : Int)) := qs 2 (by omega)
      have q3 : w1.cell? { block := ad.block, off := ad.off + 3 } = some (.int .u8 (b3.toNat : Int)) := qs 3 (by omega)
      have l0 : b0.toNat < 256 := b0.toNat_lt
      have l1 : b1.toNat < 256 := b1.toNat_lt
      have l2 : b2.toNat < 256 := b2.toNat_lt
      have l3 : b3.toNat < 256 := b3.toNat_lt
      clear qs q0
      rw [show [b0, b1, b2, b3].length = 4 from rfl]
      go_wp2
      go_ret
      refine ⟨?_, HG.out, HC.out⟩
      refine (ret_int (or4 b0.toNat b1.toNat b2.toNat b3.toNat l0 l1 l2 l3)).trans (ret_int ?_)
      simp only [leN]
      omega
  · have hb : ((l.length : Int) != 4) = true := by rw [bne_iff_ne]; omega
    have Hk := Lib.hid hk
    clear hk
    go_wp2
    go_ret
    refine ⟨?_, HG.out, HC.out⟩
    rw [HZ.out Hk.out]; rfl

theorem or2 (b0 b1 : Nat) (l0 : b0 < 256) (l1 : b1 < 256) :
    (bits BinOp.or IntKind.u64 (bits BinOp.or IntKind.u64 0 ((b1 : Int) * 256)) (b0 : Int)) = ((b0 + b1 * 256 : Nat) : Int) := by

  rw [show bits BinOp.or IntKind.u64 (0) ((b1 : Int) * 256) = 0 + ((b1 : Int) * 256) from orI 16 _ _ 65536 (by rfl) (by omega) (by omega) (by omega) (by omega) (by omega)]
  rw [show bits BinOp.or IntKind.u64 (0 + ((b1 : Int) * 256)) (b0 : Int) = 0 + ((b1 : Int) * 256) + (b0 : Int) from orI 8 _ _ 256 (by rfl) (by omega) (by omega) (by omega) (by omega) (by omega)]
  omega

set_option maxHeartbeats 400000 in
theorem number2 (g : Nat) (bs : List UInt8) (k : Nat) (er : Int) (w : World) (hc : Cur w g bs k er) (hl : bs.length ≤ 1000000) :
    Calls Tryd.prog 74 #[.pointer (some ⟨g, 0, none⟩), .int .i64 2] w (RetCV w g bs (.int .u64 (leN (takeC bs k er 2).1)) (takeC bs k er 2).2.1 (takeC bs k er 2).2.2) := by
  have Hc := Lib.hid hc
  clear hc
  have hz : (takeC bs k er 2).1.length ≠ 2 → (takeC bs k er 2).1 = [] := by
    unfold takeC; split
    · intro _; rfl
    · split
      · intro _; rfl
      · intro h; exfalso; apply h; simp; omega
  go_enter Tryd.func74, Tryd.ntmps74
  go_wp2_with fail
  refine (oknown_calls _ _).mono ?_
  rintro e w' ⟨rfl, rfl⟩
  go_wp2_with fail
  refine (take_calls g bs k er 2 _ Hc.out hl (by omega)).mono ?_
  rintro e w1 ⟨A, c, rfl, hr, hcap, hg, hcur⟩
  generalize takeC bs k er 2 = r at *
  obtain ⟨l, k', er'⟩ := r
  have HG := Lib.hid hg
  have HC := Lib.hid hcur
  have HR := Lib.hid hr
  have HZ := Lib.hid hz
  clear hg hcur hr hz
  dsimp only at *
  by_cases hk : l.length = 2
  · match l, hk with
    | [b0, b1], _ =>
      obtain ⟨ad, rfl, q0⟩ := HR.out.at_ (k := 0) (by simp)
      have qs : ∀ i, (hi : i < 2) → w1.cell? (ad.add i) = some (.int .u8 (([b0, b1][i]).toNat : Int)) := by
        intro i hi
        obtain ⟨ad', h, q⟩ := HR.out.at_ (k := i) (by simpa using hi)
        cases h
        exact q
      have q0' : w1.cell? ad = some (.int .u8 (b0.toNat : Int)) := q0
      have q1 : w1.cell? { block := ad.block, off := ad.off + 1 } = some (.int .u8 (b1.toNat : Int)) := qs 1 (by omega)
      have l0 : b0.toNat < 256 := b0.toNat_lt
      have l1 : b1.toNat < 256 := b1.toNat_lt
      clear qs q0
      rw [show [b0, b1].length = 2 from rfl]
      go_wp2
      go_ret
      refine ⟨?_, HG.out, HC.out⟩
      refine (ret_int (or2 b0.toNat b1.toNat l0 l1)).trans (ret_int ?_)
      simp only [leN]
      omega
  · have hb : ((l.length : Int) != 2) = true := by rw [bne_iff_ne]; omega
    have Hk := Lib.hid hk
    clear hk
    go_wp2
    go_ret
    refine ⟨?_, HG.out, HC.out⟩
    rw [HZ.out Hk.out]; rfl

theorem or1 (b0 : Nat) (l0 : b0 < 256) :
    (bits BinOp.or IntKind.u64 0 (b0 : Int)) = ((b0 : Nat) : Int) := by

  rw [show bits BinOp.or IntKind.u64 (0) (b0 : Int) = 0 + (b0 : Int) from orI 8 _ _ 256 (by rfl) (by omega) (by omega) (by omega) (by omega) (by omega)]
  omega

set_option maxHeartbeats 400000 in
theorem number1 (g : Nat) (bs : List UInt8) (k : Nat) (er : Int) (w : World) (hc : Cur w g bs k er) (hl : bs.length ≤ 1000000) :
    Calls Tryd.prog 74 #[.pointer (some ⟨g, 0, none⟩), .int .i64 1] w (RetCV w g bs (.int .u64 (leN (takeC bs k er 1).1)) (takeC bs k er 1).2.1 (takeC bs k er 1).2.2) := by
  have Hc := Lib.hid hc
  clear hc
  have hz : (takeC bs k er 1).1.length ≠ 1 → (takeC bs k er 1).1 = [] := by
    unfold takeC; split
    · intro _; rfl
    · split
      · intro _; rfl
      · intro h; exfalso; apply h; simp; omega
  go_enter Tryd.func74, Tryd.ntmps74
  go_wp2_with fail
  refine (oknown_calls _ _).mono ?_
  rintro e w' ⟨rfl, rfl⟩
  go_wp2_with fail
  refine (take_calls g bs k er 1 _ Hc.out hl (by omega)).mono ?_
  rintro e w1 ⟨A, c, rfl, hr, hcap, hg, hcur⟩
  generalize takeC bs k er 1 = r at *
  obtain ⟨l, k', er'⟩ := r
  have HG := Lib.hid hg
  have HC := Lib.hid hcur
  have HR := Lib.hid hr
  have HZ := Lib.hid hz
  clear hg hcur hr hz
  dsimp only at *
  by_cases hk : l.length = 1
  · match l, hk with
    | [b0], _ =>
      obtain ⟨ad, rfl, q0⟩ := HR.out.at_ (k := 0) (by simp)
      have qs : ∀ i, (hi : i < 1) → w1.cell? (ad.add i) = some (.int .u8 (([b0][i]).toNat : Int)) := by
        intro i hi
        obtain ⟨ad', h, q⟩ := HR.out.at_ (k := i) (by simpa using hi)
        cases h
        exact q
      have q0' : w1.cell? ad = some (.int .u8 (b0.toNat : Int)) := q0
      have l0 : b0.toNat < 256 := b0.toNat_lt
      clear qs q0
      rw [show [b0].length = 1 from rfl]
      go_wp2
      go_ret
      refine ⟨?_, HG.out, HC.out⟩
      refine (ret_int (or1 b0.toNat l0)).trans (ret_int ?_)
      simp only [leN]
      omega
  · have hb : ((l.length : Int) != 1) = true := by rw [bne_iff_ne]; omega
    have Hk := Lib.hid hk
    clear hk
    go_wp2
    go_ret
    refine ⟨?_, HG.out, HC.out⟩
    rw [HZ.out Hk.out]; rfl

theorem cnumber_calls (g : Nat) (bs : List UInt8) (k : Nat) (er : Int) (width : Int) (w : World) (hc : Cur w g bs k er) (hl : bs.length ≤ 1000000) :
    Calls Tryd.prog 74 #[.pointer (some ⟨g, 0, none⟩), .int .i64 width] w (RetCV w g bs (.int .u64 (numC bs k er width).1) (numC bs k er width).2.1 (numC bs k er width).2.2) := by
  by_cases h1 : width = 1
  · subst h1; exact number1 g bs k er w hc hl
  by_cases h2 : width = 2
  · subst h2; exact number2 g bs k er w hc hl
  by_cases h4 : width = 4
  · subst h4; exact number4 g bs k er w hc hl
  by_cases h8 : width = 8
  · subst h8; exact number8 g bs k er w hc hl
  have ho : okW width = false := by simp [okW, h1, h2, h4, h8]
  have hn : numC bs k er width = (0, k, er) := by simp [numC, ho]
  rw [hn]
  have Ho := Lib.hid ho
  have Hc := Lib.hid hc
  clear ho hc hn h1 h2 h4 h8
  go_enter Tryd.func74, Tryd.ntmps74
  go_wp2_with fail
  refine (oknown_calls _ _).mono ?_
  rintro e w' ⟨rfl, rfl⟩
  rw [Ho.out]
  go_wp2_with fail
  go_ret
  exact ⟨rfl, grown_refl _ _, Hc.out⟩
end Go.Proofs.YtkbjnlbbfapgdaaDoor

namespace Go.Proofs.YtkbjnlbbfapgdaaDoor
open Go.RowKit

theorem run_str (w : World) (A : Option Addr) (c : Nat) (l : List UInt8) (h : RdB w A l) : (convert 42 9 (.slice A l.length c)).run Tryd.prog w = .ok (.string ⟨l.toArray⟩) w := by
  cases A with
  | none =>
    have hn : l = [] := by
      cases l with
      | nil => rfl
      | cons y l => obtain ⟨ad, h, _⟩ := h 0 (bv y) (by simp); cases h
    subst hn
    exact run_convert_bytes_nil w _ _ Tryd.underlying42 Tryd.underlying5 0 c _ Tryd.underlying9
  | some a =>
    refine run_convert_bytes_back w _ _ _ a c l Tryd.underlying42 Tryd.underlying5 Tryd.underlying9 ?_
    intro j hj
    obtain ⟨ad, hh, hq⟩ := h.at_ hj
    cases hh
    exact hq

theorem takeC_len (bs : List UInt8) (k : Nat) (er : Int) (n : Nat) : (takeC bs k er n).1.length ≤ bs.length := by
  unfold takeC; split
  · simp
  · split
    · simp
    · simp; omega

/-- Bytes, by definition -/
def bytesC (bs : List UInt8) (k : Nat) (er : Int) (n : Int) : List UInt8 × Nat × Int :=
  if n ≤ 0 then ([], k, er) else takeC bs k er n.toNat

def RetCB (w : World) (g : Nat) (bs : List UInt8) (r : List UInt8 × Nat × Int) (e : Ending) (w' : World) : Prop :=
  ∃ A c, e = .returned (.slice A r.1.length c) ∧ OwnB w' w.heap.size A c r.1 ∧ w.grownBy w' (some g) ∧ Cur w' g bs r.2.1 r.2.2


/-- Text, by definition -/
def textC (bs : List UInt8) (k : Nat) (er : Int) (width most : Int) : List UInt8 × Nat × Int :=
  if (numC bs k er width).2.2 ≠ 0 then ([], (numC bs k er width).2)
  else if most < 0 ∨ most < (numC bs k er width).1 then ([], (numC bs k er width).2.1, 2)
  else takeC bs (numC bs k er width).2.1 0 (numC bs k er width).1

theorem numC_lt (bs : List UInt8) (k : Nat) (er : Int) (width : Int) : (numC bs k er width).1 < 18446744073709551616 := by
  unfold numC; split
  · rename_i h
    refine leN_lt8 _ ?_
    rw [okW_iff] at h
    unfold takeC; split
    · simp
    · split
      · simp
      · simp; omega
  · simp

set_option maxHeartbeats 400000 in
theorem ctext_calls (g : Nat) (bs : List UInt8) (k : Nat) (er : Int) (width most : Int) (w : World) (hc : Cur w g bs k er) (hl : bs.length ≤ 1000000) (hm : most ≤ 9223372036854775807) :
    Calls Tryd.prog 112 #[.pointer (some ⟨g, 0, none⟩), .int .i64 width, .int .i64 most] w (RetCV w g bs (.string ⟨(textC bs k er width most).1.toArray⟩) (textC bs k er width most).2.1 (textC bs k er width most).2.2) := by
  have Hc := Lib.hid hc
  have HT : Hid (textC bs k er width most = if (numC bs k er width).2.2 ≠ 0 then ([], (numC bs k er width).2)
    else if most < 0 ∨ most < (numC bs k er width).1 then ([], (numC bs k er width).2.1, 2)
    else takeC bs (numC bs k er width).2.1 0 (numC bs k er width).1) := rfl
  clear hc
  have hlt := numC_lt bs k er width
  generalize textC bs k er width most = T at *
  go_enter Tryd.func112, Tryd.ntmps112
  go_wp2_with fail
  refine (cnumber_calls g bs k er width _ Hc.out hl).mono ?_
  rintro e w1 ⟨rfl, hg, hcur⟩
  generalize numC bs k er width = r at *
  obtain ⟨n, k', er'⟩ := r
  dsimp only at *
  have Hg := Lib.hid hg
  have HC := Lib.hid hcur
  obtain ⟨A, c, hblk, hrd, hcap, hcm, hne, hk⟩ := hcur
  have c2 : w1.cell? ⟨g, 2, none⟩ = some (.int .i64 er') := block_cell hblk 2
  have f2 : w1.frozen? ⟨g, 2, none⟩ = false := block_frozen hblk 2
  clear hblk hrd hcap hcm hne hk hg
  by_cases he : er' = 0
  · subst he
    by_cases h1 : most < 0
    · have HT2 : Hid (T = ([], k', 2)) := by show _ = _; rw [HT.out]; simp [h1]
      go_wp2
      go_ret
      rw [HT2.out]
      exact ⟨rfl, Hg.out.trans (grown_setCellC _ _ _ _), HC.out.setErr 2⟩
    · by_cases h2 : most < n
      · have HT2 : Hid (T = ([], k', 2)) := by show _ = _; rw [HT.out]; simp [h2]
        have hmod : most % 18446744073709551616 = most := by omega
        go_wp2
        go_ret
        rw [HT2.out]
        exact ⟨rfl, Hg.out.trans (grown_setCellC _ _ _ _), HC.out.setErr 2⟩
      · have HT2 : Hid (T = takeC bs k' 0 n) := by show _ = _; rw [HT.out]; simp [h1, h2]
        go_wp2_with fail
        refine (take_calls g bs k' 0 n _ HC.out hl (by omega)).mono ?_
        rintro e w2 ⟨A2, c2', rfl, hr, hcap, hg, hcur⟩
        generalize takeC bs k' 0 n = r at *
        obtain ⟨l, k2, er2⟩ := r
        dsimp only at *
        have hstr := run_str w2 A2 c2' l hr
        have HG := Lib.hid (Hg.out.trans hg)
        have HC2 := Lib.hid hcur
        clear hg hcur hr
        go_wp2_with fail
        go_ret
        rw [HT2.out]
        exact ⟨rfl, HG.out, HC2.out⟩
  · have h0 : (er' != 0) = true := by simpa using he
    have HT2 : Hid (T = ([], k', er')) := by show _ = _; rw [HT.out]; simp [he]
    clear he
    go_wp2
    go_ret
    rw [HT2.out]
    exact ⟨rfl, Hg.out, HC.out⟩

theorem cleft_calls (g : Nat) (bs : List UInt8) (k : Nat) (er : Int) (w : World) (hc : Cur w g bs k er) (hl : bs.length ≤ 1000000) :
    Calls Tryd.prog 78 #[.pointer (some ⟨g, 0, none⟩)] w fun e w' => e = .returned (.int .i64 ((bs.length - k : Nat) : Int)) ∧ ∃ n, w' = w.drewN n := by
  obtain ⟨A, c, hblk, hrd, hcap, hcm, hne, hk⟩ := hc
  have c0 : w.cell? ⟨g, 0, none⟩ = some (.slice A bs.length c) := block_cell hblk 0
  have c1 : w.cell? ⟨g, 1, none⟩ = some (.int .i64 k) := block_cell hblk 1
  clear hblk hrd hcap hcm hne
  go_enter Tryd.func78, Tryd.ntmps78
  go_wp2
  go_quiet (fail)
  go_wp2
  go_ret
  exact ⟨ret_int (by omega), _, rfl⟩

theorem cerr_calls (g : Nat) (bs : List UInt8) (k : Nat) (er : Int) (w : World) (hc : Cur w g bs k er) :
    Calls Tryd.prog 77 #[.pointer (some ⟨g, 0, none⟩)] w fun e w' => e = .returned (.int .i64 er) ∧ w = w' := by
  obtain ⟨A, c, hblk, hrd, hcap, hcm, hne, hk⟩ := hc
  have c2 : w.cell? ⟨g, 2, none⟩ = some (.int .i64 er) := block_cell hblk 2
  clear hblk hrd hcap hcm hne
  go_enter Tryd.func77, Tryd.ntmps77
  go_wp2
  go_ret
  exact ⟨rfl, rfl⟩

def doneC (bs : List UInt8) (k : Nat) (er : Int) : Int := if er ≠ 0 then er else if k < bs.length then 2 else 0

end Go.Proofs.YtkbjnlbbfapgdaaDoor

namespace Go.Proofs.YtkbjnlbbfapgdaaDoor

theorem xhalf (a b : Nat) : (a ^^^ b) / 2 = a / 2 ^^^ b / 2 := by
  have := Nat.shiftRight_xor_distrib (a := a) (b := b) (i := 1)
  simpa [Nat.shiftRight_eq_div_pow] using this
theorem xodd (a b : Nat) : (a ^^^ b) % 2 = 1 ↔ ¬ (a % 2 = 1 ↔ b % 2 = 1) := by rw [Nat.xor_mod_two_eq_one]

theorem crcBit_xor (a b : Nat) : crcBit (a ^^^ b) = crcBit a ^^^ crcBit b := by
  unfold crcBit
  rw [xhalf]
  by_cases ha : a % 2 = 1 <;> by_cases hb : b % 2 = 1
  · rw [if_neg (by rw [xodd]; simp [ha, hb]), if_pos ha, if_pos hb]
    rw [Nat.xor_assoc, Nat.xor_comm (b / 2), ← Nat.xor_assoc 2197175160, Nat.xor_self, Nat.zero_xor]
  · rw [if_pos (by rw [xodd]; simp [ha, hb]), if_pos ha, if_neg hb, Nat.xor_assoc, Nat.xor_comm (b / 2), ← Nat.xor_assoc]
  · rw [if_pos (by rw [xodd]; simp [ha, hb]), if_neg ha, if_pos hb, Nat.xor_assoc]
  · rw [if_neg (by rw [xodd]; simp [ha, hb]), if_neg ha, if_neg hb]
theorem crcBits_xor (k a b : Nat) : crcBits k (a ^^^ b) = crcBits k a ^^^ crcBits k b := by
  induction k generalizing a b with
  | zero => rfl
  | succ k ih => rw [crcBits, crcBits, crcBits, crcBit_xor, ih]
theorem crcBits_add (j k r : Nat) : crcBits (j + k) r = crcBits k (crcBits j r) := by
  induction j generalizing r with
  | zero => rw [Nat.zero_add]; rfl
  | succ j ih => rw [Nat.succ_add, crcBits, ih, crcBits]
theorem crcBit_even (z : Nat) : crcBit (z * 2) = z := by
  unfold crcBit
  rw [if_neg (by omega)]; omega
theorem crcBits_shift (k z : Nat) : crcBits k (z * 2 ^ k) = z := by
  induction k generalizing z with
  | zero => simp [crcBits]
  | succ k ih =>
    rw [crcBits, Nat.pow_succ, ← Nat.mul_assoc, crcBit_even, ih]
theorem crcBits_zero (k : Nat) : crcBits k 0 = 0 := by
  have := crcBits_shift k 0
  simpa using this
theorem crcBit_ne {a : Nat} (ha : a < 4294967296) (h : crcBit a = 0) : a = 0 := by
  unfold crcBit at h
  split at h
  · have h2 : a / 2 = 2197175160 := by
      have := congrArg (· ^^^ 2197175160) h
      simpa [Nat.xor_assoc] using this
    omega
  · omega
theorem crcBits_ne {k a : Nat} (ha : a < 4294967296) (h : crcBits k a = 0) : a = 0 := by
  induction k generalizing a with
  | zero => exact h
  | succ k ih => exact crcBit_ne ha (ih (crcBit_lt ha) h)

theorem xor_low {b z : Nat} (hb : b < 256) : b + 256 * z = b ^^^ (z * 2 ^ 8) := by
  have h := Nat.two_pow_add_eq_or_of_lt (i := 8) (b := b) (by simpa using hb) z
  rw [show b + 256 * z = 2 ^ 8 * z + b from by omega, h]
  apply Nat.eq_of_testBit_eq
  intro i
  rw [Nat.testBit_or, Nat.testBit_xor, Nat.mul_comm z]
  by_cases hi : i < 8
  · have : (2 ^ 8 * z).testBit i = false := by
      rw [Nat.testBit_two_pow_mul]; simp; omega
    rw [this]; simp
  · have : b.testBit i = false := Nat.testBit_lt_two_pow (Nat.lt_of_lt_of_le (by simpa using hb) (Nat.pow_le_pow_right (n := 2) (i := 8) (by omega) (by omega)))
    rw [this]; simp

theorem crcReg_eq (r : Nat) (bs : List UInt8) : crcReg r bs = crcBits (8 * bs.length) (r ^^^ leN bs) := by
  induction bs generalizing r with
  | nil => simp [crcReg, crcBits, leN]
  | cons b l ih =>
    have hstep : crcReg r (b :: l) = crcReg (crcBits 8 (r ^^^ b.toNat)) l := rfl
    rw [hstep, ih, List.length_cons, Nat.mul_add, Nat.add_comm, Nat.mul_one, crcBits_add, leN, xor_low b.toNat_lt, ← Nat.xor_assoc, show crcBits 8 (r ^^^ b.toNat ^^^ leN l * 2 ^ 8) = crcBits 8 (r ^^^ b.toNat) ^^^ leN l from by rw [crcBits_xor, crcBits_shift]]

theorem xor4 (x y p q : Nat) : (x ^^^ y) ^^^ (p ^^^ q) = (x ^^^ p) ^^^ (y ^^^ q) := by
  rw [Nat.xor_assoc, Nat.xor_assoc, ← Nat.xor_assoc y, Nat.xor_comm y p, Nat.xor_assoc p]
theorem leN_zip (a b : List UInt8) (h : a.length = b.length) : leN (List.zipWith (· ^^^ ·) a b) = leN a ^^^ leN b := by
  induction a generalizing b with
  | nil => cases b with
    | nil => rfl
    | cons y l => simp at h
  | cons x l ih => cases b with
    | nil => simp at h
    | cons y m =>
      rw [List.zipWith_cons_cons, leN, leN, leN, ih m (by simpa using h), UInt8.toNat_xor]
      have hx : x.toNat < 256 := x.toNat_lt
      have hy : y.toNat < 256 := y.toNat_lt
      have hxy : x.toNat ^^^ y.toNat < 256 := Nat.xor_lt_two_pow (n := 8) hx hy
      generalize x.toNat = x at *
      generalize y.toNat = y at *
      have e1 := xor_low (z := leN l) hx
      have e2 := xor_low (z := leN m) hy
      have e3 := xor_low (z := leN l ^^^ leN m) hxy
      have hm : (leN l ^^^ leN m) * 2 ^ 8 = leN l * 2 ^ 8 ^^^ leN m * 2 ^ 8 := by
        rw [← Nat.shiftLeft_eq, ← Nat.shiftLeft_eq, ← Nat.shiftLeft_eq, Nat.shiftLeft_xor_distrib]
      rw [hm] at e3
      refine e3.trans (Eq.trans ?_ (congr (congrArg HXor.hXor e1) e2).symm)
      exact xor4 x y (leN l * 2 ^ 8) (leN m * 2 ^ 8)

/-- b is sealed bytes -/
def isSeal (b : List UInt8) : Prop := 4 ≤ b.length ∧ leN (b.drop (b.length - 4)) = crcSum (b.take (b.length - 4))
instance (b : List UInt8) : Decidable (isSeal b) := inferInstanceAs (Decidable (_ ∧ _))

theorem xor_not32 (s : Nat) (hs : s < 4294967296) : s ^^^ (4294967295 - s) = 4294967295 := by
  have h1 : 4294967295 ^^^ s = 4294967295 - s := by
    have h : (BitVec.allOnes 32 ^^^ BitVec.ofNat 32 s).toNat = (~~~ (BitVec.ofNat 32 s)).toNat := by rw [BitVec.allOnes_xor]
    rw [BitVec.toNat_xor, BitVec.toNat_not, BitVec.toNat_allOnes, BitVec.toNat_ofNat, Nat.mod_eq_of_lt (by simpa using hs)] at h
    exact h
  rw [← h1, Nat.xor_comm 4294967295, ← Nat.xor_assoc, Nat.xor_self, Nat.zero_xor]

theorem seal_residue {b : List UInt8} (h : isSeal b) : crcReg 4294967295 b = crcBits 32 4294967295 := by
  obtain ⟨h4, he⟩ := h
  have hb : b = b.take (b.length - 4) ++ b.drop (b.length - 4) := (List.take_append_drop _ _).symm
  have hr := crcReg_lt (r := 4294967295) (b.take (b.length - 4)) (by omega)
  have hs : crcSum (b.take (b.length - 4)) = 4294967295 - crcReg 4294967295 (b.take (b.length - 4)) := rfl
  have hl : (b.drop (b.length - 4)).length = 4 := by simp; omega
  rw [hs] at he
  generalize hm : b.take (b.length - 4) = m at *
  generalize hc : b.drop (b.length - 4) = c at *
  rw [hb, crcReg_append, crcReg_eq _ c, hl, he, xor_not32 _ hr]

theorem leN_zeros (n : Nat) (l : List UInt8) : leN (List.replicate n 0 ++ l) = leN l * 2 ^ (8 * n) := by
  induction n with
  | zero => simp
  | succ n ih =>
    rw [List.replicate_succ, List.cons_append, leN, ih, Nat.mul_add, Nat.mul_one, Nat.pow_add, ← Nat.mul_assoc, Nat.mul_comm 256]
    simp
    rw [Nat.mul_assoc, Nat.mul_comm 256]
theorem leN_zero_tail (n : Nat) : leN (List.replicate n 0) = 0 := by
  induction n with
  | zero => rfl
  | succ n ih => rw [List.replicate_succ, leN, ih]; rfl
theorem leN_zero_iff (l : List UInt8) (h : leN l = 0) : ∀ x ∈ l, x = 0 := by
  induction l with
  | nil => simp
  | cons b l ih =>
    rw [leN] at h
    intro x hx
    rcases List.mem_cons.1 hx with rfl | hx
    · apply UInt8.toNat.inj; simp; omega
    · exact ih (by omega) x hx

/-- four bytes in a row that are others: it is none any more -/
theorem spoilt_no {s s' x : List UInt8} {at_ : Nat} (hs : isSeal s) (hx : x.length = 4) (hat : at_ + 4 ≤ s.length)
    (he : s' = List.zipWith (· ^^^ ·) s (List.replicate at_ 0 ++ (x ++ List.replicate (s.length - at_ - 4) 0))) (hne : ∃ y ∈ x, y ≠ 0) : ¬ isSeal s' := by
  intro hs'
  have hel : (List.replicate at_ 0 ++ (x ++ List.replicate (s.length - at_ - 4) 0) : List UInt8).length = s.length := by simp; omega
  have hl : s'.length = s.length := by rw [he, List.length_zipWith, hel]; omega
  have r1 := seal_residue hs
  have r2 := seal_residue hs'
  rw [crcReg_eq] at r1 r2
  rw [hl, he, leN_zip _ _ hel.symm, ← Nat.xor_assoc, crcBits_xor, r1] at r2
  have r3 : crcBits (8 * s.length) (leN (List.replicate at_ 0 ++ (x ++ List.replicate (s.length - at_ - 4) 0))) = 0 := by
    have := congrArg (crcBits 32 4294967295 ^^^ ·) r2
    simp only [← Nat.xor_assoc, Nat.xor_self, Nat.zero_xor] at this
    exact this
  rw [leN_zeros, leN_append, leN_zero_tail, Nat.mul_zero, Nat.add_zero, show 8 * s.length = 8 * at_ + (8 * (s.length - at_)) from by omega, crcBits_add, crcBits_shift] at r3
  have hlt : leN x < 4294967296 := by have := leN_lt x; rw [hx] at this; exact this
  have := crcBits_ne hlt r3
  obtain ⟨y, hy, hyne⟩ := hne
  exact hyne (leN_zero_iff x this y hy)
end Go.Proofs.YtkbjnlbbfapgdaaDoor

namespace Go.Proofs.YtkbjnlbbfapgdaaDoor
open Go.RowKit

def openR (b : List UInt8) : List UInt8 × Bool := if isSeal b then (b.take (b.length - 4), true) else ([], false)

theorem ext_grown' {w w1 w2 : World} {g : Nat} (h : Ext w w1) (hg : w1.grownBy w2 (some g)) (hw : w.heap.size ≤ g) : Ext w w2 :=
  h.grown hg (fun k hk => by cases hk; exact hw)
theorem takeC_full (l : List UInt8) : takeC l 0 0 l.length = (l, l.length, 0) := by simp [takeC]

set_option maxHeartbeats 1000000 in
theorem open_calls (A : Option Addr) (c : Nat) (bs : List UInt8) (w : World) (hb : RdB w A bs) (hl : bs.length ≤ 1000000) (hcap : bs.length ≤ c) (_hcm : c ≤ 9223372036854775807) :
    Calls Tryd.prog 72 #[.slice A bs.length c] w (RetB2 w (openR bs).1 (.bool (openR bs).2)) := by
  have Hb := Lib.hid hb
  clear hb
  by_cases h4 : bs.length < 4
  · have HO : Hid (openR bs = ([], false)) := by show _ = _; rw [openR, if_neg (fun h => by have := h.1; omega)]
    rw [HO.out]
    go_enter Tryd.func72, Tryd.ntmps72
    go_wp2_with fail
    go_ret2
    exact ⟨none, 0, rfl, OwnB.nil _ _, Ext.refl _⟩
  obtain ⟨n, hn⟩ : ∃ n, bs.length = n + 4 := ⟨bs.length - 4, by omega⟩
  have hck : ¬ c = n := by omega
  have HS : Hid (isSeal bs ↔ leN (bs.drop n) = crcSum (bs.take n)) := by
    show _ ↔ _
    unfold isSeal
    rw [hn, Nat.add_sub_cancel]
    exact ⟨fun h => h.2, fun h => ⟨by omega, h⟩⟩
  have HT : Hid (bs.take (bs.length - 4) = bs.take n) := by show _ = _; rw [hn, Nat.add_sub_cancel]
  have HR : Hid (∀ W, Ext w W → RdB W (A.map (·.add n)) (bs.drop n)) := by
    intro W hW
    have h := (Hb.out.ext hW).cut n c hcap
    rw [if_neg hck] at h
    exact h
  have HR2 : Hid (∀ W, Ext w W → RdB W A (bs.take n)) := fun W hW => (Hb.out.ext hW).take n
  have HL1 : Hid ((bs.drop n).length = 4) := by show _ = _; simp; omega
  have HL2 : Hid ((bs.take n).length = n) := by show _ = _; simp; omega
  have hnl : n ≤ 1000000 := by omega
  rw [hn]
  generalize hLd : bs.drop n = L at *
  generalize hTd : bs.take n = T at *
  have hlen4 : ((n + 4 : Nat) : Int) - 4 = (n : Int) := by omega
  have HO : Hid (openR bs = if leN L = crcSum T then (T, true) else ([], false)) := by
    show _ = _
    rw [openR, HT.out]
    by_cases h : isSeal bs
    · rw [if_pos h, if_pos (HS.out.1 h)]
    · rw [if_neg h, if_neg (fun hh => h (HS.out.2 hh))]
  clear hLd hTd
  have hq32 := crcSum_lt T
  have hn32 : leN L < 4294967296 := by have := leN_lt L; rw [HL1.out] at this; exact this
  have hnewC : Hid (Calls Tryd.prog 73 #[.slice (A.map (·.add n)) 4 (c - n)] w fun e w' => ∃ g, e = .returned (.pointer (some ⟨g, 0, none⟩)) ∧ w.heap.size ≤ g ∧ Cur w' g L 0 0 ∧ Ext w w') := by
    have h := newCursor_calls (A.map (·.add n)) (c - n) L w (HR.out w (Ext.refl w)) (by rw [HL1.out]; omega)
    rw [HL1.out] at h
    exact h
  have hnc : n + 4 ≤ c := by omega
  have hnc' : (n : Int) ≤ (c : Int) := by omega
  have hn0 : (0 : Int) ≤ (n : Int) := by omega
  clear hn hcap h4
  go_enter Tryd.func72, Tryd.ntmps72
  go_wp2_with fail
  refine hnewC.out.mono ?_
  rintro e w1 ⟨g, rfl, hg, hc1, e1⟩
  have HC1 := Lib.hid hc1
  have E1 := Lib.hid e1
  clear hc1 e1
  have HNum : Hid (∀ W, Cur W g L 0 0 → Calls Tryd.prog 74 #[.pointer (some ⟨g, 0, none⟩), .int .i64 4] W (RetCV W g L (.int .u64 (leN L)) 4 0)) := by
    intro W hW
    have h := number4 g L 0 0 W hW (by rw [HL1.out]; omega)
    have ht := takeC_full L
    rw [HL1.out] at ht
    rw [ht] at h
    exact h
  have HSum : Hid (∀ W, Ext w W → Calls Tryd.prog 109 #[.slice A n c] W fun e w' => e = .returned (.int .u32 (crcSum T)) ∧ W = w') := by
    intro W hW
    have h := sum_calls A c T W (HR2.out W hW) (by rw [HL2.out]; omega)
    rw [HL2.out] at h
    exact h
  by_cases heq : leN L = crcSum T
  · have hne : ((leN L : Int) != (crcSum T : Int)) = false := by rw [bne_eq_false_iff_eq]; omega
    have HO2 : Hid (openR bs = (T, true)) := by show _ = _; rw [HO.out, if_pos heq]
    clear heq
    generalize leN L = u at *
    generalize crcSum T = v at *
    have hwv : IntKind.u64.wrap (v : Int) = (v : Int) := by rw [IntKind.wrap_u64]; omega
    go_wp2_with fail
    go_region_with (first | (go_at_call 74; refine (HNum.out _ ?_).mono ?_; exact HC1.out.ext ((Ext.refl _).drew); rintro e w2 ⟨rfl, g2, hc2⟩; have E2 := Lib.hid (ext_grown' (E1.out.drew) g2 hg); clear g2 hc2) | (go_at_call 109; refine (HSum.out _ ?_).mono ?_; exact E2.out; rintro e w3 ⟨rfl, rfl⟩))
    go_wp2_with (at_builtin; refine cpyB _ rfl (.const (.slice none 0 0)) (.tmp 25) rfl rfl A c T (by rw [HL2.out]; rfl) ?_ (HR2.out _ E2.out) ?c2; intro A3 c3 w3 h3 e3; have H3 := Lib.hid (h3.lower E2.out.size); have E3 := Lib.hid (E2.out.trans e3); clear h3 e3)
    case c2 => rw [HL2.out]; omega
    go_ret2
    rw [HO2.out]
    exact ⟨A3, c3, rfl, H3.out, E3.out⟩
  · have hne : ((leN L : Int) != (crcSum T : Int)) = true := by rw [bne_iff_ne]; omega
    have HO2 : Hid (openR bs = ([], false)) := by show _ = _; rw [HO.out, if_neg heq]
    clear heq
    generalize leN L = u at *
    generalize crcSum T = v at *
    have hwv : IntKind.u64.wrap (v : Int) = (v : Int) := by rw [IntKind.wrap_u64]; omega
    go_wp2_with fail
    go_region_with (first | (go_at_call 74; refine (HNum.out _ ?_).mono ?_; exact HC1.out.ext ((Ext.refl _).drew); rintro e w2 ⟨rfl, g2, hc2⟩; have E2 := Lib.hid (ext_grown' (E1.out.drew) g2 hg); clear g2 hc2) | (go_at_call 109; refine (HSum.out _ ?_).mono ?_; exact E2.out; rintro e w3 ⟨rfl, rfl⟩))
    go_wp2_with fail
    go_ret2
    rw [HO2.out]
    exact ⟨none, 0, rfl, OwnB.nil _ _, E2.out⟩

theorem seal_is (b : List UInt8) : isSeal (sealB b) := by
  refine ⟨by rw [sealB_length]; omega, ?_⟩
  rw [sealB_length, Nat.add_sub_cancel]
  unfold sealB
  rw [List.drop_left, List.take_left, leN_leB, Nat.mod_eq_of_lt (crcSum_lt b)]
theorem openR_seal (b : List UInt8) : openR (sealB b) = (b, true) := by
  rw [openR, if_pos (seal_is b), sealB_length, Nat.add_sub_cancel]
  unfold sealB
  rw [List.take_left]
theorem seal_iff (b : List UInt8) : isSeal b ↔ 4 ≤ b.length ∧ sealB (b.take (b.length - 4)) = b := by
  unfold isSeal
  refine and_congr_right fun h4 => ?_
  have hb : b.take (b.length - 4) ++ b.drop (b.length - 4) = b := List.take_append_drop _ _
  have hl : (b.drop (b.length - 4)).length = 4 := by simp; omega
  constructor
  · intro h
    rw [sealB, ← h]
    have := leB_leN (b.drop (b.length - 4))
    rw [hl] at this
    rw [this, hb]
  · intro h
    rw [sealB] at h
    have h2 := h.trans hb.symm
    have h3 := List.append_cancel_left h2
    rw [← h3, leN_leB, Nat.mod_eq_of_lt (crcSum_lt _)]
end Go.Proofs.YtkbjnlbbfapgdaaDoor

namespace Go.Proofs.YtkbjnlbbfapgdaaDoor
open Go.RowKit

/-- block g is a cursor over bs, which lie at A, at k, with that error -/
def CurA (w : World) (g : Nat) (A : Option Addr) (c : Nat) (bs : List UInt8) (k : Nat) (er : Int) : Prop :=
  w.heap[g]? = some (.cells #[.slice A bs.length c, .int .i64 k, .int .i64 er] 127 (0, 0)) ∧ RdB w A bs ∧ bs.length ≤ c ∧ c ≤ 9223372036854775807 ∧ (∀ ad, A = some ad → ad.block ≠ g) ∧ k ≤ bs.length
section cura
variable {w w1 : World} {g : Nat} {A : Option Addr} {c : Nat} {bs : List UInt8} {k : Nat} {er : Int}
theorem CurA.ext (h : CurA w g A c bs k er) (he : Ext w w1) : CurA w1 g A c bs k er := by
  obtain ⟨h1, h2, h3⟩ := h
  exact ⟨he.block h1, h2.ext he, h3⟩
theorem CurA.lt (h : CurA w g A c bs k er) : g < w.heap.size := block_lt h.1
theorem CurA.drewN (h : CurA w g A c bs k er) (n : Nat) : CurA (w.drewN n) g A c bs k er := h.ext ((Ext.refl w).drewN n)
theorem CurA.keep {row : Option Nat} (h : CurA w g A c bs k er) (hg : w.grownBy w1 row) (h1 : some g ≠ row) (h2 : ∀ ad, A = some ad → some ad.block ≠ row) : CurA w1 g A c bs k er := by
  obtain ⟨a1, a2, a3⟩ := h
  exact ⟨(hg.block g (block_lt a1) h1).trans a1, a2.grown hg h2, a3⟩
theorem CurA.setAt (h : CurA w g A c bs k er) (k' : Nat) (hk : k' ≤ bs.length) : CurA (w.setCell ⟨g, 1, none⟩ (.int .i64 k')) g A c bs k' er := by
  obtain ⟨h1, h2, h3, h4, h5, _⟩ := h
  exact ⟨cells_setCell h1 1 _, h2.grown (grown_setCellC _ _ _ _) (fun ad ha hb => h5 ad ha (by injection hb)), h3, h4, h5, hk⟩
theorem CurA.setErr (h : CurA w g A c bs k er) (er' : Int) : CurA (w.setCell ⟨g, 2, none⟩ (.int .i64 er')) g A c bs k er' := by
  obtain ⟨h1, h2, h3, h4, h5, h6⟩ := h
  exact ⟨cells_setCell h1 2 _, h2.grown (grown_setCellC _ _ _ _) (fun ad ha hb => h5 ad ha (by injection hb)), h3, h4, h5, h6⟩
end cura
/-- what a cursor's call leaves: bytes that can be read -/
def RetCurA (w : World) (g : Nat) (A : Option Addr) (c : Nat) (bs : List UInt8) (r : List UInt8 × Nat × Int) (e : Ending) (w' : World) : Prop :=
  ∃ B d, e = .returned (.slice B r.1.length d) ∧ RdB w' B r.1 ∧ r.1.length ≤ d ∧ w.grownBy w' (some g) ∧ CurA w' g A c bs r.2.1 r.2.2
/-- what a cursor's call leaves: a value -/
def RetCVA (w : World) (g : Nat) (A : Option Addr) (c : Nat) (bs : List UInt8) (v : Value) (k : Nat) (er : Int) (e : Ending) (w' : World) : Prop :=
  e = .returned v ∧ w.grownBy w' (some g) ∧ CurA w' g A c bs k er

set_option maxHeartbeats 400000 in
theorem newCursorA_calls (A : Option Addr) (c : Nat) (bs : List UInt8) (w : World) (hb : RdB w A bs) (hl : bs.length ≤ 1000000) :
    Calls Tryd.prog 73 #[.slice A bs.length c] w fun e w' => ∃ g B d, e = .returned (.pointer (some ⟨g, 0, none⟩)) ∧ w.heap.size ≤ g ∧ CurA w' g B d bs 0 0 ∧ (∀ ad, B = some ad → w.heap.size ≤ ad.block ∧ ad.block < w'.heap.size) ∧ Ext w w' := by
  have Hb := Lib.hid hb
  clear hb
  go_enter Tryd.func73, Tryd.ntmps73
  go_wp2_with (at_builtin; refine cpyB w rfl (.const (.slice none 0 0)) (.tmp 3) rfl rfl A c bs rfl ?_ Hb.out ?c2; intro A1 c1 w1 h1 e1; have H1 := Lib.hid h1; have E1 := Lib.hid e1; clear h1 e1)
  case c2 => omega
  go_ret
  have H := (Ext.refl w1).alloc (.cells #[Value.slice A1 bs.length c1, Value.int IntKind.i64 0, Value.int IntKind.i64 0] 127)
  have HB : ∀ ad, A1 = some ad → w.heap.size ≤ ad.block ∧ ad.block < w1.heap.size := fun ad had => H1.out.base_ ad.block (by rw [had]; rfl)
  refine ⟨w1.heap.size, A1, c1, rfl, E1.out.size, ⟨heap_new _ _, (H1.out.ext H).rd, H1.out.cap, H1.out.capmax, ?_, Nat.zero_le _⟩, fun ad had => ⟨(HB ad had).1, Nat.lt_of_lt_of_le (HB ad had).2 H.size⟩, E1.out.trans H⟩
  intro ad had hbl
  have := (HB ad had).2
  omega

set_option maxHeartbeats 400000 in
theorem takeA_calls (g : Nat) (A : Option Addr) (c : Nat) (bs : List UInt8) (k : Nat) (er : Int) (n : Nat) (w : World) (hc : CurA w g A c bs k er) (hl : bs.length ≤ 1000000) (hn : n ≤ 9223372036854775807) :
    Calls Tryd.prog 111 #[.pointer (some ⟨g, 0, none⟩), .int .i64 n] w (RetCurA w g A c bs (takeC bs k er n)) := by
  have Hc := Lib.hid hc
  obtain ⟨hblk, hrd, hcap, hcm, hne, hk⟩ := hc
  have c0 : w.cell? ⟨g, 0, none⟩ = some (.slice A bs.length c) := block_cell hblk 0
  have c1 : w.cell? ⟨g, 1, none⟩ = some (.int .i64 k) := block_cell hblk 1
  have c2 : w.cell? ⟨g, 2, none⟩ = some (.int .i64 er) := block_cell hblk 2
  have f1 : w.frozen? ⟨g, 1, none⟩ = false := block_frozen hblk 1
  have f2 : w.frozen? ⟨g, 2, none⟩ = false := block_frozen hblk 2
  have Hblk := Lib.hid hblk
  have Hrd := Lib.hid hrd
  have Hne := Lib.hid hne
  clear hblk hrd hne
  by_cases he : er = 0
  · subst he
    by_cases hs : bs.length - k < n
    · have HT : Hid (takeC bs k 0 n = ([], k, 1)) := by show _ = _; simp [takeC, hs]
      have hs' : (bs.length : Int) - k < n := by omega
      rw [HT.out]
      go_enter Tryd.func111, Tryd.ntmps111
      go_wp2
      go_quiet (fail)
      go_wp2
      go_ret
      exact ⟨none, 0, rfl, RdB.nil, Nat.le_refl _, (grown_drewN w nq _).trans (grown_setCellC _ _ _ _), (Hc.out.drewN nq).setErr 1⟩
    · have hkn : k + n ≤ bs.length := by omega
      have HT : Hid (takeC bs k 0 n = ((bs.drop k).take n, k + n, 0)) := by show _ = _; simp [takeC, hs]
      rw [HT.out]
      clear hs
      go_enter Tryd.func111, Tryd.ntmps111
      go_wp2
      go_quiet (fail)
      go_wp2
      have s1 : IntKind.i64.wrap ((k : Int) + n) = (k : Int) + n := IntWalk.i64_in _ (by omega)
      have s2 : (0 : Int) ≤ (k : Int) + n := by omega
      have s3 : ((k : Int) + n).toNat = k + n := by omega
      go_quiet (fail)
      clear s1 s2 s3
      have HL : Hid (((bs.drop k).take n).length = n) := by show _ = _; simp; omega
      have HG := fun a b : Nat => Lib.hid (((grown_drewN w (a + b) _).trans (grown_setCellC _ g 1 (.int .i64 ((k + n : Nat) : Int)))))
      have HC := fun a b : Nat => Lib.hid ((Hc.out.drewN (a + b)).setAt (k + n) hkn)
      by_cases hck : c = k
      · subst hck
        go_wp2
        go_ret
        obtain rfl : n = 0 := by omega
        exact ⟨A, c - c, by rw [HL.out]; rfl, by simp [RdB.nil], by simp, (HG _ _).out, (HC _ _).out⟩
      · go_wp2
        go_ret
        refine ⟨_, c - k, by rw [HL.out]; rfl, ?_, by rw [HL.out]; omega, (HG _ _).out, (HC _ _).out⟩
        have hr := ((Hrd.out.cut k c hcap).take n)
        rw [if_neg hck] at hr
        refine hr.grown (HG _ _).out ?_
        intro ad had hbl
        cases A with
        | none => cases had
        | some a0 =>
          simp only [Option.map_some, Option.some.injEq] at had hbl
          exact Hne.out a0 rfl (by rw [← hbl, ← had, block_add])
  · have h0 : (er != 0) = true := by simpa using he
    have HT : Hid (takeC bs k er n = ([], k, er)) := by show _ = _; simp [takeC, he]
    rw [HT.out]
    clear he
    go_enter Tryd.func111, Tryd.ntmps111
    go_wp2
    go_ret
    exact ⟨none, 0, rfl, RdB.nil, Nat.le_refl _, grown_refl _ _, Hc.out⟩

set_option maxHeartbeats 400000 in
theorem numberA8 (g : Nat) (A : Option Addr) (c : Nat) (bs : List UInt8) (k : Nat) (er : Int) (w : World) (hc : CurA w g A c bs k er) (hl : bs.length ≤ 1000000) :
    Calls Tryd.prog 74 #[.pointer (some ⟨g, 0, none⟩), .int .i64 8] w (RetCVA w g A c bs (.int .u64 (leN (takeC bs k er 8).1)) (takeC bs k er 8).2.1 (takeC bs k er 8).2.2) := by
  have Hc := Lib.hid hc
  clear hc
  have hz : (takeC bs k er 8).1.length ≠ 8 → (takeC bs k er 8).1 = [] := by
    unfold takeC; split
    · intro _; rfl
    · split
      · intro _; rfl
      · intro h; exfalso; apply h; simp; omega
  go_enter Tryd.func74, Tryd.ntmps74
  go_wp2_with fail
  refine (oknown_calls _ _).mono ?_
  rintro e w' ⟨rfl, rfl⟩
  go_wp2_with fail
  refine (takeA_calls g A c bs k er 8 _ Hc.out hl (by omega)).mono ?_
  rintro e w1 ⟨A9, c9, rfl, hr, hcap, hg, hcur⟩
  generalize takeC bs k er 8 = r at *
  obtain ⟨l, k', er'⟩ := r
  have HG := Lib.hid hg
  have HC := Lib.hid hcur
  have HR := Lib.hid hr
  have HZ := Lib.hid hz
  clear hg hcur hr hz
  dsimp only at *
  by_cases hk : l.length = 8
  · match l, hk with
    | [b0, b1, b2, b3, b4, b5, b6, b7], _ =>
      obtain ⟨ad, rfl, q0⟩ := HR.out.at_ (k := 0) (by simp)
      have qs : ∀ i, (hi : i < 8) → w1.cell? (ad.add i) = some (.int .u8 (([b0, b1, b2, b3, b4, b5, b6, b7][i]).toNat : Int)) := by
        intro i hi
        obtain ⟨ad', h, q⟩ := HR.out.at_ (k := i) (by simpa using hi)
        cases h
        exact q
      have q0' : w1.cell? ad = some (.int .u8 (b0.toNat : Int)) := q0
      have q1 : w1.cell? { block := ad.block, off := ad.off + 1 } = some (.int .u8 (b1.toNat : Int)) := qs 1 (by omega)
      have q2 : w1.cell? { block := ad.block, off := ad.off + 2 } = some (.int .u8 (b2.toNat : Int)) := qs 2 (by omega)
      have q3 : w1.cell? { block := ad.block, off := ad.off + 3 } = some (.int .u8 (b3.toNat : Int)) := qs 3 (by omega)
      have q4 : w1.cell? { block := ad.block, off := ad.off + 4 } = some (.int .u8 (b4.toNat : Int)) := qs 4 (by omega)
      have q5 : w1.cell? { block := ad.block, off := ad.off + 5 } = some (.int .u8 (b5.toNat : Int)) := qs 5 (by omega)
      have q6 : w1.cell? { block := ad.block, off := ad.off + 6 } = some (.int .u8 (b6.toNat : Int)) := qs 6 (by omega)
      have q7 : w1.cell? { block := ad.block, off := ad.off + 7 } = some (.int .u8 (b7.toNat : Int)) := qs 7 (by omega)
      have l0 : b0.toNat < 256 := b0.toNat_lt
      have l1 : b1.toNat < 256 := b1.toNat_lt
      have l2 : b2.toNat < 256 := b2.toNat_lt
      have l3 : b3.toNat < 256 := b3.toNat_lt
      have l4 : b4.toNat < 256 := b4.toNat_lt
      have l5 : b5.toNat < 256 := b5.toNat_lt
      have l6 : b6.toNat < 256 := b6.toNat_lt
      have l7 : b7.toNat < 256 := b7.toNat_lt
      clear qs q0
      rw [show [b0, b1, b2, b3, b4, b5, b6, b7].length = 8 from rfl]
      go_wp2
      go_ret
      refine ⟨?_, HG.out, HC.out⟩
      refine (ret_int (or8 b0.toNat b1.toNat b2.toNat b3.toNat b4.toNat b5.toNat b6.toNat b7.toNat l0 l1 l2 l3 l4 l5 l6 l7)).trans (ret_int ?_)
      simp only [leN]
      omega
  · have hb : ((l.length : Int) != 8) = true := by rw [bne_iff_ne]; omega
    have Hk := Lib.hid hk
    clear hk
    go_wp2
    go_ret
    refine ⟨?_, HG.out, HC.out⟩
    rw [HZ.out Hk.out]; rfl

set_option maxHeartbeats 400000 in
theorem numberA4 (g : Nat) (A : Option Addr) (c : Nat) (bs : List UInt8) (k : Nat) (er : Int) (w : World) (hc : CurA w g A c bs k er) (hl : bs.length ≤ 1000000) :
    Calls Tryd.prog 74 #[.pointer (some ⟨g, 0, none⟩), .int .i64 4] w (RetCVA w g A c bs (.int .u64 (leN (takeC bs k er 4).1)) (takeC bs k er 4).2.1 (takeC bs k er 4).2.2) := by
  have Hc := Lib.hid hc
  clear hc
  have hz : (takeC bs k er 4).1.length ≠ 4 → (takeC bs k er 4).1 = [] := by
    unfold takeC; split
    · intro _; rfl
    · split
      · intro _; rfl
      · intro h; exfalso; apply h; simp; omega
  go_enter Tryd.func74, Tryd.ntmps74
  go_wp2_with fail
  refine (oknown_calls _ _).mono ?_
  rintro e w' ⟨rfl, rfl⟩
  go_wp2_with fail
  refine (takeA_calls g A c bs k er 4 _ Hc.out hl (by omega)).mono ?_
  rintro e w1 ⟨A9, c9, rfl, hr, hcap, hg, hcur⟩
  generalize takeC bs k er 4 = r at *
  obtain ⟨l, k', er'⟩ := r
  have HG := Lib.hid hg
  have HC := Lib.hid hcur
  have HR := Lib.hid hr
  have HZ := Lib.hid hz
  clear hg hcur hr hz
  dsimp only at *
  by_cases hk : l.length = 4
  · match l, hk with
    | [b0, b1, b2, b3], _ =>
      obtain ⟨ad, rfl, q0⟩ := HR.out.at_ (k := 0) (by simp)
      have qs : ∀ i, (hi : i < 4) → w1.cell? (ad.add i) = some (.int .u8 (([b0, b1, b2, b3][i]).toNat : Int)) := by
        intro i hi
        obtain ⟨ad', h, q⟩ := HR.out.at_ (k := i) (by simpa using hi)
        cases h
        exact q
      have q0' : w1.cell? ad = some (.int .u8 (b0.toNat : Int)) := q0
      have q1 : w1.cell? { block := ad.block, off := ad.off + 1 } = some (.int .u8 (b1.toNat : Int)) := qs 1 (by omega)
      have q2 : w1.cell? { block := ad.block, off := ad.off + 2 } = some (.int .u8 (b2.toNat : Int)) := qs 2 (by omega)
      have q3 : w1.cell? { block := ad.block, off := ad.off + 3 } = some (.int .u8 (b3.toNat : Int)) := qs 3 (by omega)
      have l0 : b0.toNat < 256 := b0.toNat_lt
      have l1 : b1.toNat < 256 := b1.toNat_lt
      have l2 : b2.toNat < 256 := b2.toNat_lt
      have l3 : b3.toNat < 256 := b3.toNat_lt
      clear qs q0
      rw [show [b0, b1, b2, b3].length = 4 from rfl]
      go_wp2
      go_ret
      refine ⟨?_, HG.out, HC.out⟩
      refine (ret_int (or4 b0.toNat b1.toNat b2.toNat b3.toNat l0 l1 l2 l3)).trans (ret_int ?_)
      simp only [leN]
      omega
  · have hb : ((l.length : Int) != 4) = true := by rw [bne_iff_ne]; omega
    have Hk := Lib.hid hk
    clear hk
    go_wp2
    go_ret
    refine ⟨?_, HG.out, HC.out⟩
    rw [HZ.out Hk.out]; rfl

set_option maxHeartbeats 400000 in
theorem numberA2 (g : Nat) (A : Option Addr) (c : Nat) (bs : List UInt8) (k : Nat) (er : Int) (w : World) (hc : CurA w g A c bs k er) (hl : bs.length ≤ 1000000) :
    Calls Tryd.prog 74 #[.pointer (some ⟨g, 0, none⟩), .int .i64 2] w (RetCVA w g A c bs (.int .u64 (leN (takeC bs k er 2).1)) (takeC bs k er 2).2.1 (takeC bs k er 2).2.2) := by
  have Hc := Lib.hid hc
  clear hc
  have hz : (takeC bs k er 2).1.length ≠ 2 → (takeC bs k er 2).1 = [] := by
    unfold takeC; split
    · intro _; rfl
    · split
      · intro _; rfl
      · intro h; exfalso; apply h; simp; omega
  go_enter Tryd.func74, Tryd.ntmps74
  go_wp2_with fail
  refine (oknown_calls _ _).mono ?_
  rintro e w' ⟨rfl, rfl⟩
  go_wp2_with fail
  refine (takeA_calls g A c bs k er 2 _ Hc.out hl (by omega)).mono ?_
  rintro e w1 ⟨A9, c9, rfl, hr, hcap, hg, hcur⟩
  generalize takeC bs k er 2 = r at *
  obtain ⟨l, k', er'⟩ := r
  have HG := Lib.hid hg
  have HC := Lib.hid hcur
  have HR := Lib.hid hr
  have HZ := Lib.hid hz
  clear hg hcur hr hz
  dsimp only at *
  by_cases hk : l.length = 2
  · match l, hk with
    | [b0, b1], _ =>
      obtain ⟨ad, rfl, q0⟩ := HR.out.at_ (k := 0) (by simp)
      have qs : ∀ i, (hi : i < 2) → w1.cell? (ad.add i) = some (.int .u8 (([b0, b1][i]).toNat : Int)) := by
        intro i hi
        obtain ⟨ad', h, q⟩ := HR.out.at_ (k := i) (by simpa using hi)
        cases h
        exact q
      have q0' : w1.cell? ad = some (.int .u8 (b0.toNat : Int)) := q0
      have q1 : w1.cell? { block := ad.block, off := ad.off + 1 } = some (.int .u8 (b1.toNat : Int)) := qs 1 (by omega)
      have l0 : b0.toNat < 256 := b0.toNat_lt
      have l1 : b1.toNat < 256 := b1.toNat_lt
      clear qs q0
      rw [show [b0, b1].length = 2 from rfl]
      go_wp2
      go_ret
      refine ⟨?_, HG.out, HC.out⟩
      refine (ret_int (or2 b0.toNat b1.toNat l0 l1)).trans (ret_int ?_)
      simp only [leN]
      omega
  · have hb : ((l.length : Int) != 2) = true := by rw [bne_iff_ne]; omega
    have Hk := Lib.hid hk
    clear hk
    go_wp2
    go_ret
    refine ⟨?_, HG.out, HC.out⟩
    rw [HZ.out Hk.out]; rfl

set_option maxHeartbeats 400000 in
theorem numberA1 (g : Nat) (A : Option Addr) (c : Nat) (bs : List UInt8) (k : Nat) (er : Int) (w : World) (hc : CurA w g A c bs k er) (hl : bs.length ≤ 1000000) :
    Calls Tryd.prog 74 #[.pointer (some ⟨g, 0, none⟩), .int .i64 1] w (RetCVA w g A c bs (.int .u64 (leN (takeC bs k er 1).1)) (takeC bs k er 1).2.1 (takeC bs k er 1).2.2) := by
  have Hc := Lib.hid hc
  clear hc
  have hz : (takeC bs k er 1).1.length ≠ 1 → (takeC bs k er 1).1 = [] := by
    unfold takeC; split
    · intro _; rfl
    · split
      · intro _; rfl
      · intro h; exfalso; apply h; simp; omega
  go_enter Tryd.func74, Tryd.ntmps74
  go_wp2_with fail
  refine (oknown_calls _ _).mono ?_
  rintro e w' ⟨rfl, rfl⟩
  go_wp2_with fail
  refine (takeA_calls g A c bs k er 1 _ Hc.out hl (by omega)).mono ?_
  rintro e w1 ⟨A9, c9, rfl, hr, hcap, hg, hcur⟩
  generalize takeC bs k er 1 = r at *
  obtain ⟨l, k', er'⟩ := r
  have HG := Lib.hid hg
  have HC := Lib.hid hcur
  have HR := Lib.hid hr
  have HZ := Lib.hid hz
  clear hg hcur hr hz
  dsimp only at *
  by_cases hk : l.length = 1
  · match l, hk with
    | [b0], _ =>
      obtain ⟨ad, rfl, q0⟩ := HR.out.at_ (k := 0) (by simp)
      have qs : ∀ i, (hi : i < 1) → w1.cell? (ad.add i) = some (.int .u8 (([b0][i]).toNat : Int)) := by
        intro i hi
        obtain ⟨ad', h, q⟩ := HR.out.at_ (k := i) (by simpa using hi)
        cases h
        exact q
      have q0' : w1.cell? ad = some (.int .u8 (b0.toNat : Int)) := q0
      have l0 : b0.toNat < 256 := b0.toNat_lt
      clear qs q0
      rw [show [b0].length = 1 from rfl]
      go_wp2
      go_ret
      refine ⟨?_, HG.out, HC.out⟩
      refine (ret_int (or1 b0.toNat l0)).trans (ret_int ?_)
      simp only [leN]
      omega
  · have hb : ((l.length : Int) != 1) = true := by rw [bne_iff_ne]; omega
    have Hk := Lib.hid hk
    clear hk
    go_wp2
    go_ret
    refine ⟨?_, HG.out, HC.out⟩
    rw [HZ.out Hk.out]; rfl

theorem cnumberA_calls (g : Nat) (A : Option Addr) (c : Nat) (bs : List UInt8) (k : Nat) (er : Int) (width : Int) (w : World) (hc : CurA w g A c bs k er) (hl : bs.length ≤ 1000000) :
    Calls Tryd.prog 74 #[.pointer (some ⟨g, 0, none⟩), .int .i64 width] w (RetCVA w g A c bs (.int .u64 (numC bs k er width).1) (numC bs k er width).2.1 (numC bs k er width).2.2) := by
  by_cases h1 : width = 1
  · subst h1; exact numberA1 g A c bs k er w hc hl
  by_cases h2 : width = 2
  · subst h2; exact numberA2 g A c bs k er w hc hl
  by_cases h4 : width = 4
  · subst h4; exact numberA4 g A c bs k er w hc hl
  by_cases h8 : width = 8
  · subst h8; exact numberA8 g A c bs k er w hc hl
  have ho : okW width = false := by simp [okW, h1, h2, h4, h8]
  have hn : numC bs k er width = (0, k, er) := by simp [numC, ho]
  rw [hn]
  have Ho := Lib.hid ho
  have Hc := Lib.hid hc
  clear ho hc hn h1 h2 h4 h8
  go_enter Tryd.func74, Tryd.ntmps74
  go_wp2_with fail
  refine (oknown_calls _ _).mono ?_
  rintro e w' ⟨rfl, rfl⟩
  rw [Ho.out]
  go_wp2_with fail
  go_ret
  exact ⟨rfl, grown_refl _ _, Hc.out⟩
set_option maxHeartbeats 400000 in
theorem ctextA_calls (g : Nat) (A : Option Addr) (c : Nat) (bs : List UInt8) (k : Nat) (er : Int) (width most : Int) (w : World) (hc : CurA w g A c bs k er) (hl : bs.length ≤ 1000000) (hm : most ≤ 9223372036854775807) :
    Calls Tryd.prog 112 #[.pointer (some ⟨g, 0, none⟩), .int .i64 width, .int .i64 most] w (RetCVA w g A c bs (.string ⟨(textC bs k er width most).1.toArray⟩) (textC bs k er width most).2.1 (textC bs k er width most).2.2) := by
  have Hc := Lib.hid hc
  have HT : Hid (textC bs k er width most = if (numC bs k er width).2.2 ≠ 0 then ([], (numC bs k er width).2)
    else if most < 0 ∨ most < (numC bs k er width).1 then ([], (numC bs k er width).2.1, 2)
    else takeC bs (numC bs k er width).2.1 0 (numC bs k er width).1) := rfl
  clear hc
  have hlt := numC_lt bs k er width
  generalize textC bs k er width most = T at *
  go_enter Tryd.func112, Tryd.ntmps112
  go_wp2_with fail
  refine (cnumberA_calls g A c bs k er width _ Hc.out hl).mono ?_
  rintro e w1 ⟨rfl, hg, hcur⟩
  generalize numC bs k er width = r at *
  obtain ⟨n, k', er'⟩ := r
  dsimp only at *
  have Hg := Lib.hid hg
  have HC := Lib.hid hcur
  obtain ⟨hblk, hrd, hcap, hcm, hne, hk⟩ := hcur
  have c2 : w1.cell? ⟨g, 2, none⟩ = some (.int .i64 er') := block_cell hblk 2
  have f2 : w1.frozen? ⟨g, 2, none⟩ = false := block_frozen hblk 2
  clear hblk hrd hcap hcm hne hk hg
  by_cases he : er' = 0
  · subst he
    by_cases h1 : most < 0
    · have HT2 : Hid (T = ([], k', 2)) := by show _ = _; rw [HT.out]; simp [h1]
      go_wp2
      go_ret
      rw [HT2.out]
      exact ⟨rfl, Hg.out.trans (grown_setCellC _ _ _ _), HC.out.setErr 2⟩
    · by_cases h2 : most < n
      · have HT2 : Hid (T = ([], k', 2)) := by show _ = _; rw [HT.out]; simp [h2]
        have hmod : most % 18446744073709551616 = most := by omega
        go_wp2
        go_ret
        rw [HT2.out]
        exact ⟨rfl, Hg.out.trans (grown_setCellC _ _ _ _), HC.out.setErr 2⟩
      · have HT2 : Hid (T = takeC bs k' 0 n) := by show _ = _; rw [HT.out]; simp [h1, h2]
        go_wp2_with fail
        refine (takeA_calls g A c bs k' 0 n _ HC.out hl (by omega)).mono ?_
        rintro e w2 ⟨A2, c2', rfl, hr, hcap, hg, hcur⟩
        generalize takeC bs k' 0 n = r at *
        obtain ⟨l, k2, er2⟩ := r
        dsimp only at *
        have hstr := run_str w2 A2 c2' l hr
        have HG := Lib.hid (Hg.out.trans hg)
        have HC2 := Lib.hid hcur
        clear hg hcur hr
        go_wp2_with fail
        go_ret
        rw [HT2.out]
        exact ⟨rfl, HG.out, HC2.out⟩
  · have h0 : (er' != 0) = true := by simpa using he
    have HT2 : Hid (T = ([], k', er')) := by show _ = _; rw [HT.out]; simp [he]
    clear he
    go_wp2
    go_ret
    rw [HT2.out]
    exact ⟨rfl, Hg.out, HC.out⟩

theorem cleftA_calls (g : Nat) (A : Option Addr) (c : Nat) (bs : List UInt8) (k : Nat) (er : Int) (w : World) (hc : CurA w g A c bs k er) (hl : bs.length ≤ 1000000) :
    Calls Tryd.prog 78 #[.pointer (some ⟨g, 0, none⟩)] w fun e w' => e = .returned (.int .i64 ((bs.length - k : Nat) : Int)) ∧ ∃ n, w' = w.drewN n := by
  obtain ⟨hblk, hrd, hcap, hcm, hne, hk⟩ := hc
  have c0 : w.cell? ⟨g, 0, none⟩ = some (.slice A bs.length c) := block_cell hblk 0
  have c1 : w.cell? ⟨g, 1, none⟩ = some (.int .i64 k) := block_cell hblk 1
  clear hblk hrd hcap hcm hne
  go_enter Tryd.func78, Tryd.ntmps78
  go_wp2
  go_quiet (fail)
  go_wp2
  go_ret
  exact ⟨ret_int (by omega), _, rfl⟩

theorem cerrA_calls (g : Nat) (A : Option Addr) (c : Nat) (bs : List UInt8) (k : Nat) (er : Int) (w : World) (hc : CurA w g A c bs k er) :
    Calls Tryd.prog 77 #[.pointer (some ⟨g, 0, none⟩)] w fun e w' => e = .returned (.int .i64 er) ∧ w = w' := by
  obtain ⟨hblk, hrd, hcap, hcm, hne, hk⟩ := hc
  have c2 : w.cell? ⟨g, 2, none⟩ = some (.int .i64 er) := block_cell hblk 2
  clear hblk hrd hcap hcm hne
  go_enter Tryd.func77, Tryd.ntmps77
  go_wp2
  go_ret
  exact ⟨rfl, rfl⟩

end Go.Proofs.YtkbjnlbbfapgdaaDoor

