/- Contracts of package octet (Put, Fits) and of ref01.Fits. -/
import Derived.Test.YtanlelignljbiaaRef01
set_option maxRecDepth 100000
namespace Go.Proofs.Ytanlelignljbiaa
open Go.RowKit

theorem ret_bool {a b : Bool} (h : a = b) : Ending.returned (.bool a) = .returned (.bool b) := by rw [h]
theorem fitsW_no {width : Int} {n : Nat} (h : okW width = false) : fitsW width n = false := by simp [fitsW, h]
theorem fitsW_yes {width : Int} {n : Nat} (h : okW width = true) : fitsW width n = decide (n < 256 ^ width.toNat) := by simp [fitsW, h]

/-- what Put answers -/
def putW (bs : List UInt8) (width : Int) (n : Nat) : List UInt8 := if okW width then bs ++ leB width.toNat n else bs

/-- behind the make: the local array holds the number's bytes; the new row is another block -/
def PutMid (w w1 : World) (g k n : Nat) : Prop := Ext w w1 ∧ g ≠ w.heap.size ∧ RdB w1 (some ⟨w.heap.size, 0, none⟩) (leB k n)
theorem putMid_mk {w w1 : World} {g k n : Nat} {cs : Array Value} {E : TypeId} (hc : cs.toList.take k = (leB k n).map bv) (e1 : Ext (w.alloc (.cells cs E)) w1) (hg : (w.alloc (.cells cs E)).heap.size = g) : PutMid w w1 g k n := by
  refine ⟨((Ext.refl _).alloc _).trans e1, ?_, ?_⟩
  · simp at hg; omega
  · unfold RdB
    rw [← hc]
    exact ((Rd.of_block (heap_new w _)).take k).ext e1
theorem bv_of {q : Nat} {x : Int} (h : x = (q : Int) % 256) : Value.int .u8 x = bv (UInt8.ofNat q) := by rw [bv, ofNat_toNat, h]
theorem putMid8 {w w1 : World} {g n : Nat} {E : TypeId} (_hn : n < 18446744073709551616) (e1 : Ext (w.alloc (.cells #[.int .u8 (n % 256), .int .u8 (n / 256 % 256), .int .u8 (n / 65536 % 256), .int .u8 (n / 16777216 % 256), .int .u8 (n / 4294967296 % 256), .int .u8 (n / 1099511627776 % 256), .int .u8 (n / 281474976710656 % 256), .int .u8 (n / 72057594037927936)] E)) w1)
    (hg : (w.alloc (.cells #[.int .u8 (n % 256), .int .u8 (n / 256 % 256), .int .u8 (n / 65536 % 256), .int .u8 (n / 16777216 % 256), .int .u8 (n / 4294967296 % 256), .int .u8 (n / 1099511627776 % 256), .int .u8 (n / 281474976710656 % 256), .int .u8 (n / 72057594037927936)] E)).heap.size = g) : PutMid w w1 g 8 n := by
  refine putMid_mk ?_ e1 hg
  simp only [leB, List.map_cons, List.map_nil, List.take_succ_cons, List.take_zero, List.cons.injEq, and_true]
  refine ⟨?_, ?_, ?_, ?_, ?_, ?_, ?_, ?_⟩ <;> apply bv_of <;> omega

set_option maxHeartbeats 400000 in
theorem put8 (A : Option Addr) (c : Nat) (bs : List UInt8) (n : Nat) (w : World) (hb : RdB w A bs) (hl : bs.length ≤ 1000000) (hn : n < 18446744073709551616) :
    Calls Try.prog 39 #[.slice A bs.length c, .int .i64 8, .int .u64 n] w (RetB w (bs ++ leB 8 n)) := by
  have Hb := Lib.hid hb
  clear hb
  go_enter Try.func39, Try.ntmps39
  go_wp2_with (first | (at_make; refine makB _ rfl _ _ rfl w.heap.size _ _ _ (bs.length + 8) rfl rfl ?_ ?c1 ?c2 ?c3; intro g w1 h1 e1 hg; have HP : Hid (PutMid w w1 g 8 n) := putMid8 hn e1 hg; clear hg; have H1 := Lib.hid h1; clear h1 e1) | (at_builtin; refine appB _ rfl (.tmp 56) (.tmp 57) rfl w.heap.size _ _ [] rfl A c bs rfl ?_ H1.out ?c4 ?c5 ?c6; intro A2 c2 w2 h2 g2 k2; have H2 := Lib.hid h2; have G2 := Lib.hid g2; clear h2 g2 k2) | (at_builtin; refine appB _ rfl (.tmp 59) (.tmp 61) rfl w.heap.size A2 c2 ([] ++ bs) rfl _ _ (leB 8 n) rfl ?_ H2.out ?c7 ?c8 ?c9; intro A3 c3 w3 h3 g3 k3))
  case c1 => simp
  case c2 => rfl
  case c3 => omega
  case c4 => exact Hb.out.ext HP.out.1
  case c5 => simp; omega
  case c6 => exact HP.out.1.size
  case c7 => exact HP.out.2.2.grown G2.out (fun ad h => by cases h; intro h; exact HP.out.2.1 (by simpa [blk] using h.symm))
  case c8 => simp [leB_length]; omega
  case c9 => exact Nat.le_trans HP.out.1.size G2.out.size
  go_ret
  rw [List.nil_append] at h3
  have e2 := HP.out.1.grown G2.out (fun k hk => (H1.out.base_ k hk).1)
  refine ⟨A3, c3, ?_, h3, e2.grown g3 (fun k hk => (H2.out.base_ k hk).1)⟩
  rw [List.length_append]; rfl

theorem putMid4 {w w1 : World} {g n : Nat} {E : TypeId} (_hn : n < 18446744073709551616) (e1 : Ext (w.alloc (.cells #[.int .u8 (n % 256), .int .u8 (n / 256 % 256), .int .u8 (n / 65536 % 256), .int .u8 (n / 16777216 % 256), .int .u8 0, .int .u8 0, .int .u8 0, .int .u8 0] E)) w1)
    (hg : (w.alloc (.cells #[.int .u8 (n % 256), .int .u8 (n / 256 % 256), .int .u8 (n / 65536 % 256), .int .u8 (n / 16777216 % 256), .int .u8 0, .int .u8 0, .int .u8 0, .int .u8 0] E)).heap.size = g) : PutMid w w1 g 4 n := by
  refine putMid_mk ?_ e1 hg
  simp only [leB, List.map_cons, List.map_nil, List.take_succ_cons, List.take_zero, List.cons.injEq, and_true]
  refine ⟨?_, ?_, ?_, ?_⟩ <;> apply bv_of <;> omega

set_option maxHeartbeats 400000 in
theorem put4 (A : Option Addr) (c : Nat) (bs : List UInt8) (n : Nat) (w : World) (hb : RdB w A bs) (hl : bs.length ≤ 1000000) (hn : n < 18446744073709551616) :
    Calls Try.prog 39 #[.slice A bs.length c, .int .i64 4, .int .u64 n] w (RetB w (bs ++ leB 4 n)) := by
  have Hb := Lib.hid hb
  clear hb
  go_enter Try.func39, Try.ntmps39
  go_wp2_with (first | (at_make; refine makB _ rfl _ _ rfl w.heap.size _ _ _ (bs.length + 4) rfl rfl ?_ ?c1 ?c2 ?c3; intro g w1 h1 e1 hg; have HP : Hid (PutMid w w1 g 4 n) := putMid4 hn e1 hg; clear hg; have H1 := Lib.hid h1; clear h1 e1) | (at_builtin; refine appB _ rfl (.tmp 56) (.tmp 57) rfl w.heap.size _ _ [] rfl A c bs rfl ?_ H1.out ?c4 ?c5 ?c6; intro A2 c2 w2 h2 g2 k2; have H2 := Lib.hid h2; have G2 := Lib.hid g2; clear h2 g2 k2) | (at_builtin; refine appB _ rfl (.tmp 59) (.tmp 61) rfl w.heap.size A2 c2 ([] ++ bs) rfl _ _ (leB 4 n) rfl ?_ H2.out ?c7 ?c8 ?c9; intro A3 c3 w3 h3 g3 k3))
  case c1 => simp
  case c2 => rfl
  case c3 => omega
  case c4 => exact Hb.out.ext HP.out.1
  case c5 => simp; omega
  case c6 => exact HP.out.1.size
  case c7 => exact HP.out.2.2.grown G2.out (fun ad h => by cases h; intro h; exact HP.out.2.1 (by simpa [blk] using h.symm))
  case c8 => simp [leB_length]; omega
  case c9 => exact Nat.le_trans HP.out.1.size G2.out.size
  go_ret
  rw [List.nil_append] at h3
  have e2 := HP.out.1.grown G2.out (fun k hk => (H1.out.base_ k hk).1)
  refine ⟨A3, c3, ?_, h3, e2.grown g3 (fun k hk => (H2.out.base_ k hk).1)⟩
  rw [List.length_append]; rfl

theorem putMid2 {w w1 : World} {g n : Nat} {E : TypeId} (_hn : n < 18446744073709551616) (e1 : Ext (w.alloc (.cells #[.int .u8 (n % 256), .int .u8 (n / 256 % 256), .int .u8 0, .int .u8 0, .int .u8 0, .int .u8 0, .int .u8 0, .int .u8 0] E)) w1)
    (hg : (w.alloc (.cells #[.int .u8 (n % 256), .int .u8 (n / 256 % 256), .int .u8 0, .int .u8 0, .int .u8 0, .int .u8 0, .int .u8 0, .int .u8 0] E)).heap.size = g) : PutMid w w1 g 2 n := by
  refine putMid_mk ?_ e1 hg
  simp only [leB, List.map_cons, List.map_nil, List.take_succ_cons, List.take_zero, List.cons.injEq, and_true]
  refine ⟨?_, ?_⟩ <;> apply bv_of <;> omega

set_option maxHeartbeats 400000 in
theorem put2 (A : Option Addr) (c : Nat) (bs : List UInt8) (n : Nat) (w : World) (hb : RdB w A bs) (hl : bs.length ≤ 1000000) (hn : n < 18446744073709551616) :
    Calls Try.prog 39 #[.slice A bs.length c, .int .i64 2, .int .u64 n] w (RetB w (bs ++ leB 2 n)) := by
  have Hb := Lib.hid hb
  clear hb
  go_enter Try.func39, Try.ntmps39
  go_wp2_with (first | (at_make; refine makB _ rfl _ _ rfl w.heap.size _ _ _ (bs.length + 2) rfl rfl ?_ ?c1 ?c2 ?c3; intro g w1 h1 e1 hg; have HP : Hid (PutMid w w1 g 2 n) := putMid2 hn e1 hg; clear hg; have H1 := Lib.hid h1; clear h1 e1) | (at_builtin; refine appB _ rfl (.tmp 56) (.tmp 57) rfl w.heap.size _ _ [] rfl A c bs rfl ?_ H1.out ?c4 ?c5 ?c6; intro A2 c2 w2 h2 g2 k2; have H2 := Lib.hid h2; have G2 := Lib.hid g2; clear h2 g2 k2) | (at_builtin; refine appB _ rfl (.tmp 59) (.tmp 61) rfl w.heap.size A2 c2 ([] ++ bs) rfl _ _ (leB 2 n) rfl ?_ H2.out ?c7 ?c8 ?c9; intro A3 c3 w3 h3 g3 k3))
  case c1 => simp
  case c2 => rfl
  case c3 => omega
  case c4 => exact Hb.out.ext HP.out.1
  case c5 => simp; omega
  case c6 => exact HP.out.1.size
  case c7 => exact HP.out.2.2.grown G2.out (fun ad h => by cases h; intro h; exact HP.out.2.1 (by simpa [blk] using h.symm))
  case c8 => simp [leB_length]; omega
  case c9 => exact Nat.le_trans HP.out.1.size G2.out.size
  go_ret
  rw [List.nil_append] at h3
  have e2 := HP.out.1.grown G2.out (fun k hk => (H1.out.base_ k hk).1)
  refine ⟨A3, c3, ?_, h3, e2.grown g3 (fun k hk => (H2.out.base_ k hk).1)⟩
  rw [List.length_append]; rfl

theorem putMid1 {w w1 : World} {g n : Nat} {E : TypeId} (_hn : n < 18446744073709551616) (e1 : Ext (w.alloc (.cells #[.int .u8 (n % 256), .int .u8 0, .int .u8 0, .int .u8 0, .int .u8 0, .int .u8 0, .int .u8 0, .int .u8 0] E)) w1)
    (hg : (w.alloc (.cells #[.int .u8 (n % 256), .int .u8 0, .int .u8 0, .int .u8 0, .int .u8 0, .int .u8 0, .int .u8 0, .int .u8 0] E)).heap.size = g) : PutMid w w1 g 1 n := by
  refine putMid_mk ?_ e1 hg
  simp only [leB, List.map_cons, List.map_nil, List.take_succ_cons, List.take_zero, List.cons.injEq, and_true]
  apply bv_of; omega

set_option maxHeartbeats 400000 in
theorem put1 (A : Option Addr) (c : Nat) (bs : List UInt8) (n : Nat) (w : World) (hb : RdB w A bs) (hl : bs.length ≤ 1000000) (hn : n < 18446744073709551616) :
    Calls Try.prog 39 #[.slice A bs.length c, .int .i64 1, .int .u64 n] w (RetB w (bs ++ leB 1 n)) := by
  have Hb := Lib.hid hb
  clear hb
  go_enter Try.func39, Try.ntmps39
  go_wp2_with (first | (at_make; refine makB _ rfl _ _ rfl w.heap.size _ _ _ (bs.length + 1) rfl rfl ?_ ?c1 ?c2 ?c3; intro g w1 h1 e1 hg; have HP : Hid (PutMid w w1 g 1 n) := putMid1 hn e1 hg; clear hg; have H1 := Lib.hid h1; clear h1 e1) | (at_builtin; refine appB _ rfl (.tmp 56) (.tmp 57) rfl w.heap.size _ _ [] rfl A c bs rfl ?_ H1.out ?c4 ?c5 ?c6; intro A2 c2 w2 h2 g2 k2; have H2 := Lib.hid h2; have G2 := Lib.hid g2; clear h2 g2 k2) | (at_builtin; refine appB _ rfl (.tmp 59) (.tmp 61) rfl w.heap.size A2 c2 ([] ++ bs) rfl _ _ (leB 1 n) rfl ?_ H2.out ?c7 ?c8 ?c9; intro A3 c3 w3 h3 g3 k3))
  case c1 => simp
  case c2 => rfl
  case c3 => omega
  case c4 => exact Hb.out.ext HP.out.1
  case c5 => simp; omega
  case c6 => exact HP.out.1.size
  case c7 => exact HP.out.2.2.grown G2.out (fun ad h => by cases h; intro h; exact HP.out.2.1 (by simpa [blk] using h.symm))
  case c8 => simp [leB_length]; omega
  case c9 => exact Nat.le_trans HP.out.1.size G2.out.size
  go_ret
  rw [List.nil_append] at h3
  have e2 := HP.out.1.grown G2.out (fun k hk => (H1.out.base_ k hk).1)
  refine ⟨A3, c3, ?_, h3, e2.grown g3 (fun k hk => (H2.out.base_ k hk).1)⟩
  rw [List.length_append]; rfl

set_option maxHeartbeats 400000 in
theorem put0 (A : Option Addr) (c : Nat) (bs : List UInt8) (width : Int) (n : Nat) (w : World) (hb : RdB w A bs) (hl : bs.length ≤ 1000000) (h1 : (width == 1) = false) (h2 : (width == 2) = false) (h4 : (width == 4) = false) (h8 : (width == 8) = false) :
    Calls Try.prog 39 #[.slice A bs.length c, .int .i64 width, .int .u64 n] w (RetB w bs) := by
  have Hb := Lib.hid hb
  clear hb
  go_enter Try.func39, Try.ntmps39
  go_wp2_with (first | (at_make; refine makB _ rfl _ _ rfl w.heap.size _ _ _ bs.length rfl rfl ?_ ?c1 ?c2 ?c3; intro g w1 h1 e1 hg; have HP := Lib.hid (((Ext.refl w).alloc _).trans e1); clear hg; have H1 := Lib.hid h1; clear h1 e1) | (at_builtin; refine appB _ rfl (.tmp 56) (.tmp 57) rfl w.heap.size _ _ [] rfl A c bs rfl ?_ H1.out ?c4 ?c5 ?c6; intro A2 c2 w2 h2 g2 k2; have H2 := Lib.hid h2; have G2 := Lib.hid g2; clear h2 g2 k2) | (at_builtin; refine appB _ rfl (.tmp 59) (.tmp 61) rfl w.heap.size A2 c2 ([] ++ bs) rfl _ _ [] rfl ?_ H2.out ?c7 ?c8 ?c9; intro A3 c3 w3 h3 g3 k3))
  case c1 => simp
  case c2 => rfl
  case c3 => omega
  case c4 => exact Hb.out.ext HP.out
  case c5 => simp; omega
  case c6 => exact HP.out.size
  case c7 => exact RdB.nil
  case c8 => simp; omega
  case c9 => exact Nat.le_trans HP.out.size G2.out.size
  go_ret
  rw [List.nil_append, List.append_nil] at h3
  have e2 := HP.out.grown G2.out (fun k hk => (H1.out.base_ k hk).1)
  exact ⟨A3, c3, rfl, h3, e2.grown g3 (fun k hk => (H2.out.base_ k hk).1)⟩

theorem put_calls (A : Option Addr) (c : Nat) (bs : List UInt8) (width : Int) (n : Nat) (w : World) (hb : RdB w A bs) (hl : bs.length ≤ 1000000) (hn : n < 18446744073709551616) :
    Calls Try.prog 39 #[.slice A bs.length c, .int .i64 width, .int .u64 n] w (RetB w (putW bs width n)) := by
  by_cases h1 : width = 1
  · subst h1; exact put1 A c bs n w hb hl hn
  by_cases h2 : width = 2
  · subst h2; exact put2 A c bs n w hb hl hn
  by_cases h4 : width = 4
  · subst h4; exact put4 A c bs n w hb hl hn
  by_cases h8 : width = 8
  · subst h8; exact put8 A c bs n w hb hl hn
  have e1 : (width == 1) = false := by simpa using h1
  have e2 : (width == 2) = false := by simpa using h2
  have e4 : (width == 4) = false := by simpa using h4
  have e8 : (width == 8) = false := by simpa using h8
  have : putW bs width n = bs := by simp [putW, okW, e1, e2, e4, e8]
  rw [this]
  exact put0 A c bs width n w hb hl e1 e2 e4 e8
end Go.Proofs.Ytanlelignljbiaa
