/- Contracts of ref02.Seal, ref12.Box, box.Put, box.Size, law12.awake; the walk of BoxPuts. -/
import Derived.Test.YtjbejaieihchmaaCrc
namespace Go.Proofs.Ytjbejaieihchmaa
open Go.RowKit

def RetB2 (w : World) (bs : List UInt8) (x : Value) (e : Ending) (w' : World) : Prop :=
  ∃ A c, e = .returned (.tuple #[.slice A bs.length c, x]) ∧ OwnB w' w.heap.size A c bs ∧ Ext w w'

def sealB (bs : List UInt8) : List UInt8 := bs ++ leB 4 (crcSum bs)
def innerB (body : List UInt8) : List UInt8 := leB 2 body.length ++ body
def boxB (body : List UInt8) : List UInt8 := sealB (innerB body)
theorem sealB_length (bs : List UInt8) : (sealB bs).length = bs.length + 4 := by simp [sealB, leB_length]
theorem innerB_length (bs : List UInt8) : (innerB bs).length = bs.length + 2 := by simp [innerB, leB_length]; omega
theorem boxB_length (bs : List UInt8) : (boxB bs).length = bs.length + 6 := by rw [boxB, sealB_length, innerB_length]

set_option maxHeartbeats 400000 in
theorem rseal_calls (A : Option Addr) (c : Nat) (bs : List UInt8) (w : World) (hb : RdB w A bs) (hl : bs.length ≤ 1000000) :
    Calls Try.prog 31 #[.slice A bs.length c] w (RetB w (sealB bs)) := by
  have Hb := Lib.hid hb
  clear hb
  have hs := crcSum_lt bs
  go_enter Try.func31, Try.ntmps31
  go_wp2_with (at_builtin; refine cpyE w rfl (.tmp 3) (.tmp 4) rfl rfl A c bs rfl ?_ Hb.out ?c2; intro A1 c1 w1 h1 e1; have H1 := Lib.hid h1; have E1 := Lib.hid e1; clear h1 e1)
  case c2 => omega
  refine (rsum_calls A c bs _ (Hb.out.ext E1.out) hl).mono ?_
  rintro e w' ⟨rfl, rfl⟩
  have HS : Hid (sealB bs = bs ++ leB 4 (crcSum bs)) := rfl
  generalize crcSum bs = q at *
  go_wp2_with fail
  refine (bytes_calls 4 q _ (by omega) (by omega)).mono ?_
  rintro e w2 ⟨A2, c2, rfl, h2, e2⟩
  have hl4 : (leB 4 q).length ≤ 8 := by rw [leB_length]; omega
  generalize leB 4 q = L at *
  have H2 := Lib.hid h2; have E2 := Lib.hid (E1.out.trans e2); have H12 := Lib.hid (H1.out.ext e2); clear h2 e2
  go_wp2_with (at_builtin; refine appB _ rfl (.tmp 5) (.tmp 9) rfl w.heap.size A1 c1 bs rfl A2 c2 L rfl ?_ H12.out H2.out.rd ?c3 E2.out.size; intro A3 c3 w3 h3 g3 k3; have H3 := Lib.hid h3; have E3 : Hid (Ext w w3) := E2.out.grown g3 (fun g hg => (H1.out.base_ g hg).1); clear h3 g3 k3)
  case c3 => omega
  go_ret
  rw [HS.out]
  exact ⟨A3, c3, by rw [List.length_append]; rfl, H3.out, E3.out⟩

set_option maxHeartbeats 400000 in
theorem rbox_calls (A : Option Addr) (c : Nat) (bs : List UInt8) (w : World) (hb : RdB w A bs) (hl : bs.length ≤ 100000) :
    Calls Try.prog 28 #[.slice A bs.length c] w (RetB w (boxB bs)) := by
  have Hb := Lib.hid hb
  clear hb
  have HI : Hid (innerB bs = leB 2 bs.length ++ bs) := rfl
  have HB : Hid (boxB bs = sealB (innerB bs)) := rfl
  generalize boxB bs = X at *
  generalize innerB bs = Y at *
  go_enter Try.func28, Try.ntmps28
  go_wp2_with fail
  refine (bytes_calls 2 bs.length _ (by omega) (by omega)).mono ?_
  rintro e w1 ⟨A1, c1, rfl, h1, e1⟩
  have hl2 : (leB 2 bs.length).length = 2 := leB_length _ _
  have hl4 : (leB 2 bs.length).length ≤ 2 := by omega
  generalize leB 2 bs.length = L at *
  clear hl2
  have H1 := Lib.hid h1; have E1 := Lib.hid e1; clear h1 e1
  go_wp2_with (at_builtin; refine appB _ rfl (.tmp 6) (.tmp 7) rfl w.heap.size A1 c1 L rfl A c bs rfl ?_ H1.out (Hb.out.ext E1.out) ?c3 E1.out.size; intro A3 c3 w3 h3 g3 k3; have H3 := Lib.hid h3; have E3 : Hid (Ext w w3) := E1.out.grown g3 (fun g hg => (H1.out.base_ g hg).1); clear h3 g3 k3)
  case c3 => omega
  have hll : L.length + bs.length = Y.length := by rw [HI.out, List.length_append]
  rw [hll]
  have H3' : Hid (OwnB w3 w.heap.size A3 c3 Y) := by rw [HI.out]; exact H3.out
  have hY : Y.length ≤ 100002 := by omega
  clear hll
  refine (rseal_calls A3 c3 Y _ H3'.out.rd (by omega)).mono ?_
  rintro e w4 ⟨A4, c4, rfl, h4, e4⟩
  rw [← HB.out] at h4 ⊢
  have H4 := Lib.hid (h4.lower E3.out.size); have E4 := Lib.hid (E3.out.trans e4); clear h4 e4
  go_wp2_with fail
  go_ret
  exact ⟨A4, c4, rfl, H4.out, E4.out⟩

theorem size_calls (n : Int) (w : World) (h0 : -9223372036854775808 ≤ n) (h1 : n ≤ 9223372036854775807) :
    Calls Try.prog 27 #[.int .i64 n] w fun e w' => e = .returned (.int .i64 (if 1 ≤ n ∧ n ≤ 4096 then n + 6 else 0)) ∧ w = w' := by
  by_cases ha : n < 1
  · rw [if_neg (by omega)]
    go_enter Try.func27, Try.ntmps27
    go_wp2
    go_ret
    exact ⟨rfl, rfl⟩
  by_cases hb : 4096 < n
  · rw [if_neg (by omega)]
    go_enter Try.func27, Try.ntmps27
    go_wp2
    go_ret
    exact ⟨rfl, rfl⟩
  rw [if_pos (by omega)]
  go_enter Try.func27, Try.ntmps27
  go_wp2
  go_ret
  exact ⟨ret_int (by omega), rfl⟩

set_option maxHeartbeats 400000 in
theorem bput_calls (A B : Option Addr) (c d : Nat) (xs bs : List UInt8) (w : World) (ha : RdB w A xs) (hb : RdB w B bs) (hx : xs.length ≤ 100000) (hl1 : 1 ≤ bs.length) (hl : bs.length ≤ 4096) :
    Calls Try.prog 26 #[.slice A xs.length c, .slice B bs.length d] w (RetB2 w (xs ++ boxB bs) (.int .i64 0)) := by
  have Ha := Lib.hid ha
  have Hb := Lib.hid hb
  clear ha hb
  have HI : Hid (innerB bs = leB 2 bs.length ++ bs) := rfl
  have HB : Hid (boxB bs = sealB (innerB bs)) := rfl
  have hBl : (boxB bs).length ≤ 5000 := by rw [boxB_length]; omega
  generalize boxB bs = X at *
  generalize innerB bs = Y at *
  go_enter Try.func26, Try.ntmps26
  go_wp2_with fail
  refine (put2 none 0 [] bs.length _ RdB.nil (by decide) (by omega)).mono ?_
  rintro e w1 ⟨A1, c1, rfl, h1, e1⟩
  rw [List.nil_append] at h1 ⊢
  have hl2 : (leB 2 bs.length).length = 2 := leB_length _ _
  have hl4 : (leB 2 bs.length).length ≤ 2 := by omega
  generalize leB 2 bs.length = L at *
  clear hl2
  have H1 := Lib.hid h1; have E1 := Lib.hid e1; clear h1 e1
  have tok1 : True := trivial
  go_wp2_with (first | (at_builtin; have _t := tok1; refine appB _ rfl (.tmp 16) (.tmp 17) rfl w.heap.size A1 c1 L rfl B d bs rfl ?_ H1.out (Hb.out.ext E1.out) ?c3 E1.out.size; clear tok1; intro A3 c3 w3 h3 g3 k3; have H3 := Lib.hid h3; have E3 : Hid (Ext w w3) := E1.out.grown g3 (fun g hg => (H1.out.base_ g hg).1); clear h3 g3 k3) | (at_builtin; refine cpyB _ rfl (.const (.slice none 0 0)) (.tmp 19) rfl rfl A c xs rfl ?_ (Ha.out.ext E3.out) ?c4; intro A4 c4 w4 h4 e4; have H4 := Lib.hid h4; have E4 := Lib.hid (E3.out.trans e4); have H34 := Lib.hid (H3.out.ext e4); clear h4 e4))
  case c3 => omega
  case c4 => omega
  have hll : L.length + bs.length = Y.length := by rw [HI.out, List.length_append]
  rw [hll]
  have H3' : Hid (OwnB w4 w.heap.size A3 c3 Y) := by rw [HI.out]; exact H34.out
  have hY : Y.length ≤ 100002 := by omega
  clear hll
  refine (seal_calls A3 c3 Y _ H3'.out.rd (by omega)).mono ?_
  rintro e w5 ⟨A5, c5, rfl, h5, e5⟩
  have hXY : Y ++ leB 4 (crcSum Y) = X := HB.out.symm
  rw [hXY] at h5 ⊢
  clear hXY
  have H5 := Lib.hid h5; have E5 := Lib.hid (E4.out.trans e5); have H45 := Lib.hid ((H4.out.lower E3.out.size).ext e5); clear h5 e5
  go_wp2_with (at_builtin; refine appB _ rfl (.tmp 20) (.tmp 22) rfl w.heap.size A4 c4 xs rfl A5 c5 X rfl ?_ H45.out H5.out.rd ?c5 E5.out.size; intro A6 c6 w6 h6 g6 k6; have H6 := Lib.hid h6; have E6 : Hid (Ext w w6) := E5.out.grown g6 (fun g hg => (H45.out.base_ g hg).1); clear h6 g6 k6)
  case c5 => omega
  go_ret2
  exact ⟨A6, c6, by rw [List.length_append]; rfl, H6.out, E6.out⟩

set_option maxHeartbeats 400000 in
theorem bput_bad (A B : Option Addr) (c d : Nat) (xs bs : List UInt8) (w : World) (hl0 : bs.length ≤ 9223372036854775807) (hl : bs.length = 0 ∨ 4096 < bs.length) :
    Calls Try.prog 26 #[.slice A xs.length c, .slice B bs.length d] w fun e w' => e = .returned (.tuple #[.slice none 0 0, .int .i64 (if bs.length = 0 then 2 else 3)]) ∧ w = w' := by
  rcases hl with hl | hl
  · have h0 : ((bs.length : Int) == 0) = true := by simp [hl]
    rw [if_pos hl]
    clear hl
    go_enter Try.func26, Try.ntmps26
    go_wp2
    go_ret2
    exact ⟨rfl, rfl⟩
  · rw [if_neg (by omega)]
    go_enter Try.func26, Try.ntmps26
    go_wp2
    go_ret2
    exact ⟨rfl, rfl⟩


set_option maxHeartbeats 400000 in
theorem awake12 (w : World) : Calls Try.prog 25 #[] w (RetV w (.bool true)) := by
  have kc := fun (w : World) (C : Array Value) (n c : Nat) => Lib.run_convert_bytes_const (P := Try.prog) w 22 5 C n c Try.underlying22 Try.underlying5
  go_enter Try.func25, Try.ntmps25
  go_wp2_with fail
  refine (bput_calls none (some ⟨w.heap.size, 0, none⟩) 0 1 [] [97] _ RdB.nil (Rd.of_block (heap_new w _)) (by decide) (by decide) (by decide)).mono ?_
  rintro e w1 ⟨A, c, rfl, h1, e1⟩
  have E1 := Lib.hid ((((Ext.refl w).alloc (.cells #[.int .u8 97] 5 (1, 2)))).trans e1)
  have hlen : (([] : List UInt8) ++ boxB [97]).length = 7 := by rw [List.nil_append, boxB_length]; rfl
  obtain ⟨ad, rfl, hc0⟩ := h1.rd.at_ (k := 0) (by rw [hlen]; omega)
  obtain ⟨ad', hh, hc2⟩ := h1.rd.at_ (k := 2) (by rw [hlen]; omega)
  cases hh
  have h0' : w1.cell? ad = some (.int .u8 1) := hc0
  have h2' : w1.cell? { block := ad.block, off := ad.off + 2 } = some (.int .u8 97) := hc2
  rw [hlen]
  clear hc0 hc2 hlen h1 e1 kc
  go_wp2_with fail
  refine (size_calls 1 _ (by omega) (by omega)).mono ?_
  rintro e w' ⟨rfl, rfl⟩
  go_wp2_with fail
  go_ret
  exact ⟨rfl, E1.out⟩
end Go.Proofs.Ytjbejaieihchmaa
