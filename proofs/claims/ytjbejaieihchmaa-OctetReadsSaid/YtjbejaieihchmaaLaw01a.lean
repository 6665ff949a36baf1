/- law01.awake; the walk of OctetPuts. -/
import Derived.Test.YtjbejaieihchmaaOctet
namespace Go.Proofs.Ytjbejaieihchmaa
open Go.RowKit

set_option maxHeartbeats 400000 in
theorem awake01 (w : World) : Calls Try.prog 14 #[] w (RetV w (.bool true)) := by
  go_enter Try.func14, Try.ntmps14
  go_wp2_with fail
  refine (put2 none 0 [] 258 _ RdB.nil (by simp) (by omega)).mono ?_
  rintro e w1 ⟨A, c, rfl, hown, hext⟩
  obtain ⟨ad, rfl, h0⟩ := hown.rd.at_ (k := 0) (by decide)
  obtain ⟨ad', hh, h1⟩ := hown.rd.at_ (k := 1) (by decide)
  cases hh
  have h0' : w1.cell? ad = some (.int .u8 2) := h0
  have h1' : w1.cell? { block := ad.block, off := ad.off + 1 } = some (.int .u8 1) := h1
  rw [show (([] : List UInt8) ++ leB 2 258).length = 2 from rfl]
  have He := Lib.hid hext
  clear h0 h1 hown hext
  go_wp2_with fail
  refine (fits_calls 1 255 _ (by omega)).mono ?_
  rintro e w2 ⟨rfl, he2⟩
  rw [show fitsW 1 255 = true from rfl]
  have He2 := Lib.hid (He.out.trans he2)
  clear he2
  go_wp2_with fail
  refine (fits_calls 1 256 _ (by omega)).mono ?_
  rintro e w3 ⟨rfl, he3⟩
  rw [show fitsW 1 256 = false from rfl]
  have He3 := Lib.hid (He2.out.trans he3)
  clear he3
  go_wp2_with fail
  go_ret
  exact ⟨rfl, He3.out⟩

set_option maxHeartbeats 400000 in
theorem octetPuts_walk (A : Option Addr) (c : Nat) (bs : List UInt8) (width : Int) (n : Nat) (w : World) (hb : RdB w A bs) (hn : n < 18446744073709551616) (hm : bs.length ≤ 9223372036854775807) :
    Calls Try.prog 3 #[.slice A bs.length c, .int .i64 width, .int .u64 n] w (RetV w (.bool true)) := by
  by_cases hl : 500 < bs.length
  · clear hb
    go_enter Try.func3, Try.ntmps3
    go_wp2_with fail
    refine (awake01 _).mono ?_
    rintro e w1 ⟨rfl, he⟩
    have He := Lib.hid he
    clear he
    go_wp2_with fail
    go_ret
    exact ⟨rfl, He.out⟩
  · have Hb := Lib.hid hb
    clear hb
    have hl' : bs.length ≤ 500 := by omega
    clear hl
    by_cases ho : okW width = true
    · obtain ⟨k, rfl, hk⟩ : ∃ k : Nat, width = k ∧ k ≤ 8 := by
        rw [okW_iff] at ho
        exact ⟨width.toNat, by omega, by omega⟩
      have Ho := Lib.hid ho
      clear ho
      go_enter Try.func3, Try.ntmps3
      go_wp2_with (at_builtin; refine cpyE w rfl (.tmp 12) (.tmp 13) rfl rfl A c bs rfl ?_ Hb.out ?c2; intro A1 c1 w1 h1 e1; have H1 := Lib.hid h1; have E1 := Lib.hid e1; clear h1 e1)
      case c2 => omega
      refine (width_calls _ _).mono ?_
      rintro e w' ⟨rfl, rfl⟩
      rw [Ho.out]
      go_wp2_with fail
      refine (bytes_calls k n _ hk hn).mono ?_
      rintro e w2 ⟨A2, c2, rfl, h2, e2⟩
      have hlen : (leB k n).length ≤ 8 := by rw [leB_length]; exact hk
      have hP : putW bs k n = bs ++ leB k n := by simp [putW, Ho.out]
      have HP := Lib.hid hP
      generalize leB k n = L at *
      have H2 := Lib.hid h2; have E2 := Lib.hid e2; clear h2 e2 hP
      have H12 := Lib.hid (H1.out.ext E2.out)
      go_wp2_with (at_builtin; refine appB _ rfl (.tmp 17) (.tmp 20) rfl w.heap.size A1 c1 bs rfl A2 c2 L rfl ?_ H12.out H2.out.rd ?c3 ?c4; intro A3 c3 w3 h3 g3 k3; have H3 := Lib.hid h3; have E3 : Hid (Ext w w3) := (E1.out.trans E2.out).grown g3 (fun g hg => (H1.out.base_ g hg).1); clear h3 g3 k3)
      case c3 => omega
      case c4 => exact (E1.out.trans E2.out).size
      refine (put_calls A c bs k n _ (Hb.out.ext E3.out) (by omega) hn).mono ?_
      rintro e w4 ⟨A4, c4, rfl, h4, e4⟩
      rw [HP.out] at h4 ⊢
      have hlen2 : (bs ++ L).length ≤ 508 := by simp; omega
      have hlen3 : (bs ++ L).length = bs.length + L.length := by simp
      rw [← hlen3]
      generalize hM : bs ++ L = M at *
      have H4 := Lib.hid h4; have E4 := Lib.hid (E3.out.trans e4)
      have H34 := Lib.hid (H3.out.ext e4)
      clear hM hlen3 h4 e4
      go_wp2_with fail
      refine (same_calls A4 A3 c4 c3 M M _ H4.out.rd H34.out.rd (by omega) (by omega)).mono ?_
      rintro e w5 ⟨rfl, n5, rfl⟩
      rw [decide_eq_true (rfl : M = M)]
      go_wp2_with fail
      refine (fits_calls _ _ _ hn).mono ?_
      rintro e w6 ⟨rfl, e6⟩
      have E6 := Lib.hid ((E4.out.drewN n5).trans e6)
      clear e6
      go_wp2_with fail
      refine (rfits_calls _ _ _ hn).mono ?_
      rintro e w7 ⟨rfl, e7⟩
      have E7 := Lib.hid (E6.out.trans e7)
      clear e7
      have hbb : (fitsW (k : Int) n == fitsW (k : Int) n) = true := by simp
      generalize fitsW (k : Int) n = f at *
      go_wp2_with fail
      refine (awake01 _).mono ?_
      rintro e w8 ⟨rfl, e8⟩
      have E8 := Lib.hid (E7.out.trans e8)
      clear e8
      go_wp2_with fail
      go_ret
      exact ⟨rfl, E8.out⟩
    · have ho : okW width = false := by simpa using ho
      have Ho := Lib.hid ho
      clear ho
      go_enter Try.func3, Try.ntmps3
      go_wp2_with (at_builtin; refine cpyE w rfl (.tmp 12) (.tmp 13) rfl rfl A c bs rfl ?_ Hb.out ?c2; intro A1 c1 w1 h1 e1; have H1 := Lib.hid h1; have E1 := Lib.hid e1; clear h1 e1)
      case c2 => omega
      refine (width_calls _ _).mono ?_
      rintro e w' ⟨rfl, rfl⟩
      rw [Ho.out]
      go_wp2_with fail
      refine (put_calls A c bs width n _ (Hb.out.ext E1.out) (by omega) hn).mono ?_
      rintro e w4 ⟨A4, c4, rfl, h4, e4⟩
      have hP : putW bs width n = bs := by simp [putW, Ho.out]
      rw [hP] at h4 ⊢
      have H4 := Lib.hid h4; have E4 := Lib.hid (E1.out.trans e4)
      have H34 := Lib.hid (H1.out.ext e4)
      clear hP h4 e4
      go_wp2_with fail
      refine (same_calls A4 A1 c4 c1 bs bs _ H4.out.rd H34.out.rd (by omega) (by omega)).mono ?_
      rintro e w5 ⟨rfl, n5, rfl⟩
      rw [decide_eq_true (rfl : bs = bs)]
      go_wp2_with fail
      refine (fits_calls _ _ _ hn).mono ?_
      rintro e w6 ⟨rfl, e6⟩
      have E6 := Lib.hid ((E4.out.drewN n5).trans e6)
      clear e6
      go_wp2_with fail
      refine (rfits_calls _ _ _ hn).mono ?_
      rintro e w7 ⟨rfl, e7⟩
      have E7 := Lib.hid (E6.out.trans e7)
      clear e7
      have hbb : (fitsW width n == fitsW width n) = true := by simp
      generalize fitsW width n = f at *
      go_wp2_with fail
      refine (awake01 _).mono ?_
      rintro e w8 ⟨rfl, e8⟩
      have E8 := Lib.hid (E7.out.trans e8)
      clear e8
      go_wp2_with fail
      go_ret
      exact ⟨rfl, E8.out⟩
end Go.Proofs.Ytjbejaieihchmaa
