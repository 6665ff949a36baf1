/- The walk of OctetTexts. -/
import Derived.Test.YtjbejaieihchmaaLaw01b
namespace Go.Proofs.Ytjbejaieihchmaa
open Go.RowKit

set_option maxHeartbeats 1000000 in
theorem octetTexts_walk (A : Option Addr) (c : Nat) (bs : List UInt8) (width most : Int) (w : World) (hb : RdB w A bs) (hcap : bs.length ≤ c) (hcm : c ≤ 9223372036854775807) (hmo : -9223372036854775808 ≤ most) (hm : most ≤ 9223372036854775807) :
    Calls Try.prog 8 #[.slice A bs.length c, .int .i64 width, .int .i64 most] w (RetV w (.bool true)) := by
  by_cases hl : 500 < bs.length
  · clear hb
    go_enter Try.func8, Try.ntmps8
    go_wp2_with fail
    refine (awake01 _).mono ?_
    rintro e w1 ⟨rfl, e1⟩
    have E1 := Lib.hid e1
    clear e1
    go_wp2_with fail
    go_ret
    exact ⟨rfl, E1.out⟩
  have Hb := Lib.hid hb
  clear hb
  have hl' : bs.length ≤ 500 := by omega
  clear hl
  by_cases ho : okW width = false
  · have Ho := Lib.hid ho
    clear ho
    go_enter Try.func8, Try.ntmps8
    go_wp2_with fail
    refine (width_calls _ _).mono ?_
    rintro e w' ⟨rfl, rfl⟩
    rw [Ho.out]
    go_wp2_with fail
    refine (awake01 _).mono ?_
    rintro e w1 ⟨rfl, e1⟩
    have E1 := Lib.hid e1
    clear e1
    go_wp2_with fail
    go_ret
    exact ⟨rfl, E1.out⟩
  have ho : okW width = true := by simpa using ho
  obtain ⟨k, rfl, hk1, hk⟩ : ∃ k : Nat, width = k ∧ 1 ≤ k ∧ k ≤ 8 := by
    rw [okW_iff] at ho
    exact ⟨width.toNat, by omega, by omega, by omega⟩
  have Ho := Lib.hid ho
  clear ho
  go_enter Try.func8, Try.ntmps8
  go_wp2_with fail
  refine (width_calls _ _).mono ?_
  rintro e w' ⟨rfl, rfl⟩
  rw [Ho.out]
  go_wp2_with fail
  refine (newCursor_calls A c bs _ Hb.out (by omega)).mono ?_
  rintro e w1 ⟨g, rfl, hg, hc1, e1⟩
  have HC1 := Lib.hid hc1
  have E1 := Lib.hid e1
  clear hc1 e1
  go_wp2_with fail
  refine (ctext_calls g bs 0 0 k most _ HC1.out (by omega) hm).mono ?_
  rintro e w2 ⟨rfl, g2, hc2⟩
  have HC2 := Lib.hid hc2
  have E2 := Lib.hid (ext_grown E1.out g2 hg)
  clear g2 hc2
  have HN : Hid (numC bs 0 0 k = (leN (takeC bs 0 0 k).1, (takeC bs 0 0 k).2)) := by
    show _ = _
    rw [numC, if_pos Ho.out, Int.toNat_natCast]
  by_cases h1 : bs.length < k
  · have HT : Hid (textC bs 0 0 k most = ([], 0, 1)) := by
      show _ = _
      rw [textC, HN.out]; simp [takeC, h1]
    have HC3 : Hid (Cur w2 g bs 0 1) := by have h := HC2.out; rw [HT.out] at h; exact h
    rw [HT.out]
    clear HC2
    go_wp2_with fail
    refine (cerr_calls g bs 0 1 _ HC3.out).mono ?_
    rintro e w' ⟨rfl, rfl⟩
    go_wp2_with fail
    refine (awake01 _).mono ?_
    rintro e w3 ⟨rfl, e3⟩
    have E3 := Lib.hid (E2.out.trans e3)
    clear e3
    go_wp2_with fail
    go_ret
    exact ⟨rfl, E3.out⟩
  have HT0 : Hid (takeC bs 0 0 k = (bs.take k, k, 0)) := by show _ = _; simp [takeC, h1]
  have HR : Hid (RdB w2 A (bs.take k)) := (Hb.out.ext E2.out).take k
  have HLk : Hid ((bs.take k).length = k) := by show _ = _; simp; omega
  have HTx : Hid (textC bs 0 0 k most = if most < 0 ∨ most < leN (bs.take k) then ([], k, 2) else takeC bs k 0 (leN (bs.take k))) := by
    show _ = _
    rw [textC, HN.out, HT0.out]; simp
  have hn64 := leN_lt8 (bs.take k) (by rw [HLk.out]; exact hk)
  have hnum : Calls Try.prog 35 #[.slice A k c] w2 fun e w' => e = .returned (.int .u64 (leN (bs.take k))) ∧ w2 = w' := by
    have h := number_calls A c (bs.take k) w2 HR.out (by rw [HLk.out]; exact hk)
    rw [HLk.out] at h
    exact h
  have Hnum := Lib.hid hnum
  clear hnum
  generalize leN (bs.take k) = n at *
  by_cases h2 : most < 0 ∨ most < n
  · have HT : Hid (textC bs 0 0 k most = ([], k, 2)) := by show _ = _; rw [HTx.out, if_pos h2]
    have HC3 : Hid (Cur w2 g bs k 2) := by have h := HC2.out; rw [HT.out] at h; exact h
    rw [HT.out]
    clear HC2
    go_wp2_with fail
    refine Hnum.out.mono ?_
    rintro e w' ⟨rfl, rfl⟩
    by_cases h3 : most < 0
    · go_wp2_with fail
      refine (cerr_calls g bs k 2 _ HC3.out).mono ?_
      rintro e w' ⟨rfl, rfl⟩
      go_wp2_with fail
      refine (awake01 _).mono ?_
      rintro e w3 ⟨rfl, e3⟩
      have E3 := Lib.hid (E2.out.trans e3)
      clear e3
      go_wp2_with fail
      go_ret
      exact ⟨rfl, E3.out⟩
    · have h4 : most < n := by omega
      clear h2
      have hmod : most % 18446744073709551616 = most := by omega
      go_wp2_with fail
      refine (cerr_calls g bs k 2 _ HC3.out).mono ?_
      rintro e w' ⟨rfl, rfl⟩
      go_wp2_with fail
      refine (awake01 _).mono ?_
      rintro e w3 ⟨rfl, e3⟩
      have E3 := Lib.hid (E2.out.trans e3)
      clear e3
      go_wp2_with fail
      go_ret
      exact ⟨rfl, E3.out⟩
  have h3 : ¬ most < 0 := by omega
  have h4 : ¬ most < n := by omega
  have HT1 : Hid (textC bs 0 0 k most = takeC bs k 0 n) := by show _ = _; rw [HTx.out, if_neg h2]
  have hmod : most % 18446744073709551616 = most := by omega
  clear h2
  by_cases h5 : bs.length - k < n
  · have HT : Hid (textC bs 0 0 k most = ([], k, 1)) := by show _ = _; rw [HT1.out]; simp [takeC, h5]
    have HC3 : Hid (Cur w2 g bs k 1) := by have h := HC2.out; rw [HT.out] at h; exact h
    rw [HT.out]
    clear HC2
    have h5' : (bs.length : Int) - k < n := by omega
    go_wp2_with fail
    refine Hnum.out.mono ?_
    rintro e w' ⟨rfl, rfl⟩
    go_wp2_with fail
    refine (cerr_calls g bs k 1 _ HC3.out).mono ?_
    rintro e w' ⟨rfl, rfl⟩
    go_wp2_with fail
    refine (awake01 _).mono ?_
    rintro e w3 ⟨rfl, e3⟩
    have E3 := Lib.hid (E2.out.trans e3)
    clear e3
    go_wp2_with fail
    go_ret
    exact ⟨rfl, E3.out⟩
  have h5' : ¬ (bs.length : Int) - k < n := by omega
  have HT : Hid (textC bs 0 0 k most = ((bs.drop k).take n, k + n, 0)) := by show _ = _; rw [HT1.out]; simp [takeC, h5]
  have HC3 : Hid (Cur w2 g bs (k + n) 0) := by have h := HC2.out; rw [HT.out] at h; exact h
  rw [HT.out]
  clear HC2
  have HLn : Hid (((bs.drop k).take n).length = n) := by show _ = _; simp; omega
  have hstr : (convert 22 9 (.slice (if c = k then A else A.map (·.add k)) n (c - k))).run Try.prog w2 = .ok (.string ⟨((bs.drop k).take n).toArray⟩) w2 := by
    have h := run_str w2 _ (c - k) ((bs.drop k).take n) (((Hb.out.ext E2.out).cut k c hcap).take n)
    rw [HLn.out] at h
    exact h
  dsimp only at *
  generalize (bs.drop k).take n = L at *
  go_wp2_with fail
  refine Hnum.out.mono ?_
  rintro e w' ⟨rfl, rfl⟩
  have hleft : (bs.length - (k + n) : Nat) = bs.length - k - n := by omega
  by_cases hck : c = k
  · rw [if_pos hck] at hstr
    subst hck
    have hn0 : n = 0 := by omega
    subst hn0
    rw [Nat.sub_self] at hstr
    go_wp2_with fail
    refine (cerr_calls g bs (c + 0) 0 _ HC3.out).mono ?_
    rintro e w' ⟨rfl, rfl⟩
    go_wp2_with fail
    refine (cleft_calls g bs (c + 0) 0 _ HC3.out (by omega)).mono ?_
    rintro e w7 ⟨rfl, m7, rfl⟩
    have hb0 : (((bs.length - (c + 0) : Nat) : Int) == (bs.length : Int) - c) = true := by simp; omega
    have hb1 : (((bs.length - (c + 0) : Nat) : Int) == (bs.length : Int) - c - (0 : Nat)) = true := by simp; omega
    have E7 := Lib.hid (E2.out.drewN m7)
    generalize (bs.length - (c + 0) : Nat) = z at *
    go_wp2_with fail
    refine (awake01 _).mono ?_
    rintro e w8 ⟨rfl, e8⟩
    have E8 := Lib.hid (E7.out.trans e8)
    clear e8
    go_wp2_with fail
    go_ret
    exact ⟨rfl, E8.out⟩
  · rw [if_neg hck] at hstr
    go_wp2_with fail
    refine (cerr_calls g bs (k + n) 0 _ HC3.out).mono ?_
    rintro e w' ⟨rfl, rfl⟩
    go_wp2_with fail
    refine (cleft_calls g bs (k + n) 0 _ HC3.out (by omega)).mono ?_
    rintro e w7 ⟨rfl, m7, rfl⟩
    have hb1 : (((bs.length - (k + n) : Nat) : Int) == (bs.length : Int) - k - n) = true := by simp; omega
    have E7 := Lib.hid (E2.out.drewN m7)
    clear hleft
    generalize (bs.length - (k + n) : Nat) = z at *
    go_wp2_with fail
    refine (awake01 _).mono ?_
    rintro e w8 ⟨rfl, e8⟩
    have E8 := Lib.hid (E7.out.trans e8)
    clear e8
    go_wp2_with fail
    go_ret
    exact ⟨rfl, E8.out⟩
end Go.Proofs.Ytjbejaieihchmaa
