/- The walk of BoxNexts. -/
import Derived.Test.YtjbejaieihchmaaBoxY
set_option maxRecDepth 100000
namespace Go.Proofs.Ytjbejaieihchmaa
open Go.RowKit

set_option maxHeartbeats 2000000 in
theorem boxNexts_walk (A : Option Addr) (c : Nat) (bs : List UInt8) (a : Int) (w : World) (hb : RdB w A bs) (hcap : bs.length ≤ c) (hcm : c ≤ 9223372036854775807) :
    Calls Try.prog 12 #[.slice A bs.length c, .int .i64 a] w (RetV w (.bool true)) := by
  by_cases hbig : 600 < bs.length
  · clear hb
    go_enter Try.func12, Try.ntmps12
    go_wp2_with fail
    refine (awake12 _).mono ?_
    rintro e w1 ⟨rfl, e1⟩
    have E1 := Lib.hid e1
    clear e1
    go_wp2_with fail
    go_ret
    exact ⟨rfl, E1.out⟩
  have Hb := Lib.hid hb
  clear hb
  have hl1 : (nextR bs a).1.length ≤ 1000000 := by
    have : (nextR bs a).1.length ≤ bs.length := by
      unfold nextR nextK
      simp only []
      repeat' split
      all_goals simp
      omega
    omega
  go_enter Try.func12, Try.ntmps12
  go_wp2_with fail
  refine (next_calls A c bs a _ Hb.out (by omega) hcap hcm).mono ?_
  rintro e w1 ⟨A1, c1, rfl, o1, e1⟩
  have R1 := Lib.hid o1.rd
  have E1 := Lib.hid e1
  clear o1 e1
  go_wp2_with fail
  refine (rnext_calls A c bs a _ (Hb.out.ext E1.out) (by omega) hcap hcm).mono ?_
  rintro e w2 ⟨A2, c2, rfl, r2, l2, m2, b2, e2⟩
  have R2 := Lib.hid r2
  have R12 := Lib.hid (R1.out.ext e2)
  have E2 := Lib.hid (E1.out.trans e2)
  clear r2 e2 b2 l2 m2 R1
  generalize nextR bs a = X at *
  obtain ⟨bd, en, er⟩ := X
  dsimp only at *
  go_wp2_with fail
  refine (valid_calls A c bs _ (Hb.out.ext E2.out) (by omega) hcap hcm).mono ?_
  rintro e w3 ⟨n3, A3, c3, vs, h3, rfl, r3, l3, e3⟩
  have R3 := Lib.hid r3
  have L3 := Lib.hid l3
  have H3 := Lib.hid h3
  have R23 := Lib.hid (R2.out.ext e3)
  have R13 := Lib.hid (R12.out.ext e3)
  have E3 := Lib.hid (E2.out.trans e3)
  clear r3 e3 l3 h3 R12 R2
  go_wp2_with fail
  refine (rvalid_calls A c bs _ (Hb.out.ext E3.out) (by omega) hcap hcm).mono ?_
  rintro e w4 ⟨n4, A4, c4, us, h4, rfl, r4, l4, e4⟩
  have hit := itB_same bs n4 n3 h4 H3.out
  rw [hit] at l4 ⊢
  have R4 := Lib.hid r4
  have L4 := Lib.hid l4
  have R24 := Lib.hid (R23.out.ext e4)
  have R14 := Lib.hid (R13.out.ext e4)
  have R34 := Lib.hid (R3.out.ext e4)
  have L34 := Lib.hid (L3.out.ext e4)
  have E4 := Lib.hid (E3.out.trans e4)
  have hlen := itB_len bs n3
  have hle := itB_le bs n3
  have hmem : ∀ x ∈ (itB bs n3).1, x.length ≤ 1000000 := itB_mem bs n3 (by omega)
  clear r4 e4 l4 h4 H3 hit R23 R13 R3 L3
  generalize itB bs n3 = I at *
  obtain ⟨L, pl⟩ := I
  dsimp only at *
  have HM := Lib.hid hmem
  clear hmem
  have HSM : Hid (∀ W, Ext w4 W → Calls Try.prog 17 #[.slice A1 bd.length c1, .slice A2 bd.length c2] W (RetV W (.bool true))) := by
    intro W e
    have h := sameE A1 A2 c1 c2 bd bd W (R14.out.ext e) (R24.out.ext e) hl1 hl1
    rw [decide_eq_true (rfl : bd = bd)] at h
    exact h
  have HLS : Hid (∀ W, Ext w4 W → Calls Try.prog 44 #[.slice A3 L.length c3, .slice A4 L.length c4] W (RetV W (.bool true))) := by
    intro W e
    have h := lists_calls A3 A4 c3 c4 vs us L L W (R34.out.ext e) (R4.out.ext e) (L34.out.ext e) (L4.out.ext e) (by omega) (by omega) HM.out HM.out
    rw [decide_eq_true (rfl : L = L)] at h
    exact h
  go_wp2_with fail
  refine (HSM.out _ (Ext.refl _)).mono ?_
  rintro e w5 ⟨rfl, e5⟩
  have E5 := Lib.hid e5
  clear e5
  go_wp2_with fail
  refine (HLS.out _ E5.out).mono ?_
  rintro e w6 ⟨rfl, e6⟩
  have E6 := Lib.hid (E4.out.trans (E5.out.trans e6))
  clear e6
  go_wp2_with fail
  refine (awake12 _).mono ?_
  rintro e w7 ⟨rfl, e7⟩
  have E7 := Lib.hid (E6.out.trans e7)
  clear e7
  go_wp2_with fail
  go_ret
  exact ⟨rfl, E7.out⟩
end Go.Proofs.Ytjbejaieihchmaa
