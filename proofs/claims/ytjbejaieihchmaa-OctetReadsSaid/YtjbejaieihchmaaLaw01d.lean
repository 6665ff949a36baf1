/- The walk of OctetReads. -/
import Derived.Test.YtjbejaieihchmaaLaw01b
namespace Go.Proofs.Ytjbejaieihchmaa
open Go.RowKit

theorem numC_take {bs : List UInt8} {k m : Nat} {er : Int} (ho : okW m = true) : numC bs k er m = (leN (takeC bs k er m).1, (takeC bs k er m).2) := by
  rw [numC, if_pos ho, Int.toNat_natCast]
theorem takeC_bad (bs : List UInt8) (k m : Nat) : takeC bs k 1 m = ([], k, 1) := by simp [takeC]
theorem takeC_no {bs : List UInt8} {k m : Nat} (h : bs.length - k < m) : takeC bs k 0 m = ([], k, 1) := by simp [takeC, h]
theorem takeC_yes {bs : List UInt8} {k m : Nat} (h : ¬ bs.length - k < m) : takeC bs k 0 m = ((bs.drop k).take m, k + m, 0) := by simp [takeC, h]
theorem bytesC_bad (bs : List UInt8) (k m : Nat) : bytesC bs k 1 m = ([], k, 1) := by unfold bytesC; split; rfl; exact takeC_bad _ _ _
theorem bytesC_no {bs : List UInt8} {k m : Nat} (h : bs.length - k < m) : bytesC bs k 0 m = ([], k, 1) := by
  rw [bytesC, if_neg (by omega), Int.toNat_natCast]; exact takeC_no h
theorem bytesC_yes {bs : List UInt8} {k m : Nat} (h : ¬ bs.length - k < m) : bytesC bs k 0 m = ((bs.drop k).take m, k + m, 0) := by
  unfold bytesC; split
  · obtain rfl : m = 0 := by omega
    simp
  · rw [Int.toNat_natCast]; exact takeC_yes h

def ReadsRel (w : World) (bs : List UInt8) (g n : Nat) (at_ bad i : Value) (wr : World) : Prop :=
  ∃ (k j : Nat) (b : Bool), j ≤ n ∧ i = .int .i64 j ∧ at_ = .int .i64 k ∧ bad = .bool b ∧ Cur wr g bs k (if b then 1 else 0) ∧ Ext w wr

set_option maxRecDepth 100000 in
set_option maxHeartbeats 4000000 in
theorem octetReads_walk (A B : Option Addr) (c d : Nat) (bs : List UInt8) (xs : List Int) (w : World) (hb : RdB w A bs) (hr : Rd w B (xs.map (Value.int .i8))) (hxs : ∀ x ∈ xs, -128 ≤ x ∧ x ≤ 127) (hcap : bs.length ≤ c) (hcm : c ≤ 9223372036854775807) (hdm : xs.length ≤ 9223372036854775807) :
    Calls Try.prog 9 #[.slice A bs.length c, .slice B xs.length d] w (RetV w (.bool true)) := by
  by_cases hl : 500 < bs.length
  · clear hb hr hxs
    go_enter Try.func9, Try.ntmps9
    go_wp2_with fail
    refine (awake01 _).mono ?_
    rintro e w1 ⟨rfl, e1⟩
    have E1 := Lib.hid e1
    clear e1
    go_wp2_with fail
    go_ret
    exact ⟨rfl, E1.out⟩
  by_cases hl2 : 60 < xs.length
  · clear hb hr hxs
    go_enter Try.func9, Try.ntmps9
    go_wp2_with fail
    refine (awake01 _).mono ?_
    rintro e w1 ⟨rfl, e1⟩
    have E1 := Lib.hid e1
    clear e1
    go_wp2_with fail
    go_ret
    exact ⟨rfl, E1.out⟩
  have Hb := Lib.hid hb
  have Hr := Lib.hid hr
  have Hxs := Lib.hid hxs
  clear hb hr hxs
  have hl' : bs.length ≤ 500 := by omega
  have hl2' : xs.length ≤ 60 := by omega
  have d1 : decide (500 < (bs.length : Int)) = false := by simp; omega
  have d2 : decide (60 < (xs.length : Int)) = false := by simp; omega
  clear hl hl2
  go_enter Try.func9, Try.ntmps9
  go_wp2_with fail
  refine (newCursor_calls A c bs _ Hb.out (by omega)).mono ?_
  rintro e w1 ⟨g, rfl, hg, hc1, e1⟩
  have HC1 := Lib.hid hc1
  have E1 := Lib.hid e1
  clear hc1 e1
  go_wp2_with fail
  go_loopw [6, 7, 8] (fun at_ bad i wr => ReadsRel w bs g xs.length at_ bad i wr) (fun _ _ i _ => xs.length - (intOf i).toNat)
  case atStart => exact ⟨0, 0, false, by omega, rfl, rfl, rfl, HC1.out, E1.out⟩
  case round =>
    obtain ⟨k, j, b, hj, rfl, rfl, rfl, hcur, hext⟩ := hrel
    have HC := Lib.hid hcur
    have HE := Lib.hid hext
    have hk : k ≤ bs.length := by obtain ⟨_, _, _, _, _, _, _, h⟩ := hcur; exact h
    clear hcur hext HC1 E1
    by_cases hlt : j < xs.length
    · have hz := Hxs.out xs[j] (List.getElem_mem hlt)
      obtain ⟨bd, rfl, hcb⟩ := (Hr.out.ext HE.out).at_ (k := j) (by simpa using hlt)
      rw [List.getElem_map] at hcb
      generalize xs[j] = z at *
      by_cases hA : z < -9
      · go_wp2_with fail
        go_roundw
        case rel => exact ⟨k, j + 1, b, by omega, by go_num, rfl, rfl, HC.out, HE.out⟩
        case measure => simp [intOf]; omega
      by_cases hpos : 0 < z
      · obtain ⟨m, rfl⟩ : ∃ m : Nat, z = m := ⟨z.toNat, by omega⟩
        by_cases ho : okW (m : Int) = false
        · have HO := Lib.hid ho
          clear ho
          have HT : Hid (∀ er, numC bs k er m = (0, k, er)) := by intro er; simp [numC, HO.out]
          go_wp2_with fail
          refine (width_calls _ _).mono ?_
          rintro e w' ⟨rfl, rfl⟩
          rw [HO.out]
          go_wp2_with fail
          refine (cnumber_calls g bs k _ m _ HC.out (by omega)).mono ?_
          rintro e w2 ⟨rfl, g2, hc2⟩
          rw [HT.out] at hc2 ⊢
          have HC2 := Lib.hid hc2
          have E2 := Lib.hid (ext_grown HE.out g2 hg)
          clear g2 hc2
          go_wp2_with fail
          go_roundw
          case rel => exact ⟨k, j + 1, b, by omega, by go_num, rfl, rfl, HC2.out, E2.out⟩
          case measure => simp [intOf]; omega
        have ho : okW (m : Int) = true := by simpa using ho
        have HO := Lib.hid ho
        have hm8 : 1 ≤ m ∧ m ≤ 8 := by rw [okW_iff] at ho; omega
        clear ho
        cases b
        · by_cases hs : bs.length - k < m
          · have hs' : decide ((bs.length : Int) - k < m) = true := by simp; omega
            have HT : Hid (numC bs k 0 m = (0, k, 1)) := by show _ = _; rw [numC_take HO.out, takeC_no hs]; rfl
            go_wp2_with fail
            refine (width_calls _ _).mono ?_
            rintro e w' ⟨rfl, rfl⟩
            rw [HO.out]
            go_wp2_with fail
            refine (cnumber_calls g bs k 0 m _ HC.out (by omega)).mono ?_
            rintro e w2 ⟨rfl, g2, hc2⟩
            rw [HT.out] at hc2 ⊢
            have HC2 := Lib.hid hc2
            have E2 := Lib.hid (ext_grown HE.out g2 hg)
            clear g2 hc2
            dsimp only at *
            go_wp2_with fail
            refine (number_calls none 0 [] _ RdB.nil (by simp)).mono ?_
            rintro e w' ⟨rfl, rfl⟩
            rw [show leN [] = 0 from rfl]
            go_wp2_with fail
            refine (cerr_calls g bs k 1 _ HC2.out).mono ?_
            rintro e w' ⟨rfl, rfl⟩
            go_wp2_with fail
            go_roundw
            case rel => exact ⟨k, j + 1, true, by omega, by go_num, rfl, rfl, HC2.out, E2.out⟩
            case measure => simp [intOf]; omega
          · have hs' : decide ((bs.length : Int) - k < m) = false := by simp; omega
            have hck : ¬ c = k := by omega
            have HT : Hid (numC bs k 0 m = (leN ((bs.drop k).take m), k + m, 0)) := by show _ = _; rw [numC_take HO.out, takeC_yes hs]
            have HLn : Hid (((bs.drop k).take m).length = m) := by show _ = _; simp; omega
            have HR : Hid (∀ W, Ext w W → RdB W (A.map (·.add k)) ((bs.drop k).take m)) := by
              intro W hW
              have h := ((Hb.out.ext hW).cut k c hcap).take m
              rw [if_neg hck] at h
              exact h
            have hn64 := leN_lt8 ((bs.drop k).take m) (by rw [HLn.out]; omega)
            generalize (bs.drop k).take m = L at *
            go_wp2_with fail
            refine (width_calls _ _).mono ?_
            rintro e w' ⟨rfl, rfl⟩
            rw [HO.out]
            go_wp2_with fail
            refine (cnumber_calls g bs k 0 m _ HC.out (by omega)).mono ?_
            rintro e w2 ⟨rfl, g2, hc2⟩
            rw [HT.out] at hc2 ⊢
            have HC2 := Lib.hid hc2
            have E2 := Lib.hid (ext_grown HE.out g2 hg)
            clear g2 hc2
            dsimp only at *
            go_wp2_with fail
            have hnum : Calls Try.prog 35 #[.slice (A.map (·.add k)) m (c - k)] w2 fun e w' => e = .returned (.int .u64 (leN L)) ∧ w2 = w' := by
              have h := number_calls _ (c - k) L w2 (HR.out w2 E2.out) (by rw [HLn.out]; omega)
              rw [HLn.out] at h
              exact h
            refine hnum.mono ?_
            rintro e w' ⟨rfl, rfl⟩
            clear hnum
            generalize leN L = v at *
            go_wp2_with fail
            refine (cerr_calls g bs (k + m) 0 _ HC2.out).mono ?_
            rintro e w' ⟨rfl, rfl⟩
            go_wp2_with fail
            refine (cleft_calls g bs (k + m) 0 _ HC2.out (by omega)).mono ?_
            rintro e w3 ⟨rfl, n3, rfl⟩
            have hb1 : (((bs.length - (k + m) : Nat) : Int) != (bs.length : Int) - ((k : Int) + m)) = false := by rw [bne_eq_false_iff_eq]; omega
            generalize (bs.length - (k + m) : Nat) = q at *
            go_wp2_with fail
            go_roundw
            case rel => exact ⟨k + m, j + 1, false, by omega, by go_num, by go_num, rfl, HC2.out.drewN n3, E2.out.drewN n3⟩
            case measure => simp [intOf]; omega
        · have HT : Hid (numC bs k 1 m = (0, k, 1)) := by show _ = _; rw [numC_take HO.out, takeC_bad]; rfl
          go_wp2_with fail
          refine (width_calls _ _).mono ?_
          rintro e w' ⟨rfl, rfl⟩
          rw [HO.out]
          go_wp2_with fail
          refine (cnumber_calls g bs k 1 m _ HC.out (by omega)).mono ?_
          rintro e w2 ⟨rfl, g2, hc2⟩
          rw [HT.out] at hc2 ⊢
          have HC2 := Lib.hid hc2
          have E2 := Lib.hid (ext_grown HE.out g2 hg)
          clear g2 hc2
          dsimp only at *
          go_wp2_with fail
          refine (number_calls none 0 [] _ RdB.nil (by simp)).mono ?_
          rintro e w' ⟨rfl, rfl⟩
          rw [show leN [] = 0 from rfl]
          go_wp2_with fail
          refine (cerr_calls g bs k 1 _ HC2.out).mono ?_
          rintro e w' ⟨rfl, rfl⟩
          go_wp2_with fail
          go_roundw
          case rel => exact ⟨k, j + 1, true, by omega, by go_num, rfl, rfl, HC2.out, E2.out⟩
          case measure => simp [intOf]; omega
      by_cases hz0 : z = 0
      · subst hz0
        cases b
        · have hs : ¬ bs.length - k < 0 := by omega
          have hs' : decide ((bs.length : Int) - k < 0) = false := by simp; omega
          have HT : Hid (bytesC bs k 0 (0 : Nat) = ((bs.drop k).take 0, k + 0, 0)) := bytesC_yes hs
          have HLn : Hid (((bs.drop k).take 0).length = 0) := by show _ = _; simp; try omega
          have HR : Hid (∀ W, Ext w W → RdB W (if c = k then A else A.map (·.add k)) ((bs.drop k).take 0)) := fun W hW => ((Hb.out.ext hW).cut k c hcap).take 0
          generalize (bs.drop k).take 0 = L at *
          by_cases hck : c = k
          · rw [if_pos hck] at HR
            have hck' := hck.symm; clear hck; subst hck'
            go_wp2_with fail
            refine (cbytes_calls g bs k 0 (0 : Nat) _ HC.out (by omega) (by omega)).mono ?_
            rintro e w2 ⟨A2, c2, rfl, h2, g2, hc2⟩
            rw [HT.out] at hc2 h2 ⊢
            have HC2 := Lib.hid hc2
            have H2 := Lib.hid h2
            have E2 := Lib.hid (ext_grown HE.out g2 hg)
            clear g2 hc2 h2
            dsimp only at *
            go_wp2_with fail
            have hsame : Calls Try.prog 17 #[.slice A2 L.length c2, .slice A 0 0] w2 fun e w' => e = .returned (.bool true) ∧ ∃ n, w' = w2.drewN n := by
              have h := same_calls A2 A c2 0 L L w2 H2.out.rd (HR.out w2 E2.out) (by rw [HLn.out]; omega) (by rw [HLn.out]; omega)
              rw [decide_eq_true (rfl : L = L)] at h
              rw [show Value.slice A L.length 0 = .slice A 0 0 from by rw [HLn.out]] at h
              exact h
            refine hsame.mono ?_
            rintro e w3 ⟨rfl, n3, rfl⟩
            clear hsame
            go_wp2_with fail
            refine (cerr_calls g bs (k + 0) 0 _ (HC2.out.drewN n3)).mono ?_
            rintro e w' ⟨rfl, rfl⟩
            go_wp2_with fail
            refine (cleft_calls g bs (k + 0) 0 _ (HC2.out.drewN n3) (by omega)).mono ?_
            rintro e w4 ⟨rfl, n4, rfl⟩
            have hb1 : (((bs.length - (k + 0) : Nat) : Int) != (bs.length : Int) - ((k : Int) + 0)) = false := by rw [bne_eq_false_iff_eq]; omega
            have hb2 : (((bs.length - (k + 0) : Nat) : Int) != (bs.length : Int) - (k : Int)) = false := by rw [bne_eq_false_iff_eq]; omega
            generalize (bs.length - (k + 0) : Nat) = q at *
            go_wp2_with fail
            go_roundw
            case rel => exact ⟨k + 0, j + 1, false, by omega, by go_num, by go_num, rfl, HC2.out.drewN (n3 + n4), E2.out.drewN (n3 + n4)⟩
            case measure => simp [intOf]; omega
          · rw [if_neg hck] at HR
            go_wp2_with fail
            refine (cbytes_calls g bs k 0 (0 : Nat) _ HC.out (by omega) (by omega)).mono ?_
            rintro e w2 ⟨A2, c2, rfl, h2, g2, hc2⟩
            rw [HT.out] at hc2 h2 ⊢
            have HC2 := Lib.hid hc2
            have H2 := Lib.hid h2
            have E2 := Lib.hid (ext_grown HE.out g2 hg)
            clear g2 hc2 h2
            dsimp only at *
            go_wp2_with fail
            have hsame : Calls Try.prog 17 #[.slice A2 L.length c2, .slice (A.map (·.add k)) 0 (c - k)] w2 fun e w' => e = .returned (.bool true) ∧ ∃ n, w' = w2.drewN n := by
              have h := same_calls A2 (A.map (·.add k)) c2 (c - k) L L w2 H2.out.rd (HR.out w2 E2.out) (by rw [HLn.out]; omega) (by rw [HLn.out]; omega)
              rw [decide_eq_true (rfl : L = L)] at h
              rw [show Value.slice (A.map (·.add k)) L.length (c - k) = .slice (A.map (·.add k)) 0 (c - k) from by rw [HLn.out]] at h
              exact h
            refine hsame.mono ?_
            rintro e w3 ⟨rfl, n3, rfl⟩
            clear hsame
            go_wp2_with fail
            refine (cerr_calls g bs (k + 0) 0 _ (HC2.out.drewN n3)).mono ?_
            rintro e w' ⟨rfl, rfl⟩
            go_wp2_with fail
            refine (cleft_calls g bs (k + 0) 0 _ (HC2.out.drewN n3) (by omega)).mono ?_
            rintro e w4 ⟨rfl, n4, rfl⟩
            have hb1 : (((bs.length - (k + 0) : Nat) : Int) != (bs.length : Int) - ((k : Int) + 0)) = false := by rw [bne_eq_false_iff_eq]; omega
            have hb2 : (((bs.length - (k + 0) : Nat) : Int) != (bs.length : Int) - (k : Int)) = false := by rw [bne_eq_false_iff_eq]; omega
            generalize (bs.length - (k + 0) : Nat) = q at *
            go_wp2_with fail
            go_roundw
            case rel => exact ⟨k + 0, j + 1, false, by omega, by go_num, by go_num, rfl, HC2.out.drewN (n3 + n4), E2.out.drewN (n3 + n4)⟩
            case measure => simp [intOf]; omega
        · have HT : Hid (bytesC bs k 1 (0 : Nat) = ([], k, 1)) := bytesC_bad _ _ _
          go_wp2_with fail
          refine (cbytes_calls g bs k 1 (0 : Nat) _ HC.out (by omega) (by omega)).mono ?_
          rintro e w2 ⟨A2, c2, rfl, h2, g2, hc2⟩
          rw [HT.out] at hc2 h2 ⊢
          have HC2 := Lib.hid hc2
          have H2 := Lib.hid h2
          have E2 := Lib.hid (ext_grown HE.out g2 hg)
          clear g2 hc2 h2
          dsimp only at *
          go_wp2_with fail
          refine (same_calls A2 none c2 0 [] [] _ H2.out.rd RdB.nil (by simp) (by simp)).mono ?_
          rintro e w3 ⟨rfl, n3, rfl⟩
          rw [decide_eq_true (rfl : ([] : List UInt8) = [])]
          go_wp2_with fail
          refine (cerr_calls g bs k 1 _ (HC2.out.drewN n3)).mono ?_
          rintro e w' ⟨rfl, rfl⟩
          go_wp2_with fail
          go_roundw
          case rel => exact ⟨k, j + 1, true, by omega, by go_num, rfl, rfl, HC2.out.drewN n3, E2.out.drewN n3⟩
          case measure => simp [intOf]; omega
      obtain ⟨m, rfl⟩ : ∃ m : Nat, z = -(m : Int) := ⟨(-z).toNat, by omega⟩
      have hm9 : 1 ≤ m ∧ m ≤ 9 := by omega
      cases b
      · by_cases hs : bs.length - k < m
        · have hs' : decide ((bs.length : Int) - k < m) = true := by simp; omega
          have HT : Hid (bytesC bs k 0 (m : Nat) = ([], k, 1)) := bytesC_no hs
          go_wp2_with fail
          refine (cbytes_calls g bs k 0 (m : Nat) _ HC.out (by omega) (by omega)).mono ?_
          rintro e w2 ⟨A2, c2, rfl, h2, g2, hc2⟩
          rw [HT.out] at hc2 h2 ⊢
          have HC2 := Lib.hid hc2
          have H2 := Lib.hid h2
          have E2 := Lib.hid (ext_grown HE.out g2 hg)
          clear g2 hc2 h2
          dsimp only at *
          go_wp2_with fail
          refine (same_calls A2 none c2 0 [] [] _ H2.out.rd RdB.nil (by simp) (by simp)).mono ?_
          rintro e w3 ⟨rfl, n3, rfl⟩
          rw [decide_eq_true (rfl : ([] : List UInt8) = [])]
          go_wp2_with fail
          refine (cerr_calls g bs k 1 _ (HC2.out.drewN n3)).mono ?_
          rintro e w' ⟨rfl, rfl⟩
          go_wp2_with fail
          go_roundw
          case rel => exact ⟨k, j + 1, true, by omega, by go_num, rfl, rfl, HC2.out.drewN n3, E2.out.drewN n3⟩
          case measure => simp [intOf]; omega
        · have hs' : decide ((bs.length : Int) - k < m) = false := by simp; omega
          have HT : Hid (bytesC bs k 0 (m : Nat) = ((bs.drop k).take m, k + m, 0)) := bytesC_yes hs
          have HLn : Hid (((bs.drop k).take m).length = m) := by show _ = _; simp; try omega
          have HR : Hid (∀ W, Ext w W → RdB W (if c = k then A else A.map (·.add k)) ((bs.drop k).take m)) := fun W hW => ((Hb.out.ext hW).cut k c hcap).take m
          generalize (bs.drop k).take m = L at *
          have hck : ¬ c = k := by omega
          rw [if_neg hck] at HR
          go_wp2_with fail
          refine (cbytes_calls g bs k 0 (m : Nat) _ HC.out (by omega) (by omega)).mono ?_
          rintro e w2 ⟨A2, c2, rfl, h2, g2, hc2⟩
          rw [HT.out] at hc2 h2 ⊢
          have HC2 := Lib.hid hc2
          have H2 := Lib.hid h2
          have E2 := Lib.hid (ext_grown HE.out g2 hg)
          clear g2 hc2 h2
          dsimp only at *
          go_wp2_with fail
          have hsame : Calls Try.prog 17 #[.slice A2 L.length c2, .slice (A.map (·.add k)) m (c - k)] w2 fun e w' => e = .returned (.bool true) ∧ ∃ n, w' = w2.drewN n := by
            have h := same_calls A2 (A.map (·.add k)) c2 (c - k) L L w2 H2.out.rd (HR.out w2 E2.out) (by rw [HLn.out]; omega) (by rw [HLn.out]; omega)
            rw [decide_eq_true (rfl : L = L)] at h
            rw [show Value.slice (A.map (·.add k)) L.length (c - k) = .slice (A.map (·.add k)) m (c - k) from by rw [HLn.out]] at h
            exact h
          refine hsame.mono ?_
          rintro e w3 ⟨rfl, n3, rfl⟩
          clear hsame
          go_wp2_with fail
          refine (cerr_calls g bs (k + m) 0 _ (HC2.out.drewN n3)).mono ?_
          rintro e w' ⟨rfl, rfl⟩
          go_wp2_with fail
          refine (cleft_calls g bs (k + m) 0 _ (HC2.out.drewN n3) (by omega)).mono ?_
          rintro e w4 ⟨rfl, n4, rfl⟩
          have hb1 : (((bs.length - (k + m) : Nat) : Int) != (bs.length : Int) - ((k : Int) + m)) = false := by rw [bne_eq_false_iff_eq]; omega
          have hb2 : (((bs.length - (k + m) : Nat) : Int) != (bs.length : Int) - (k : Int)) = true := by rw [bne_iff_ne]; omega
          generalize (bs.length - (k + m) : Nat) = q at *
          go_wp2_with fail
          go_roundw
          case rel => exact ⟨k + m, j + 1, false, by omega, by go_num, by go_num, rfl, HC2.out.drewN (n3 + n4), E2.out.drewN (n3 + n4)⟩
          case measure => simp [intOf]; omega
      · have HT : Hid (bytesC bs k 1 (m : Nat) = ([], k, 1)) := bytesC_bad _ _ _
        go_wp2_with fail
        refine (cbytes_calls g bs k 1 (m : Nat) _ HC.out (by omega) (by omega)).mono ?_
        rintro e w2 ⟨A2, c2, rfl, h2, g2, hc2⟩
        rw [HT.out] at hc2 h2 ⊢
        have HC2 := Lib.hid hc2
        have H2 := Lib.hid h2
        have E2 := Lib.hid (ext_grown HE.out g2 hg)
        clear g2 hc2 h2
        dsimp only at *
        go_wp2_with fail
        refine (same_calls A2 none c2 0 [] [] _ H2.out.rd RdB.nil (by simp) (by simp)).mono ?_
        rintro e w3 ⟨rfl, n3, rfl⟩
        rw [decide_eq_true (rfl : ([] : List UInt8) = [])]
        go_wp2_with fail
        refine (cerr_calls g bs k 1 _ (HC2.out.drewN n3)).mono ?_
        rintro e w' ⟨rfl, rfl⟩
        go_wp2_with fail
        go_roundw
        case rel => exact ⟨k, j + 1, true, by omega, by go_num, rfl, rfl, HC2.out.drewN n3, E2.out.drewN n3⟩
        case measure => simp [intOf]; omega
    · have hjx : j = xs.length := by omega
      clear Hr Hxs
      cases b
      · by_cases hke : k < bs.length
        · have HD : Hid (doneC bs k 0 = 2) := by show _ = _; simp [doneC, hke]
          go_wp2_with fail
          refine (cdone_calls g bs k 0 _ HC.out (by omega)).mono ?_
          rintro e w3 ⟨rfl, n3, rfl⟩
          rw [HD.out]
          have E3 := Lib.hid (HE.out.drewN n3)
          go_wp2_with fail
          refine (awake01 _).mono ?_
          rintro e w4 ⟨rfl, e4⟩
          have E4 := Lib.hid (E3.out.trans e4)
          clear e4
          go_wp2_with fail
          go_ret
          exact ⟨rfl, E4.out⟩
        · have HD : Hid (doneC bs k 0 = 0) := by show _ = _; simp [doneC, hke]
          go_wp2_with fail
          refine (cdone_calls g bs k 0 _ HC.out (by omega)).mono ?_
          rintro e w3 ⟨rfl, n3, rfl⟩
          rw [HD.out]
          have E3 := Lib.hid (HE.out.drewN n3)
          go_wp2_with fail
          refine (awake01 _).mono ?_
          rintro e w4 ⟨rfl, e4⟩
          have E4 := Lib.hid (E3.out.trans e4)
          clear e4
          go_wp2_with fail
          go_ret
          exact ⟨rfl, E4.out⟩
      · have HD : Hid (doneC bs k 1 = 1) := by show _ = _; simp [doneC]
        by_cases hke : k < bs.length
        all_goals
          go_wp2_with fail
          refine (cdone_calls g bs k 1 _ HC.out (by omega)).mono ?_
          rintro e w3 ⟨rfl, n3, rfl⟩
          rw [HD.out]
          have E3 := Lib.hid (HE.out.drewN n3)
          go_wp2_with fail
          refine (awake01 _).mono ?_
          rintro e w4 ⟨rfl, e4⟩
          have E4 := Lib.hid (E3.out.trans e4)
          clear e4
          go_wp2_with fail
          go_ret
          exact ⟨rfl, E4.out⟩
end Go.Proofs.Ytjbejaieihchmaa
