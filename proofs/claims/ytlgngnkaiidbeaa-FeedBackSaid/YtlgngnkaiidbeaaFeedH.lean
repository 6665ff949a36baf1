/- law22.awake; the law FeedCuts. -/
import Derived.Test.YtlgngnkaiidbeaaFeedG
import Derived.Test.YtlgngnkaiidbeaaFeedE
import Derived.Test.YtlgngnkaiidbeaaPlainWire2
set_option maxRecDepth 100000
set_option linter.unusedVariables false
set_option linter.unusedSimpArgs false
namespace Go.Proofs.Ytlgngnkaiidbeaa
open Go.RowKit

theorem aw1 : fo dcP ([] ++ [2, 0]) = ([], 0, [2, 0]) := by kernel_rfl
theorem aw2 : fo dcP ([2, 0] ++ [7, 3]) = ([(7, 3, 0, ByteArray.empty, [])], 0, []) := by kernel_rfl
set_option maxHeartbeats 2000000 in
theorem awake22 (w : World) : Calls Try.prog 36 #[] w (RetV w (.bool true)) := by
  have HNW := Lib.hid (fnew_calls w)
  go_enter Try.func36, Try.ntmps36
  go_wp2_with fail
  refine HNW.out.mono ?_
  rintro e w1 ⟨gf, rfl, hf, e1, hgf⟩
  have E1 := Lib.hid e1
  have HGF := Lib.hid hgf
  have HP : Hid (Calls Try.prog 41 #[.pointer (some ⟨gf, 0, none⟩), .slice (some ⟨w1.heap.size, 0, none⟩) 2 2] (w1.alloc (.cells #[.int .u8 2, .int .u8 0] 5)) _) := fpush_calls gf [] [2, 0] (some ⟨w1.heap.size, 0, none⟩) 2 _ (hf.ext ((Ext.refl _).alloc _)) (Arr.new w1 5 #[.int .u8 2, .int .u8 0]).rd (by simp) (by simp)
  rw [aw1] at HP
  clear hf e1 hgf HNW
  go_wp2_with fail
  refine HP.out.mono ?_
  rintro e w2 ⟨A2, c2, xs, rfl, _, hxs, hf2, hk2⟩
  obtain rfl : xs = [] := by simpa using hxs
  have E2 := Lib.hid (hk2.ext (E1.out.alloc _) HGF.out)
  have hlt := hf2.lt
  have HQ : Hid (Calls Try.prog 41 #[.pointer (some ⟨gf, 0, none⟩), .slice (some ⟨w2.heap.size, 0, none⟩) 2 2] (w2.alloc (.cells #[.int .u8 7, .int .u8 3] 5)) _) := fpush_calls gf [2, 0] [7, 3] (some ⟨w2.heap.size, 0, none⟩) 2 _ (hf2.ext ((Ext.refl _).alloc _)) (Arr.new w2 5 #[.int .u8 7, .int .u8 3]).rd (by simp) (by simp)
  rw [aw2] at HQ
  clear hf2 hk2 HP hxs
  go_wp2_with fail
  refine HQ.out.mono ?_
  rintro e w3 ⟨A3, c3, ys, rfl, ho, hys, hf3, hk3⟩
  obtain ⟨y, rfl⟩ : ∃ y, ys = [y] := by
    cases ys with
    | nil => simp at hys
    | cons y l => cases l with
      | nil => exact ⟨y, rfl⟩
      | cons z m => simp at hys
  simp only [List.map_cons, List.map_nil, List.cons.injEq, and_true] at hys
  have hs3 : y.s = 3 := by have := congrArg (fun p => p.2.1) hys; simpa [Fm.pl] using this
  have E3 := Lib.hid (hk3.ext (E2.out.alloc _) HGF.out)
  obtain ⟨ad, rfl, hc⟩ := ho.in_.1.fm (i := 0) (by simp)
  have hc1 := (hc w3 (Ext.refl _)).2.1
  simp only [List.getElem_cons_zero, hs3] at hc1
  have HW := Lib.hid (fwaits_calls gf [] 0 w3 hf3)
  clear ho hys hf3 hk3 hc HQ
  have add0 : ad.add 0 = ad := by cases ad; simp [Addr.add]
  simp only [Nat.zero_mul, add0] at hc1
  go_wp2_with fail
  refine HW.out.mono ?_
  rintro e w4 ⟨rfl, rfl⟩
  go_wp2_with fail
  go_ret
  exact ⟨rfl, E3.out⟩

theorem feedCuts_big (A B C : Option Addr) (n m k c d f : Nat) (w : World) (h : 400 < n ∨ 60 < m ∨ 60 < k) : Calls Try.prog 7 #[.slice A n c, .slice B m d, .slice C k f] w (RetV w (.bool true)) := by
  have HA := Lib.hid awake22
  by_cases h1 : 400 < n
  · have k1 : (400 : Int) < (n : Int) := by omega
    go_enter Try.func7, Try.ntmps7
    go_wp2_with fail
    refine (HA.out _).mono ?_
    rintro e w4 ⟨rfl, e4⟩
    go_wp2_with fail
    go_ret
    exact ⟨rfl, e4⟩
  have k1 : ¬ (400 : Int) < (n : Int) := by omega
  by_cases h2 : 60 < m
  · have k2 : (60 : Int) < (m : Int) := by omega
    go_enter Try.func7, Try.ntmps7
    go_wp2_with fail
    refine (HA.out _).mono ?_
    rintro e w4 ⟨rfl, e4⟩
    go_wp2_with fail
    go_ret
    exact ⟨rfl, e4⟩
  have k2 : ¬ (60 : Int) < (m : Int) := by omega
  have k3 : (60 : Int) < (k : Int) := by omega
  go_enter Try.func7, Try.ntmps7
  go_wp2_with fail
  refine (HA.out _).mono ?_
  rintro e w4 ⟨rfl, e4⟩
  go_wp2_with fail
  go_ret
  exact ⟨rfl, e4⟩

theorem dat_small {bs : List UInt8} {f : Fr} (h : decW bs = (f, 0)) : f.2.2.2.2.length ≤ 1000000 := by
  obtain ⟨k, s, n, t, d⟩ := f
  obtain ⟨h1, _⟩ := enc_dec bs k s n t d h
  show d.length ≤ 1000000
  have hm : wMost k ≤ 1000000 := by unfold wMost; split <;> (try split) <;> (try split) <;> (try split) <;> (try split) <;> (try split) <;> (try split) <;> (try split) <;> omega
  unfold wErr at h1
  by_cases hD : fD k = true
  · by_cases hl : wMost k < d.length
    · exfalso
      repeat' split at h1
      all_goals first | omega | simp_all
    · omega
  · have hD : fD k = false := by simpa using hD
    by_cases hz : 0 < d.length
    · exfalso
      repeat' split at h1
      all_goals first | omega | simp_all
    · omega
theorem fo_dat : ∀ (n : Nat) (P : List UInt8), ∀ p ∈ (foN dcP n P).1, p.2.2.2.2.length ≤ 1000000
  | 0, P, p, h => by simp [foN] at h
  | n + 1, P, p, h => by
    unfold foN at h
    cases hs : fstep dcP P with
    | wait => rw [hs] at h; simp at h
    | bad e => rw [hs] at h; simp at h
    | one f k =>
      rw [hs] at h
      dsimp only at h
      rcases List.mem_cons.1 h with rfl | h
      · obtain ⟨_, _, h3, h4⟩ := fstep_one dcP hs
        rw [← h3]
        exact dat_small (f := (decW (P.take k)).1) (Prod.ext rfl h4)
      · exact fo_dat n _ p h
set_option maxHeartbeats 4000000 in
theorem feedCuts_walk (A B C : Option Addr) (c d f : Nat) (bs xs ys : List UInt8) (w : World) (hb : RdB w A bs) (hx : RdB w B xs) (hy : RdB w C ys) (hbc : bs.length ≤ c) (hcm : c ≤ 9223372036854775807) : Calls Try.prog 7 #[.slice A bs.length c, .slice B xs.length d, .slice C ys.length f] w (RetV w (.bool true)) := by
  by_cases hbig : 400 < bs.length ∨ 60 < xs.length ∨ 60 < ys.length
  · exact feedCuts_big A B C _ _ _ c d f w hbig
  have HA := Lib.hid awake22
  have k1 : ¬ (400 : Int) < (bs.length : Int) := by omega
  have k2 : ¬ (60 : Int) < (xs.length : Int) := by omega
  have k3 : ¬ (60 : Int) < (ys.length : Int) := by omega
  have H1 := Lib.hid (cut_calls A B c d bs xs w hb hx (by omega) (by omega) hbc hcm)
  have H2 : Hid (∀ W, Ext w W → _) := fun W e => cut_calls A C c f bs ys W (hb.ext e) (hy.ext e) (by omega) (by omega) hbc hcm
  have hcnt := fo_cnt dcP bs
  have HCN := Lib.hid hcnt
  have hbl : bs.length ≤ 400 := by omega
  have HBL := Lib.hid hbl
  have HFP : Hid (∀ p ∈ (fo dcP bs).1, p.2.2.2.2.length ≤ 1000000) := fo_dat _ bs
  clear hb hx hy hbig hcnt hbl
  generalize fo dcP bs = R at *
  go_enter Try.func7, Try.ntmps7
  go_wp2_with fail
  refine H1.out.mono ?_
  rintro e w1 ⟨A1, c1, us, rfl, o1, m1, e1⟩
  have O1 := Lib.hid o1.in_
  have M1 := Lib.hid m1
  have E1 := Lib.hid e1
  clear o1 m1 e1
  go_wp2_with fail
  refine (H2.out _ E1.out).mono ?_
  rintro e w2 ⟨A2, c2, vs, rfl, o2, m2, e2⟩
  have O2 := Lib.hid o2.in_
  have M2 := Lib.hid m2
  have E2 := Lib.hid e2
  have HLS := Lib.hid (lists_eq A1 A2 c1 c2 us vs w2 (O1.out.ext e2) o2.in_ (M1.out.trans m2.symm) (by have h := congrArg List.length M1.out; rw [List.length_map] at h; have := HCN.out; have := HBL.out; omega) (fun f hf => HFP.out f.pl (by rw [← M1.out]; exact List.mem_map_of_mem hf)))
  clear o2 m2 e2
  go_wp2_with fail
  refine HLS.out.mono ?_
  rintro e w3 ⟨rfl, e3⟩
  have E3 := Lib.hid ((E1.out.trans E2.out).trans e3)
  clear e3
  go_wp2_with fail
  refine (HA.out _).mono ?_
  rintro e w4 ⟨rfl, e4⟩
  have E4 := Lib.hid (E3.out.trans e4)
  clear e4
  go_wp2_with fail
  go_ret
  exact ⟨rfl, E4.out⟩
end Go.Proofs.Ytlgngnkaiidbeaa
