/- The law WireEncodes. -/
import Derived.Test.YtanlelignljbiaaLaw21
set_option maxRecDepth 100000
namespace Go.Proofs.Ytanlelignljbiaa
open Go.RowKit

theorem wErr_nat {k s n : Int} {t : List UInt8} {dl : Nat} (h : wErr k s n t dl = 0) : 0 ≤ k ∧ 0 ≤ s ∧ 0 ≤ n := by
  unfold wErr at h
  split at h
  · exact absurd h (by decide)
  rename_i h1
  split at h
  · exact absurd h (by decide)
  rename_i h2
  split at h
  · exact absurd h (by decide)
  split at h
  · exact absurd h (by decide)
  split at h
  · exact absurd h (by decide)
  rename_i h5
  have hk : knownF k = true := by simpa using h1
  have hk2 : 1 ≤ k ∧ k ≤ 8 := by simpa [knownF] using hk
  have h2 : wNum k s n = true := by simpa using h2
  unfold wNum at h2
  rw [Bool.and_eq_true] at h2
  refine ⟨by omega, ?_, ?_⟩
  · cases e : fS k
    · rcases Decidable.em (s = 0) with h | h
      · omega
      · exact absurd (.inl ⟨e, h⟩) h5
    · have := h2.1
      rw [e] at this
      simp at this
      split at this <;> omega
  · cases e : fN k
    · rcases Decidable.em (n = 0) with h | h
      · omega
      · exact absurd (.inr (.inl ⟨e, h⟩)) h5
    · have := h2.2
      rw [e] at this
      simp at this
      omega

set_option maxHeartbeats 4000000 in
theorem wireEncodes_walk (k s n : Int) (t : ByteArray) (A : Option Addr) (c : Nat) (d : List UInt8) (w : World) (hr : RdB w A d) (ht : t.size ≤ 9223372036854775807) (hd : d.length ≤ 9223372036854775807) :
    Calls Try.prog 6 #[fraA k s n t A d.length c] w (RetV w (.bool true)) := by
  have HR := Lib.hid hr
  clear hr
  have XL : Hid (∀ W : World, Calls Try.prog 19 #[.slice (some ⟨W.heap.size, 0, none⟩) 1 1] (W.alloc (.cells #[.int .i64 k, .int .i64 s, .int .i64 n, .string t, .slice A d.length c] 42)) fun e w' => e = .returned (.bool (bigF t d.length)) ∧ (W.alloc (.cells #[.int .i64 k, .int .i64 s, .int .i64 n, .string t, .slice A d.length c] 42)) = w') :=
    fun W => rlarge_one W.heap.size t A d.length c _ (arr_cell_new W _ _ 3 _ rfl) (arr_cell_new W _ _ 4 _ rfl)
  by_cases hbig : bigF t d.length = true
  · unfold fraA
    go_enter Try.func6, Try.ntmps6
    go_wp2_with ((with_reducible show wpList _ _ _ ({ dst := some 1, op := Op.box 42 _, type := _, pos := _, after := _, guard := _ } :: _) _ _); refine bxA _ rfl 42 _ rfl _ rfl ?_; intro g w1 hg hs1 h1 e1; have E1 := Lib.hid e1; have H1 := Lib.hid h1; have d0 := h1.cell 0; have d1 := h1.cell 1; have d2 := h1.cell 2; have d3 := h1.cell 3; have d4 := h1.cell 4; simp at d0 d1 d2 d3 d4; clear h1 e1 hs1 hg)
    refine (XL.out _).mono ?_
    rintro e w2 ⟨rfl, rfl⟩
    rw [hbig]
    have E2 := Lib.hid (E1.out.alloc (.cells #[.int .i64 k, .int .i64 s, .int .i64 n, .string t, .slice A d.length c] 42)); clear d0 d1 d2 d3 d4; have H2 := Lib.hid (H1.out.ext ((Ext.refl _).alloc (.cells #[.int .i64 k, .int .i64 s, .int .i64 n, .string t, .slice A d.length c] 42)))
    go_wp2_with fail
    refine (awake21 _).mono ?_
    rintro e w3 ⟨rfl, e3⟩
    have E3 := Lib.hid (E2.out.trans e3)
    clear e3
    go_wp2_with fail
    go_ret
    exact ⟨rfl, E3.out⟩
  have hbig : bigF t d.length = false := by simpa using hbig
  have hsz : t.size ≤ 100 ∧ d.length ≤ 200 := by
    simp only [bigF, Bool.or_eq_false_iff, decide_eq_false_iff_not] at hbig
    omega
  obtain ⟨hts, hds⟩ := hsz
  have HCK : Hid (∀ W, Calls Try.prog 22 #[.agg #[.int .i64 k, .int .i64 s, .int .i64 n, .string t, .slice A d.length c]] W (RetV W (.int .i64 (wErr k s n t.data.toList d.length)))) := fun W => rwcheck_calls k s n t A d.length c W (by omega)
  by_cases hE : wErr k s n t.data.toList d.length = 0
  · obtain ⟨hk0, hs0, hn0⟩ := wErr_nat hE
    obtain ⟨k', rfl⟩ : ∃ m : Nat, k = m := ⟨k.toNat, by omega⟩
    obtain ⟨s', rfl⟩ : ∃ m : Nat, s = m := ⟨s.toNat, by omega⟩
    obtain ⟨n', rfl⟩ : ∃ m : Nat, n = m := ⟨n.toNat, by omega⟩
    obtain ⟨_, _, _, _, _, z1, z2, z3, z4, z5, z6⟩ := wErr_zero hE
    have HEN : Hid (∀ W, Ext w W → Calls Try.prog 21 #[.agg #[.int .i64 k', .int .i64 s', .int .i64 n', .string t, .slice A d.length c]] W (RetB2' W (wireB k' s' n' t.data.toList d) (.int .i64 0))) :=
      fun W e => wencode_ok k' s' n' t A c d W hE z6 (by omega) (by omega) hts hds (HR.out.ext e)
    have HRB : Hid (∀ W, Ext w W → Calls Try.prog 24 #[.agg #[.int .i64 k', .int .i64 s', .int .i64 n', .string t, .slice A d.length c]] W (RetB W (wireB k' s' n' t.data.toList d))) :=
      fun W e => rwbytes_calls k' s' n' t A c d W hE (HR.out.ext e)
    have hdec := dec_enc k' s' n' t.data.toList d hE
    have hbl : (wireB k' s' n' t.data.toList d).length ≤ 1000 := by rw [wireB_eq, List.length_append, leB_length]; have := (wBody_len (k := k') (s := s') (n := n') z3 z4).1; omega
    have HDEC := Lib.hid hdec
    rw [hE] at HCK
    clear hE hdec
    generalize wireB k' s' n' t.data.toList d = WB at *
    unfold fraA
    go_enter Try.func6, Try.ntmps6
    go_wp2_with ((with_reducible show wpList _ _ _ ({ dst := some 1, op := Op.box 42 _, type := _, pos := _, after := _, guard := _ } :: _) _ _); refine bxA _ rfl 42 _ rfl _ rfl ?_; intro g w1 hg hs1 h1 e1; have E1 := Lib.hid e1; have H1 := Lib.hid h1; have d0 := h1.cell 0; have d1 := h1.cell 1; have d2 := h1.cell 2; have d3 := h1.cell 3; have d4 := h1.cell 4; simp at d0 d1 d2 d3 d4; clear h1 e1 hs1 hg)
    refine (XL.out _).mono ?_
    rintro e w2 ⟨rfl, rfl⟩
    rw [hbig]
    have E2 := Lib.hid (E1.out.alloc (.cells #[.int .i64 k', .int .i64 s', .int .i64 n', .string t, .slice A d.length c] 42)); clear d0 d1 d2 d3 d4; have H2 := Lib.hid (H1.out.ext ((Ext.refl _).alloc (.cells #[.int .i64 k', .int .i64 s', .int .i64 n', .string t, .slice A d.length c] 42)))
    have d0 := H2.out.cell 0
    have d1 := H2.out.cell 1
    have d2 := H2.out.cell 2
    have d3 := H2.out.cell 3
    have d4 := H2.out.cell 4
    simp at d0 d1 d2 d3 d4
    go_wp2_with fail
    refine (HEN.out _ E2.out).mono ?_
    rintro e w3 ⟨A3, c3, rfl, o3, e3⟩
    have O3 := Lib.hid o3.rd
    have E3 := Lib.hid (E2.out.trans e3)
    have H3 := Lib.hid (H2.out.ext e3)
    clear o3 e3 d0 d1 d2 d3 d4 E2 H2
    have d0 := H3.out.cell 0
    have d1 := H3.out.cell 1
    have d2 := H3.out.cell 2
    have d3 := H3.out.cell 3
    have d4 := H3.out.cell 4
    simp at d0 d1 d2 d3 d4
    go_wp2_with fail
    refine (HCK.out _).mono ?_
    rintro e w4 ⟨rfl, e4⟩
    have O4 := Lib.hid (O3.out.ext e4)
    have E4 := Lib.hid (E3.out.trans e4)
    have H4 := Lib.hid (H3.out.ext e4)
    clear e4 d0 d1 d2 d3 d4 E3 H3 O3
    have d0 := H4.out.cell 0
    have d1 := H4.out.cell 1
    have d2 := H4.out.cell 2
    have d3 := H4.out.cell 3
    have d4 := H4.out.cell 4
    simp at d0 d1 d2 d3 d4
    go_wp2_with fail
    refine (wdecode_calls A3 c3 WB _ O4.out (by omega)).mono ?_
    rintro e w5 ⟨A5, c5, rfl, o5, e5⟩
    rw [HDEC.out] at o5 ⊢
    have O5 := Lib.hid o5.rd
    have OW5 := Lib.hid (O4.out.ext e5)
    have E5 := Lib.hid (E4.out.trans e5)
    have H5 := Lib.hid (H4.out.ext e5)
    clear o5 e5 d0 d1 d2 d3 d4 E4 H4 O4
    have d0 := H5.out.cell 0
    have d1 := H5.out.cell 1
    have d2 := H5.out.cell 2
    have d3 := H5.out.cell 3
    have d4 := H5.out.cell 4
    simp at d0 d1 d2 d3 d4
    have htt : (⟨t.data.toList.toArray⟩ : ByteArray) = t := by cases t; simp
    have HSQ : Hid (∀ W, Ext w5 W → Calls Try.prog 25 #[.agg #[.int .i64 k', .int .i64 s', .int .i64 n', .string t, .slice A5 d.length c5], .agg #[.int .i64 k', .int .i64 s', .int .i64 n', .string t, .slice A d.length c]] W (RetV W (.bool true))) :=
      fun W e => rwsame_eq k' s' n' t A5 A c5 c d W (O5.out.ext e) (HR.out.ext (E5.out.trans e)) (by omega)
    have HSB : Hid (∀ W B cB, Ext w5 W → RdB W B WB → Calls Try.prog 17 #[.slice A3 WB.length c3, .slice B WB.length cB] W (RetV W (.bool true))) := by
      intro W B cB e hB
      have h := sameE A3 B c3 cB WB WB W (OW5.out.ext e) hB (by omega) (by omega)
      rw [decide_eq_true (rfl : WB = WB)] at h
      exact h
    simp only [fraA, htt]
    clear htt
    go_wp2_with (first | ((with_reducible show wpList _ _ _ ({ dst := some 6, op := Op.alloc 42, type := _, pos := _, after := _, guard := _ } :: _) _ _); refine alA _ rfl 42 rfl _ _ zero_fra ?_; intro gx w6 hg hs1 h1 e1; have HGX := Lib.hid (show g < gx from by have := H5.out.lt; omega); have X6 := Lib.hid h1; have H6 := Lib.hid (H5.out.ext e1); have E6 := Lib.hid e1; have HXB := Lib.hid (show w5.heap.size ≤ gx from by omega); clear hg hs1 h1 e1 d0 d1 d2 d3 d4) | ((with_reducible show wpList _ _ _ ({ dst := none, op := Op.store 42 (.tmp 6) _, type := _, pos := _, after := _, guard := _ } :: _) _ _); refine stA _ rfl 42 42 _ _ rfl gx _ (fraV k' s' n' t (.slice A5 d.length c5)) rfl rfl X6.out size_fra rfl (fra_one _ _ _ _ _ _ _) ?_; intro w7 hs1 h1 g1; have X7 := Lib.hid h1; have H7 := Lib.hid (H6.out.grown g1 (by intro e; injection e with e; have := HGX.out; omega)); have E7 := Lib.hid (E6.out.grown g1 (fun k hk => by injection hk with hk; have := HXB.out; omega)); have d0 := H7.out.cell 0; have d1 := H7.out.cell 1; have d2 := H7.out.cell 2; have d3 := H7.out.cell 3; have d4 := H7.out.cell 4; simp at d0 d1 d2 d3 d4; clear h1 g1 hs1 X6 H6 E6))
    refine (HRB.out _ (E5.out.trans E7.out)).mono ?_
    rintro e w8 ⟨A8, c8, rfl, o8, e8⟩
    have O8 := Lib.hid o8.rd
    have E8 := Lib.hid (E7.out.trans e8)
    have H8 := Lib.hid (H7.out.ext e8)
    have X8 := Lib.hid (X7.out.ext e8)
    clear o8 e8 d0 d1 d2 d3 d4 H7 X7
    go_wp2_with fail
    refine (HSB.out _ A8 c8 E8.out O8.out).mono ?_
    rintro e w9 ⟨rfl, e9⟩
    have E9 := Lib.hid (E8.out.trans e9)
    have H9 := Lib.hid (H8.out.ext e9)
    have X9 := Lib.hid (X8.out.ext e9)
    clear e9
    have d0 := H9.out.cell 0
    have d1 := H9.out.cell 1
    have d2 := H9.out.cell 2
    have d3 := H9.out.cell 3
    have d4 := H9.out.cell 4
    simp at d0 d1 d2 d3 d4
    have f0 := X9.out.cell 0
    have f1 := X9.out.cell 1
    have f2 := X9.out.cell 2
    have f3 := X9.out.cell 3
    have f4 := X9.out.cell 4
    simp [fraV] at f0 f1 f2 f3 f4
    go_wp2_with fail
    refine (HSQ.out _ E9.out).mono ?_
    rintro e w10 ⟨rfl, e10⟩
    have E10 := Lib.hid (E5.out.trans (E9.out.trans e10))
    clear e10 d0 d1 d2 d3 d4 f0 f1 f2 f3 f4
    go_wp2_with fail
    refine (awake21 _).mono ?_
    rintro e w11 ⟨rfl, e11⟩
    have E11 := Lib.hid (E10.out.trans e11)
    clear e11
    go_wp2_with fail
    go_ret
    exact ⟨rfl, E11.out⟩
  · have HEB : Hid (∀ W, Calls Try.prog 21 #[.agg #[.int .i64 k, .int .i64 s, .int .i64 n, .string t, .slice A d.length c]] W (RetV W (.tuple #[.slice none 0 0, .int .i64 (wErr k s n t.data.toList d.length)]))) := fun W => wencode_bad k s n t A d.length c W hE
    have b1 : (wErr k s n t.data.toList d.length != 0) = true := by simpa using hE
    generalize wErr k s n t.data.toList d.length = er at *
    clear hE
    unfold fraA
    go_enter Try.func6, Try.ntmps6
    go_wp2_with ((with_reducible show wpList _ _ _ ({ dst := some 1, op := Op.box 42 _, type := _, pos := _, after := _, guard := _ } :: _) _ _); refine bxA _ rfl 42 _ rfl _ rfl ?_; intro g w1 hg hs1 h1 e1; have E1 := Lib.hid e1; have H1 := Lib.hid h1; have d0 := h1.cell 0; have d1 := h1.cell 1; have d2 := h1.cell 2; have d3 := h1.cell 3; have d4 := h1.cell 4; simp at d0 d1 d2 d3 d4; clear h1 e1 hs1 hg)
    refine (XL.out _).mono ?_
    rintro e w2 ⟨rfl, rfl⟩
    rw [hbig]
    have E2 := Lib.hid (E1.out.alloc (.cells #[.int .i64 k, .int .i64 s, .int .i64 n, .string t, .slice A d.length c] 42)); clear d0 d1 d2 d3 d4; have H2 := Lib.hid (H1.out.ext ((Ext.refl _).alloc (.cells #[.int .i64 k, .int .i64 s, .int .i64 n, .string t, .slice A d.length c] 42)))
    have d0 := H2.out.cell 0
    have d1 := H2.out.cell 1
    have d2 := H2.out.cell 2
    have d3 := H2.out.cell 3
    have d4 := H2.out.cell 4
    simp at d0 d1 d2 d3 d4
    go_wp2_with fail
    refine (HEB.out _).mono ?_
    rintro e w3 ⟨rfl, e3⟩
    have E3 := Lib.hid (E2.out.trans e3)
    have H3 := Lib.hid (H2.out.ext e3)
    clear e3 d0 d1 d2 d3 d4
    have d0 := H3.out.cell 0
    have d1 := H3.out.cell 1
    have d2 := H3.out.cell 2
    have d3 := H3.out.cell 3
    have d4 := H3.out.cell 4
    simp at d0 d1 d2 d3 d4
    go_wp2_with fail
    refine (HCK.out _).mono ?_
    rintro e w4 ⟨rfl, e4⟩
    have E4 := Lib.hid (E3.out.trans e4)
    clear e4 d0 d1 d2 d3 d4
    go_wp2_with fail
    refine (awake21 _).mono ?_
    rintro e w5 ⟨rfl, e5⟩
    have E5 := Lib.hid (E4.out.trans e5)
    clear e5
    go_wp2_with fail
    go_ret
    exact ⟨rfl, E5.out⟩
end Go.Proofs.Ytanlelignljbiaa
