/- The law RecEncodes. -/
import Derived.Test.YtanlelignljbiaaLaw11a
import Derived.Test.YtanlelignljbiaaPlainRec
import Derived.Laws.StructEq
set_option maxRecDepth 100000
namespace Go.Proofs.Ytanlelignljbiaa
open Go.RowKit

theorem tenant_len {ten : ByteArray} (h : tenantB ten.data.toList = true) : ten.size ≤ 16 := by
  have hl : ten.data.toList.length = ten.size := rfl
  simp [tenantB, hl] at h
  omega

set_option maxHeartbeats 2000000 in
theorem recEncodes_walk (seq : Nat) (k : Int) (ten : ByteArray) (lease n bits : Nat) (w : World) (hs : seq < 18446744073709551616) (hl : lease < 18446744073709551616) (hn : n < 18446744073709551616) (hb : bits < 18446744073709551616) (ht : ten.size ≤ 9223372036854775807) :
    Calls Try.prog 4 #[recA seq k ten lease n bits] w (RetV w (.bool true)) := by
  by_cases hbig : 100 < ten.size
  · unfold recA
    go_enter Try.func4, Try.ntmps4
    go_wp2_with ((with_reducible show wpList _ _ _ ({ dst := some 1, op := Op.box 24 _, type := _, pos := _, after := _, guard := _ } :: _) _ _); refine bxA _ rfl 24 _ rfl _ rfl ?_; intro g w1 hg hs1 h1 e1; have E1 := Lib.hid e1; have d2 := h1.cell 2; simp at d2; clear h1 e1 hs1 hg)
    refine (awake11 _).mono ?_
    rintro e w2 ⟨rfl, e2⟩
    have E2 := Lib.hid (E1.out.trans e2)
    clear e2
    go_wp2_with fail
    go_ret
    exact ⟨rfl, E2.out⟩
  by_cases hE : recE seq k ten lease n bits = 0
  · obtain ⟨hkn, hten, f1, f2, f3⟩ := recE_zero hE
    obtain ⟨kn, rfl, hk5⟩ : ∃ kn : Nat, k = kn ∧ kn ≤ 5 := by
      simp only [knownB, Bool.and_eq_true, decide_eq_true_eq] at hkn
      exact ⟨k.toNat, by omega, by omega⟩
    have ht16 : ten.size ≤ 16 := tenant_len hten
    have HENC := Lib.hid (fun w => encode_ok seq kn ten lease n bits w hE hs hk5 ht16 hl hn hb)
    have HCK := Lib.hid (fun w => rcheck_calls seq kn ten lease n bits w hb (by omega))
    have HBY := Lib.hid (fun w => rbytes_calls seq kn ten lease n bits w hs hk5 (by omega) hl hn hb)
    have HDEC := Lib.hid (dec_bytes seq kn ten lease n bits hE hs hk5 ht16 hl hn hb)
    rw [encB_eq] at HENC
    rw [hE] at HCK
    have hBL : (bytesP seq kn ten lease n bits).length ≤ 1000000 := by
      rw [bytesP_eq]
      simp only [List.length_append, leB_length, fldB, show ten.data.toList.length = ten.size from rfl]
      split <;> split <;> split <;> simp [leB_length] <;> omega
    clear hE hkn hten f1 f2 f3
    generalize bytesP seq kn ten lease n bits = BB at *
    unfold recA at *
    go_enter Try.func4, Try.ntmps4
    go_wp2_with ((with_reducible show wpList _ _ _ ({ dst := some 1, op := Op.box 24 _, type := _, pos := _, after := _, guard := _ } :: _) _ _); refine bxA _ rfl 24 _ rfl _ rfl ?_; intro g w1 hg hs1 h1 e1; have E1 := Lib.hid e1; have H1 := Lib.hid h1; have d0 := h1.cell 0; have d1 := h1.cell 1; have d2 := h1.cell 2; have d3 := h1.cell 3; have d4 := h1.cell 4; have d5 := h1.cell 5; simp at d0 d1 d2 d3 d4 d5; clear h1 e1 hs1 hg)
    refine (HENC.out _).mono ?_
    rintro e w2 ⟨A2, c2, rfl, o2, e2⟩
    have O2 := Lib.hid o2
    have E2 := Lib.hid (E1.out.trans e2)
    have H2 := Lib.hid (H1.out.ext e2)
    clear e2 o2 d0 d1 d2 d3 d4 d5
    have d0 := H2.out.cell 0
    have d1 := H2.out.cell 1
    have d2 := H2.out.cell 2
    have d3 := H2.out.cell 3
    have d4 := H2.out.cell 4
    have d5 := H2.out.cell 5
    simp at d0 d1 d2 d3 d4 d5
    go_wp2_with fail
    refine (HCK.out _).mono ?_
    rintro e w3 ⟨rfl, e3⟩
    have E3 := Lib.hid (E2.out.trans e3)
    have O3 := Lib.hid (O2.out.rd.ext e3)
    have SZ3 := Lib.hid e3.size
    have H3 := Lib.hid (H2.out.ext e3)
    clear e3 d0 d1 d2 d3 d4 d5
    go_wp2_with fail
    refine (decode_calls A2 c2 BB _ O3.out hBL).mono ?_
    rintro e w4 ⟨rfl, e4⟩
    have E4 := Lib.hid (E3.out.trans e4)
    have O4 := Lib.hid (O3.out.ext e4)
    have H4 := Lib.hid (H3.out.ext e4)
    rw [HDEC.out]
    have SZ := Lib.hid (show w2.heap.size ≤ w4.heap.size from Nat.le_trans SZ3.out e4.size)
    clear e4
    go_wp2_with (first | ((with_reducible show wpList _ _ _ ({ dst := some 6, op := Op.alloc 24, type := _, pos := _, after := _, guard := _ } :: _) _ _); refine alA _ rfl 24 rfl _ _ zero_rec ?_; intro g6 w5 hg hs1 h1 e1; have HG6 := Lib.hid (show g < g6 ∧ w.heap.size ≤ g6 ∧ w2.heap.size ≤ g6 from by have := H4.out.lt; have := E4.out.size; have := SZ.out; omega); have H5 := Lib.hid h1; have R5 := Lib.hid (H4.out.ext e1); have O5 := Lib.hid (O4.out.ext e1); have E5 := Lib.hid (E4.out.trans e1); clear h1 e1 hs1 hg) | ((with_reducible show wpList _ _ _ ({ dst := none, op := Op.store 24 (.tmp 6) _, type := _, pos := _, after := _, guard := _ } :: _) _ _); refine stA _ rfl 24 24 _ _ rfl g6 _ (recV seq kn ten lease n bits) rfl rfl H5.out size_rec rfl (rec_one _ _ _ _ _ _) ?_; intro w6 hs1 h1 g1; have H6 := Lib.hid h1; have R6 := Lib.hid (R5.out.grown g1 (by intro e; injection e with e; have := HG6.out; omega)); have G6 := Lib.hid g1; have E6 := Lib.hid (E5.out.grown g1 (fun k hk => by injection hk with hk; have := HG6.out; omega)); have d0 := R6.out.cell 0; have d1 := R6.out.cell 1; have d2 := R6.out.cell 2; have d3 := R6.out.cell 3; have d4 := R6.out.cell 4; have d5 := R6.out.cell 5; simp at d0 d1 d2 d3 d4 d5; clear h1 g1 hs1))
    have O6 := Lib.hid (O5.out.grown G6.out (fun ad h e => by injection e with e; have := (O2.out.base_ ad.block (by rw [h]; rfl)).2; have := HG6.out; omega))
    refine (HBY.out _).mono ?_
    rintro e w7 ⟨A7, c7, rfl, o7, e7⟩
    have O7 := Lib.hid o7.rd
    have P7 := Lib.hid (O6.out.ext e7)
    have E7 := Lib.hid (E6.out.trans e7)
    have R7 := Lib.hid (R6.out.ext e7)
    have H7 := Lib.hid (H6.out.ext e7)
    clear o7 e7 d0 d1 d2 d3 d4 d5
    go_wp2_with fail
    refine (sameE A2 A7 c2 c7 BB BB _ P7.out O7.out hBL hBL).mono ?_
    rintro e w8 ⟨rfl, e8⟩
    have E8 := Lib.hid (E7.out.trans e8)
    have R8 := R7.out.ext e8
    have H8 := H7.out.ext e8
    rw [show decide (BB = BB) = true from by simp]
    clear e8
    have d0 := R8.cell 0
    have d1 := R8.cell 1
    have d2 := R8.cell 2
    have d3 := R8.cell 3
    have d4 := R8.cell 4
    have d5 := R8.cell 5
    have f0 := H8.cell 0
    have f1 := H8.cell 1
    have f2 := H8.cell 2
    have f3 := H8.cell 3
    have f4 := H8.cell 4
    have f5 := H8.cell 5
    simp [recV] at d0 d1 d2 d3 d4 d5 f0 f1 f2 f3 f4 f5
    clear R8 H8
    go_wp2_with fail
    refine (awake11 _).mono ?_
    rintro e w9 ⟨rfl, e9⟩
    have E9 := Lib.hid (E8.out.trans e9)
    clear e9
    go_wp2_with fail
    go_ret
    exact ⟨rfl, E9.out⟩
  · have HER := Lib.hid (fun w => encode_err seq k ten lease n bits w hE hb)
    have HCK := Lib.hid (fun w => rcheck_calls seq k ten lease n bits w hb (by omega))
    have b1 : (recE seq k ten lease n bits != 0) = true := by simpa using hE
    clear hE
    unfold recA at *
    generalize recE seq k ten lease n bits = ee at *
    go_enter Try.func4, Try.ntmps4
    go_wp2_with ((with_reducible show wpList _ _ _ ({ dst := some 1, op := Op.box 24 _, type := _, pos := _, after := _, guard := _ } :: _) _ _); refine bxA _ rfl 24 _ rfl _ rfl ?_; intro g w1 hg hs1 h1 e1; have E1 := Lib.hid e1; have H1 := Lib.hid h1; have d0 := h1.cell 0; have d1 := h1.cell 1; have d2 := h1.cell 2; have d3 := h1.cell 3; have d4 := h1.cell 4; have d5 := h1.cell 5; simp at d0 d1 d2 d3 d4 d5; clear h1 e1 hs1 hg)
    refine (HER.out _).mono ?_
    rintro e w2 ⟨rfl, e2⟩
    have E2 := Lib.hid (E1.out.trans e2)
    have H2 := Lib.hid (H1.out.ext e2)
    clear e2 d0 d1 d2 d3 d4 d5
    have d0 := H2.out.cell 0
    have d1 := H2.out.cell 1
    have d2 := H2.out.cell 2
    have d3 := H2.out.cell 3
    have d4 := H2.out.cell 4
    have d5 := H2.out.cell 5
    simp at d0 d1 d2 d3 d4 d5
    go_wp2_with fail
    refine (HCK.out _).mono ?_
    rintro e w3 ⟨rfl, e3⟩
    have E3 := Lib.hid (E2.out.trans e3)
    clear e3 d0 d1 d2 d3 d4 d5
    go_wp2_with fail
    refine (awake11 _).mono ?_
    rintro e w4 ⟨rfl, e4⟩
    have E4 := Lib.hid (E3.out.trans e4)
    clear e4
    go_wp2_with fail
    go_ret
    exact ⟨rfl, E4.out⟩
end Go.Proofs.Ytanlelignljbiaa
