/- The law RecDecodes. -/
import Derived.Test.YtanlelignljbiaaLaw11a
import Derived.Test.YtanlelignljbiaaPlainRec2
import Derived.Laws.StructEq
set_option maxRecDepth 100000
namespace Go.Proofs.Ytanlelignljbiaa
open Go.RowKit

set_option maxHeartbeats 2000000 in
theorem recDecodes_walk (A : Option Addr) (c : Nat) (bs : List UInt8) (w : World) (hb : RdB w A bs) (hc : bs.length ≤ c) (hm : c ≤ 9223372036854775807) :
    Calls Try.prog 5 #[.slice A bs.length c] w (RetV w (.bool true)) := by
  have Hb := Lib.hid hb
  clear hb
  by_cases hbig : 300 < bs.length
  · go_enter Try.func5, Try.ntmps5
    go_wp2_with fail
    refine (awake11 _).mono ?_
    rintro e w1 ⟨rfl, e1⟩
    have E1 := Lib.hid e1
    clear e1
    go_wp2_with fail
    go_ret
    exact ⟨rfl, E1.out⟩
  have hbl : bs.length ≤ 1000000 := by omega
  rcases dec_law bs with ⟨seq, kn, ten, lease, n, bits, hD, hE, hs, hk5, ht16, hl, hn, hbt, hB⟩ | ⟨ee, hD, h0, hnil, h5⟩
  · have HD := Lib.hid hD
    have HB := Lib.hid hB
    have HCK := Lib.hid (fun w => rcheck_calls seq kn ten lease n bits w hbt (by omega))
    have HBY := Lib.hid (fun w => rbytes_calls seq kn ten lease n bits w hs hk5 (by omega) hl hn hbt)
    rw [hE] at HCK
    rw [hB] at HBY
    clear hE hD hB
    unfold recA at *
    go_enter Try.func5, Try.ntmps5
    go_wp2_with fail
    refine (decode_calls A c bs _ Hb.out hbl).mono ?_
    rintro e w1 ⟨rfl, e1⟩
    have E1 := Lib.hid e1
    rw [HD.out]
    clear e1
    go_wp2_with (first | ((with_reducible show wpList _ _ _ ({ dst := some 3, op := Op.alloc 24, type := _, pos := _, after := _, guard := _ } :: _) _ _); refine alA _ rfl 24 rfl _ _ zero_rec ?_; intro g w2 hg hs1 h1 e1; have HG := Lib.hid (show w.heap.size ≤ g from by have := E1.out.size; omega); have H2 := Lib.hid h1; have E2 := Lib.hid (E1.out.trans e1); clear h1 e1 hs1 hg) | ((with_reducible show wpList _ _ _ ({ dst := none, op := Op.store 24 (.tmp 3) _, type := _, pos := _, after := _, guard := _ } :: _) _ _); refine stA _ rfl 24 24 _ _ rfl g _ (recV seq kn ten lease n bits) rfl rfl H2.out size_rec rfl (rec_one _ _ _ _ _ _) ?_; intro w3 hs1 h1 g1; have H3 := Lib.hid h1; have E3 := Lib.hid (E2.out.grown g1 (fun k hk => by injection hk with hk; have := HG.out; omega)); have d0 := h1.cell 0; have d1 := h1.cell 1; have d2 := h1.cell 2; have d3 := h1.cell 3; have d4 := h1.cell 4; have d5 := h1.cell 5; simp [recV, zrec] at d0 d1 d2 d3 d4 d5; clear h1 g1 hs1))
    refine (HCK.out _).mono ?_
    rintro e w4 ⟨rfl, e4⟩
    have E4 := Lib.hid (E3.out.trans e4)
    have H4 := Lib.hid (H3.out.ext e4)
    clear e4 d0 d1 d2 d3 d4 d5
    have d0 := H4.out.cell 0
    have d1 := H4.out.cell 1
    have d2 := H4.out.cell 2
    have d3 := H4.out.cell 3
    have d4 := H4.out.cell 4
    have d5 := H4.out.cell 5
    simp [recV] at d0 d1 d2 d3 d4 d5
    go_wp2_with fail
    refine (HBY.out _).mono ?_
    rintro e w5 ⟨A5, c5, rfl, o5, e5⟩
    have O5 := Lib.hid o5.rd
    have E5 := Lib.hid (E4.out.trans e5)
    clear e5 o5 d0 d1 d2 d3 d4 d5
    go_wp2_with fail
    refine (sameE A5 A c5 c bs bs _ O5.out (Hb.out.ext E5.out) hbl hbl).mono ?_
    rintro e w6 ⟨rfl, e6⟩
    have E6 := Lib.hid (E5.out.trans e6)
    rw [show decide (bs = bs) = true from by simp]
    clear e6
    go_wp2_with fail
    refine (awake11 _).mono ?_
    rintro e w7 ⟨rfl, e7⟩
    have E7 := Lib.hid (E6.out.trans e7)
    clear e7
    go_wp2_with fail
    go_ret
    exact ⟨rfl, E7.out⟩
  · have HD := Lib.hid hD
    have b1 : (ee != 0) = true := by simpa using h0
    cases bs with
    | nil =>
      obtain rfl : ee = 1 := hnil rfl
      clear hD hnil h5 h0
      go_enter Try.func5, Try.ntmps5
      go_wp2_with fail
      refine (decode_calls _ c _ _ Hb.out hbl).mono ?_
      rintro e w1 ⟨rfl, e1⟩
      have E1 := Lib.hid e1
      rw [HD.out]
      clear e1
      go_wp2_with (first | ((with_reducible show wpList _ _ _ ({ dst := some 3, op := Op.alloc 24, type := _, pos := _, after := _, guard := _ } :: _) _ _); refine alA _ rfl 24 rfl _ _ zero_rec ?_; intro g w2 hg hs1 h1 e1; have HG := Lib.hid (show w.heap.size ≤ g from by have := E1.out.size; omega); have H2 := Lib.hid h1; have E2 := Lib.hid (E1.out.trans e1); clear h1 e1 hs1 hg) | ((with_reducible show wpList _ _ _ ({ dst := none, op := Op.store 24 (.tmp 3) _, type := _, pos := _, after := _, guard := _ } :: _) _ _); refine stA _ rfl 24 24 _ _ rfl g _ (zrec) rfl rfl H2.out size_rec rfl (rec_one 0 0 ByteArray.empty 0 0 0) ?_; intro w3 hs1 h1 g1; have H3 := Lib.hid h1; have E3 := Lib.hid (E2.out.grown g1 (fun k hk => by injection hk with hk; have := HG.out; omega)); have d0 := h1.cell 0; have d1 := h1.cell 1; have d2 := h1.cell 2; have d3 := h1.cell 3; have d4 := h1.cell 4; have d5 := h1.cell 5; simp [recV, zrec] at d0 d1 d2 d3 d4 d5; clear h1 g1 hs1))
      refine (awake11 _).mono ?_
      rintro e w4 ⟨rfl, e4⟩
      have E4 := Lib.hid (E3.out.trans e4)
      clear e4
      go_wp2_with fail
      go_ret
      exact ⟨rfl, E4.out⟩
    | cons b l =>
      obtain ⟨ad, rfl, hc0⟩ := Hb.out.at_ (k := 0) (by simp)
      rw [add_zero'] at hc0
      have HC0 := Lib.hid (show w.cell? ad = some (.int .u8 (b.toNat : Int)) from hc0)
      have hb8 : (b.toNat : Int) < 256 := by have := b.toNat_lt; omega
      clear hc0 hnil hD h0
      have h5' : ee = 5 ↔ knownB (b.toNat : Int) = false := h5.trans ⟨fun ⟨b', l', e, k⟩ => by injection e with e1 e2; subst e1; exact k, fun k => ⟨b, l, rfl, k⟩⟩
      clear h5
      have hp : 0 < (b :: l).length := by simp
      generalize b :: l = bs at *
      by_cases hk : knownB (b.toNat : Int) = false
      · obtain rfl : ee = 5 := h5'.2 hk
        clear h5'
        by_cases hb1 : (b.toNat : Int) < 1
        · clear hk
          go_enter Try.func5, Try.ntmps5
          go_wp2_with fail
          refine (decode_calls _ c _ _ Hb.out hbl).mono ?_
          rintro e w1 ⟨rfl, e1⟩
          have E1 := Lib.hid e1
          rw [HD.out]
          clear e1
          go_wp2_with (first | ((with_reducible show wpList _ _ _ ({ dst := some 3, op := Op.alloc 24, type := _, pos := _, after := _, guard := _ } :: _) _ _); refine alA _ rfl 24 rfl _ _ zero_rec ?_; intro g w2 hg hs1 h1 e1; have HG := Lib.hid (show w.heap.size ≤ g from by have := E1.out.size; omega); have H2 := Lib.hid h1; have E2 := Lib.hid (E1.out.trans e1); clear h1 e1 hs1 hg) | ((with_reducible show wpList _ _ _ ({ dst := none, op := Op.store 24 (.tmp 3) _, type := _, pos := _, after := _, guard := _ } :: _) _ _); refine stA _ rfl 24 24 _ _ rfl g _ (zrec) rfl rfl H2.out size_rec rfl (rec_one 0 0 ByteArray.empty 0 0 0) ?_; intro w3 hs1 h1 g1; have H3 := Lib.hid h1; have E3 := Lib.hid (E2.out.grown g1 (fun k hk => by injection hk with hk; have := HG.out; omega)); have d0 := h1.cell 0; have d1 := h1.cell 1; have d2 := h1.cell 2; have d3 := h1.cell 3; have d4 := h1.cell 4; have d5 := h1.cell 5; have c0 := E3.out.cell HC0.out; simp [recV, zrec] at d0 d1 d2 d3 d4 d5; clear h1 g1 hs1))
          refine (awake11 _).mono ?_
          rintro e w4 ⟨rfl, e4⟩
          have E4 := Lib.hid (E3.out.trans e4)
          clear e4
          go_wp2_with fail
          go_ret
          exact ⟨rfl, E4.out⟩
        · have hb5 : 5 < (b.toNat : Int) := by simp [knownB] at hk; omega
          clear hk
          go_enter Try.func5, Try.ntmps5
          go_wp2_with fail
          refine (decode_calls _ c _ _ Hb.out hbl).mono ?_
          rintro e w1 ⟨rfl, e1⟩
          have E1 := Lib.hid e1
          rw [HD.out]
          clear e1
          go_wp2_with (first | ((with_reducible show wpList _ _ _ ({ dst := some 3, op := Op.alloc 24, type := _, pos := _, after := _, guard := _ } :: _) _ _); refine alA _ rfl 24 rfl _ _ zero_rec ?_; intro g w2 hg hs1 h1 e1; have HG := Lib.hid (show w.heap.size ≤ g from by have := E1.out.size; omega); have H2 := Lib.hid h1; have E2 := Lib.hid (E1.out.trans e1); clear h1 e1 hs1 hg) | ((with_reducible show wpList _ _ _ ({ dst := none, op := Op.store 24 (.tmp 3) _, type := _, pos := _, after := _, guard := _ } :: _) _ _); refine stA _ rfl 24 24 _ _ rfl g _ (zrec) rfl rfl H2.out size_rec rfl (rec_one 0 0 ByteArray.empty 0 0 0) ?_; intro w3 hs1 h1 g1; have H3 := Lib.hid h1; have E3 := Lib.hid (E2.out.grown g1 (fun k hk => by injection hk with hk; have := HG.out; omega)); have d0 := h1.cell 0; have d1 := h1.cell 1; have d2 := h1.cell 2; have d3 := h1.cell 3; have d4 := h1.cell 4; have d5 := h1.cell 5; have c0 := E3.out.cell HC0.out; simp [recV, zrec] at d0 d1 d2 d3 d4 d5; clear h1 g1 hs1))
          refine (awake11 _).mono ?_
          rintro e w4 ⟨rfl, e4⟩
          have E4 := Lib.hid (E3.out.trans e4)
          clear e4
          go_wp2_with fail
          go_ret
          exact ⟨rfl, E4.out⟩
      · have h55 : (ee == 5) = false := by
          rw [beq_eq_false_iff_ne]
          exact fun he => hk (h5'.1 he)
        have hb1 : decide ((b.toNat : Int) < 1) = false := decide_eq_false (by simp [knownB] at hk; omega)
        have hb5 : decide (5 < (b.toNat : Int)) = false := decide_eq_false (by simp [knownB] at hk; omega)
        clear hk h5'
        go_enter Try.func5, Try.ntmps5
        go_wp2_with fail
        refine (decode_calls _ c _ _ Hb.out hbl).mono ?_
        rintro e w1 ⟨rfl, e1⟩
        have E1 := Lib.hid e1
        rw [HD.out]
        clear e1
        go_wp2_with (first | ((with_reducible show wpList _ _ _ ({ dst := some 3, op := Op.alloc 24, type := _, pos := _, after := _, guard := _ } :: _) _ _); refine alA _ rfl 24 rfl _ _ zero_rec ?_; intro g w2 hg hs1 h1 e1; have HG := Lib.hid (show w.heap.size ≤ g from by have := E1.out.size; omega); have H2 := Lib.hid h1; have E2 := Lib.hid (E1.out.trans e1); clear h1 e1 hs1 hg) | ((with_reducible show wpList _ _ _ ({ dst := none, op := Op.store 24 (.tmp 3) _, type := _, pos := _, after := _, guard := _ } :: _) _ _); refine stA _ rfl 24 24 _ _ rfl g _ (zrec) rfl rfl H2.out size_rec rfl (rec_one 0 0 ByteArray.empty 0 0 0) ?_; intro w3 hs1 h1 g1; have H3 := Lib.hid h1; have E3 := Lib.hid (E2.out.grown g1 (fun k hk => by injection hk with hk; have := HG.out; omega)); have d0 := h1.cell 0; have d1 := h1.cell 1; have d2 := h1.cell 2; have d3 := h1.cell 3; have d4 := h1.cell 4; have d5 := h1.cell 5; have c0 := E3.out.cell HC0.out; simp [recV, zrec] at d0 d1 d2 d3 d4 d5; clear h1 g1 hs1))
        refine (awake11 _).mono ?_
        rintro e w4 ⟨rfl, e4⟩
        have E4 := Lib.hid (E3.out.trans e4)
        clear e4
        go_wp2_with fail
        go_ret
        exact ⟨rfl, E4.out⟩
end Go.Proofs.Ytanlelignljbiaa
