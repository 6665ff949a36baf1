/- The law WireDecodes. -/
import Derived.Test.YtanlelignljbiaaLaw21
set_option maxRecDepth 100000
namespace Go.Proofs.Ytanlelignljbiaa
open Go.RowKit

theorem two_atW {bs : List UInt8} (h : 1 < bs.length) : leN (bs.take 2) = (bs[0]'(by omega)).toNat + 256 * (bs[1]'h).toNat := by
  match bs, h with
  | a :: b :: l, _ => simp [leN]

set_option maxHeartbeats 4000000 in
theorem wireDecodes_walk (A : Option Addr) (c : Nat) (bs : List UInt8) (w : World) (hr : RdB w A bs) (hcap : bs.length ≤ c) (hcm : c ≤ 9223372036854775807) :
    Calls Try.prog 7 #[.slice A bs.length c] w (RetV w (.bool true)) := by
  by_cases hbig : 400 < bs.length
  · clear hr
    go_enter Try.func7, Try.ntmps7
    go_wp2_with fail
    refine (awake21 _).mono ?_
    rintro e w1 ⟨rfl, e1⟩
    have E1 := Lib.hid e1
    clear e1
    go_wp2_with fail
    go_ret
    exact ⟨rfl, E1.out⟩
  have HR := Lib.hid hr
  clear hr
  have HD : Hid (∀ W, Ext w W → Calls Try.prog 23 #[.slice A bs.length c] W (RetF W (decW bs).1 (.int .i64 (decW bs).2))) := fun W e => wdecode_calls A c bs W (HR.out.ext e) (by omega)
  by_cases hok : (decW bs).2 = 0
  · obtain ⟨F, er, hq⟩ : ∃ F er, decW bs = (F, er) := ⟨_, _, rfl⟩
    obtain ⟨k, s, n, t, d⟩ := F
    rw [hq] at hok HD
    dsimp only at hok HD
    subst hok
    obtain ⟨hE, hW⟩ := enc_dec bs k s n t d hq
    have htt : (⟨t.toArray⟩ : ByteArray).data.toList = t := by simp
    have hts : (⟨t.toArray⟩ : ByteArray).size = t.length := by simp [ByteArray.size]
    obtain ⟨_, _, _, _, _, z1, z2, z3, z4, z5, z6⟩ := wErr_zero hE
    have HCK : Hid (∀ (B : Option Addr) (cB : Nat) W, Calls Try.prog 22 #[.agg #[.int .i64 k, .int .i64 s, .int .i64 n, .string ⟨t.toArray⟩, .slice B d.length cB]] W (RetV W (.int .i64 0))) := by
      intro B cB W
      have h := rwcheck_calls k s n ⟨t.toArray⟩ B d.length cB W (by omega)
      rw [htt, hE] at h
      exact h
    have HBY : Hid (∀ (B : Option Addr) (cB : Nat) W, RdB W B d → Calls Try.prog 24 #[.agg #[.int .i64 k, .int .i64 s, .int .i64 n, .string ⟨t.toArray⟩, .slice B d.length cB]] W (RetB W bs)) := by
      intro B cB W hB
      have h := rwbytes_calls k s n ⟨t.toArray⟩ B cB d W (by rw [htt]; exact hE) hB
      rw [htt, hW] at h
      exact h
    have HSM : Hid (∀ W B cB, Ext w W → RdB W B bs → Calls Try.prog 17 #[.slice B bs.length cB, .slice A bs.length c] W (RetV W (.bool true))) := by
      intro W B cB e hB
      have h := sameE B A cB c bs bs W hB (HR.out.ext e) (by omega) (by omega)
      rw [decide_eq_true (rfl : bs = bs)] at h
      exact h
    clear hE hW hq htt hts
    go_enter Try.func7, Try.ntmps7
    go_wp2_with fail
    refine (HD.out _ (Ext.refl _)).mono ?_
    rintro e w1 ⟨A1, c1, rfl, o1, e1⟩
    dsimp only at o1
    have R1 := Lib.hid o1.rd
    have OW := Lib.hid o1
    have E1 := Lib.hid e1
    clear o1 e1
    simp only [fraA]
    go_wp2_with (first | ((with_reducible show wpList _ _ _ ({ dst := some 3, op := Op.alloc 42, type := _, pos := _, after := _, guard := _ } :: _) _ _); refine alA _ rfl 42 rfl _ _ zero_fra ?_; intro gx w2 hg hs1 h1 e1; have X2 := Lib.hid h1; have E2 := Lib.hid (E1.out.trans e1); have R2 := Lib.hid (R1.out.ext e1); have O2 := Lib.hid (OW.out.ext e1); have HXB := Lib.hid (show w.heap.size ≤ gx from by have := E1.out.size; omega); clear hg hs1 h1 e1) | ((with_reducible show wpList _ _ _ ({ dst := none, op := Op.store 42 (.tmp 3) _, type := _, pos := _, after := _, guard := _ } :: _) _ _); refine stA _ rfl 42 42 _ _ rfl gx _ (fraV k s n ⟨t.toArray⟩ (.slice A1 d.length c1)) rfl rfl X2.out size_fra rfl (fra_one _ _ _ _ _ _ _) ?_; intro w3 hs1 h1 g1; have X3 := Lib.hid h1; have R3 := Lib.hid ((O2.out.keep g1 (.inr (own_ne_arr O2.out X2.out (by decide)))).rd); have E3 := Lib.hid (E2.out.grown g1 (fun k hk => by injection hk with hk; have := HXB.out; omega)); have d0 := h1.cell 0; have d1 := h1.cell 1; have d2 := h1.cell 2; have d3 := h1.cell 3; have d4 := h1.cell 4; simp [fraV] at d0 d1 d2 d3 d4; clear h1 g1 hs1 X2 O2 R2))
    refine (HCK.out A1 c1 _).mono ?_
    rintro e w4 ⟨rfl, e4⟩
    have R4 := Lib.hid (R3.out.ext e4)
    have X4 := Lib.hid (X3.out.ext e4)
    have E4 := Lib.hid (E3.out.trans e4)
    clear e4 d0 d1 d2 d3 d4
    have d0 := X4.out.cell 0
    have d1 := X4.out.cell 1
    have d2 := X4.out.cell 2
    have d3 := X4.out.cell 3
    have d4 := X4.out.cell 4
    simp [fraV] at d0 d1 d2 d3 d4
    go_wp2_with fail
    refine (HBY.out A1 c1 _ R4.out).mono ?_
    rintro e w5 ⟨A5, c5, rfl, o5, e5⟩
    have R5 := Lib.hid o5.rd
    have E5 := Lib.hid (E4.out.trans e5)
    clear o5 e5 d0 d1 d2 d3 d4
    go_wp2_with fail
    refine (HSM.out _ A5 c5 E5.out R5.out).mono ?_
    rintro e w6 ⟨rfl, e6⟩
    have E6 := Lib.hid (E5.out.trans e6)
    clear e6
    go_wp2_with fail
    refine (awake21 _).mono ?_
    rintro e w7 ⟨rfl, e7⟩
    have E7 := Lib.hid (E6.out.trans e7)
    clear e7
    go_wp2_with fail
    go_ret
    exact ⟨rfl, E7.out⟩
  · have hz := dec_zero bs hok
    have HDZ : Hid (∀ W, Ext w W → Calls Try.prog 23 #[.slice A bs.length c] W (RetF W zFr (.int .i64 (decW bs).2))) := by rw [← hz]; exact HD.out
    have hfew := dec_few bs
    have hmany := dec_many bs
    have hkind := dec_kind bs
    have HFE : Hid (bs.length < 2 ∨ bs.length - 2 < leN (bs.take 2) → (decW bs).2 = 1) := fun h => by rw [hfew h]
    have HMA : Hid (2 ≤ bs.length → leN (bs.take 2) < bs.length - 2 → (decW bs).2 = 2) := fun h h' => by rw [hmany h h']
    have HKI : Hid (∀ (h3 : 2 < bs.length), leN (bs.take 2) = bs.length - 2 → ((bs[2]'h3).toNat < 1 ∨ 8 < (bs[2]'h3).toNat) → (decW bs).2 = 5) := fun h3 h h' => by rw [hkind (by omega) h h3 h']
    generalize (decW bs).2 = er at *
    have b1 : (er == 0) = false := beq_eq_false_iff_ne.2 hok
    have HSZ : Hid (∀ W (B : Option Addr) cB, RdB W B [] → Calls Try.prog 25 #[.agg #[.int .i64 0, .int .i64 0, .int .i64 0, .string ⟨#[]⟩, .slice B 0 cB], .agg #[.int .i64 0, .int .i64 0, .int .i64 0, .string ⟨#[]⟩, .slice none 0 0]] W (RetV W (.bool true))) :=
      fun W B cB hB => rwsame_eq 0 0 0 ⟨#[]⟩ B none cB 0 [] W hB RdB.nil (by simp)
    clear hok hz hfew hmany hkind HD
    go_enter Try.func7, Try.ntmps7
    go_wp2_with fail
    refine (HDZ.out _ (Ext.refl _)).mono ?_
    rintro e w1 ⟨A1, c1, rfl, o1, e1⟩
    have o1' : OwnB w1 w.heap.size A1 c1 [] := o1
    have R1 := Lib.hid o1'.rd
    have OW := Lib.hid o1'
    have E1 := Lib.hid e1
    clear o1 e1 o1'
    simp only [fraA, zFr, List.length_nil]
    go_wp2_with (first | ((with_reducible show wpList _ _ _ ({ dst := some 3, op := Op.alloc 42, type := _, pos := _, after := _, guard := _ } :: _) _ _); refine alA _ rfl 42 rfl _ _ zero_fra ?_; intro gx w2 hg hs1 h1 e1; have X2 := Lib.hid h1; have E2 := Lib.hid (E1.out.trans e1); have R2 := Lib.hid (R1.out.ext e1); have O2 := Lib.hid (OW.out.ext e1); have HXB := Lib.hid (show w.heap.size ≤ gx from by have := E1.out.size; omega); clear hg hs1 h1 e1) | ((with_reducible show wpList _ _ _ ({ dst := none, op := Op.store 42 (.tmp 3) _, type := _, pos := _, after := _, guard := _ } :: _) _ _); refine stA _ rfl 42 42 _ _ rfl gx _ (fraV 0 0 0 ⟨#[]⟩ (.slice A1 0 c1)) rfl rfl X2.out size_fra rfl (fra_one _ _ _ _ _ _ _) ?_; intro w3 hs1 h1 g1; have X3 := Lib.hid h1; have R3 := Lib.hid ((O2.out.keep g1 (.inr (own_ne_arr O2.out X2.out (by decide)))).rd); have E3 := Lib.hid (E2.out.grown g1 (fun k hk => by injection hk with hk; have := HXB.out; omega)); have d0 := h1.cell 0; have d1 := h1.cell 1; have d2 := h1.cell 2; have d3 := h1.cell 3; have d4 := h1.cell 4; simp [fraV] at d0 d1 d2 d3 d4; clear h1 g1 hs1 X2 O2 R2))
    refine (HSZ.out _ A1 c1 R3.out).mono ?_
    rintro e w4 ⟨rfl, e4⟩
    have E4 := Lib.hid (E3.out.trans e4)
    clear e4 d0 d1 d2 d3 d4
    by_cases hl2 : bs.length < 2
    · have her := HFE.out (.inl hl2)
      subst her
      go_wp2_with fail
      refine (awake21 _).mono ?_
      rintro e w5 ⟨rfl, e5⟩
      have E5 := Lib.hid (E4.out.trans e5)
      clear e5
      go_wp2_with fail
      go_ret
      exact ⟨rfl, E5.out⟩
    obtain ⟨ad, rfl, hc0⟩ := HR.out.at_ (k := 0) (by omega)
    obtain ⟨ad', hA, hc1⟩ := HR.out.at_ (k := 1) (by omega)
    cases hA
    have hn := two_atW (bs := bs) (by omega)
    have hx8 := (bs[0]'(by omega)).toNat_lt
    have hy8 := (bs[1]'(by omega)).toNat_lt
    have g0 := E4.out.cell hc0
    have g1 := E4.out.cell hc1
    rw [add_zero'] at g0
    have g1' : w4.cell? ⟨ad.block, ad.off + 1, none⟩ = some (.int .u8 ((bs[1]'(by omega)).toNat : Int)) := by
      rw [← g1]; unfold Addr.add; rw [if_neg (by omega)]
    generalize (bs[0]'(by omega)).toNat = x at *
    generalize (bs[1]'(by omega)).toNat = y at *
    generalize leN (bs.take 2) = m at *
    have HNn := Lib.hid hn
    have k0 : (0 : Int) < (bs.length : Int) := by omega
    have k4 : (1 : Int) < (bs.length : Int) := by omega
    have k8 : IntKind.i64.wrap (256 * (y : Int)) = 256 * (y : Int) := IntWalk.i64_in _ (by omega)
    have k9 : IntKind.i64.wrap ((x : Int) + 256 * (y : Int)) = (m : Int) := by rw [IntWalk.i64_in _ (by omega)]; omega
    have kx : IntKind.i64.wrap (x : Int) = (x : Int) := IntWalk.i64_in _ (by omega)
    have ky : IntKind.i64.wrap (y : Int) = (y : Int) := IntWalk.i64_in _ (by omega)
    have hm16 : m < 65536 := by omega
    clear hn hc0 hc1
    go_wp2_with fail
    go_quiet (fail)
    clear k8 k9 kx ky g0 g1 g1' k4
    have E5 := Lib.hid (E4.out.drewN nq)
    generalize w4.drewN nq = w5 at *
    by_cases hfw : bs.length - 2 < m
    · have her := HFE.out (.inr hfw)
      subst her
      have q1 : decide ((bs.length : Int) < 2) = false := by simp; omega
      have q2 : decide ((bs.length : Int) - 2 < (m : Int)) = true := by simp; omega
      go_wp2_with fail
      refine (awake21 _).mono ?_
      rintro e w6 ⟨rfl, e6⟩
      have E6 := Lib.hid (E5.out.trans e6)
      clear e6
      go_wp2_with fail
      go_ret
      exact ⟨rfl, E6.out⟩
    have q1 : decide ((bs.length : Int) < 2) = false := by simp; omega
    have q2 : decide ((bs.length : Int) - 2 < (m : Int)) = false := by simp; omega
    by_cases hmn : m < bs.length - 2
    · have her := HMA.out (by omega) hmn
      subst her
      have q3 : decide ((m : Int) < (bs.length : Int) - 2) = true := by simp; omega
      go_wp2_with fail
      refine (awake21 _).mono ?_
      rintro e w6 ⟨rfl, e6⟩
      have E6 := Lib.hid (E5.out.trans e6)
      clear e6
      go_wp2_with fail
      go_ret
      exact ⟨rfl, E6.out⟩
    have q3 : decide ((m : Int) < (bs.length : Int) - 2) = false := by simp; omega
    by_cases hm0 : m = 0
    · have q4 : decide ((0 : Int) < (m : Int)) = false := by simp; omega
      go_wp2_with fail
      refine (awake21 _).mono ?_
      rintro e w6 ⟨rfl, e6⟩
      have E6 := Lib.hid (E5.out.trans e6)
      clear e6
      go_wp2_with fail
      go_ret
      exact ⟨rfl, E6.out⟩
    have q4 : decide ((0 : Int) < (m : Int)) = true := by simp; omega
    have h3 : 2 < bs.length := by omega
    obtain ⟨ad', hA, hc2⟩ := HR.out.at_ (k := 2) h3
    cases hA
    have g2 := E5.out.cell hc2
    have g2' : w5.cell? ⟨ad.block, ad.off + 2, none⟩ = some (.int .u8 ((bs[2]'h3).toNat : Int)) := by
      rw [← g2]; unfold Addr.add; rw [if_neg (by omega)]
    have HK2 := Lib.hid (HKI.out h3 (by omega))
    generalize (bs[2]'h3).toNat = z at *
    have k5 : (2 : Int) < (bs.length : Int) := by omega
    clear hc2
    by_cases hz1 : z < 1
    · have her := HK2.out (.inl hz1)
      subst her
      go_wp2_with fail
      refine (awake21 _).mono ?_
      rintro e w6 ⟨rfl, e6⟩
      have E6 := Lib.hid (E5.out.trans e6)
      clear e6
      go_wp2_with fail
      go_ret
      exact ⟨rfl, E6.out⟩
    by_cases hz8 : 8 < z
    · have her := HK2.out (.inr hz8)
      subst her
      go_wp2_with fail
      refine (awake21 _).mono ?_
      rintro e w6 ⟨rfl, e6⟩
      have E6 := Lib.hid (E5.out.trans e6)
      clear e6
      go_wp2_with fail
      go_ret
      exact ⟨rfl, E6.out⟩
    go_wp2_with fail
    refine (awake21 _).mono ?_
    rintro e w6 ⟨rfl, e6⟩
    have E6 := Lib.hid (E5.out.trans e6)
    clear e6
    go_wp2_with fail
    go_ret
    exact ⟨rfl, E6.out⟩
end Go.Proofs.Ytanlelignljbiaa
