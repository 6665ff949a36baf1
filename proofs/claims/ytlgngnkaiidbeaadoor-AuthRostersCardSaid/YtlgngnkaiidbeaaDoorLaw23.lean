/- AuthHellos, walked. -/
import Derived.Test.YtlgngnkaiidbeaaDoorAuthH
set_option maxRecDepth 100000
set_option linter.unusedVariables false
set_option linter.unusedSimpArgs false
namespace Go.Proofs.YtlgngnkaiidbeaaDoor
open Go.RowKit Go.Shelf

theorem ne_new {w : World} {A : Option Addr} {bs : List UInt8} {g : Nat} (h : RdB w A bs) (hg : w.heap.size = g) (hb : 0 < bs.length) : ∀ ad, A = some ad → ad.block ≠ g := by
  intro ad ha e
  obtain ⟨ad', ha', hc⟩ := h.at_ hb
  rw [ha] at ha'
  cases ha'
  have := cell_lt hc
  rw [block_add] at this
  omega
theorem werr_ten {t : List UInt8} (h : tenantB t = true) : wErr 2 0 0 t 32 = 0 := by
  unfold wErr knownF wNum wTxt wLeast wMost fS fN fT fD
  simp [h]
theorem chk_one {n : ByteArray} {kA : Option Addr} {kc : Nat} {key : List UInt8} (h : chkT [(⟨n, kA, kc, key⟩ : Te)] = 0) : tenantB n.data.toList = true := by
  unfold chkT chkI at h
  cases ht : tenantB n.data.toList with
  | true => rfl
  | false => simp [ht] at h
set_option maxHeartbeats 16000000 in
theorem authHellos_walk (n : ByteArray) (kA A B : Option Addr) (kc c d : Nat) (key bs cs : List UInt8) (w : World) (hk : RdB w kA key) (hkc : key.length ≤ kc) (hkm : kc ≤ 9223372036854775807) (hk0 : kA = none → kc = 0) (hn : n.size ≤ 9223372036854775807) (hb : RdB w A bs) (hbl : bs.length ≤ 9223372036854775807) (hc : RdB w B cs) (hcl : cs.length ≤ 9223372036854775807) (hL : Laid w) :
    Calls Tryd.prog 3 #[.agg #[.string n, .slice kA key.length kc], .slice A bs.length c, .slice B cs.length d] w (RetV w (.bool true)) := by
  have HL := Lib.hid hL
  have HK := Lib.hid hk
  have HB := Lib.hid hb
  have HC := Lib.hid hc
  clear hL hk hb hc
  go_enter Tryd.func3, Tryd.ntmps3
  go_wp2_with ((with_reducible show wpList _ _ _ ({ dst := some 3, op := Op.box 24 _, type := _, pos := _, after := _, guard := _ } :: _) _ _); refine bxA _ rfl 24 _ rfl (teV ⟨n, kA, kc, key⟩) rfl ?_; intro g3 w3 hg hs1 k1 e1; have X3 := Lib.hid k1; have E3 := Lib.hid e1; have x0 : w3.cell? ⟨g3, 0, none⟩ = some (.string n) := k1.cell_some rfl; have x1 : w3.cell? ⟨g3, 1, none⟩ = some (.slice kA key.length kc) := k1.cell_some rfl; clear hg hs1 k1 e1)
  have H4 : Hid (∃ w4, w4 = w3.alloc (.cells #[.string n, .slice kA key.length kc] 24) ∧ Ext w3 w4 ∧ TeIn w4 (some ⟨w3.heap.size, 0, none⟩) [⟨n, kA, kc, key⟩]) := by
    have e := (Ext.refl w3).alloc (.cells #[.string n, .slice kA key.length kc] 24)
    refine ⟨_, rfl, e, Rd.of_block (heap_new w3 _), fun t ht => ?_⟩
    rw [List.mem_singleton] at ht
    subst ht
    exact ⟨HK.out.ext (E3.out.trans e), hkc, hkm, hk0⟩
  obtain ⟨w4, hw4, e4, ht4⟩ := H4.out
  rw [← hw4]
  have E4 := Lib.hid (E3.out.trans e4)
  have T4 := Lib.hid ht4
  have X4 := Lib.hid (X3.out.ext e4)
  clear hw4 e4 ht4 H4 x0 x1 E3 X3 hk0
  generalize w3.heap.size = gl at *
  have x0 : w4.cell? ⟨g3, 0, none⟩ = some (.string n) := X4.out.cell_some rfl
  have x1 : w4.cell? ⟨g3, 1, none⟩ = some (.slice kA key.length kc) := X4.out.cell_some rfl
  have HLG := Lib.hid (rlargeT_calls (some ⟨gl, 0, none⟩) 1 [⟨n, kA, kc, key⟩] w4 T4.out.1 (by simp))
  have HSM : Hid (largeT [(⟨n, kA, kc, key⟩ : Te)] = false → n.size ≤ 100 ∧ key.length ≤ 100) := fun h => by
    unfold largeT bigT at h
    simp at h
    omega
  cases hbig : largeT [(⟨n, kA, kc, key⟩ : Te)] with
  | true =>
    rw [hbig] at HLG
    clear hbig HSM
    refine HLG.out.mono ?_
    rintro e w5 ⟨rfl, rfl⟩
    go_wp2_with fail
    refine (awake23 _ (HL.out.ext E4.out)).mono ?_; rintro e w9 ⟨rfl, e9⟩; have E9 := Lib.hid (E4.out.trans e9); clear e9; go_wp2_with fail; go_ret; exact ⟨rfl, E9.out⟩
  | false =>
    obtain ⟨hn2, hk2⟩ := HSM.out hbig
    rw [hbig] at HLG
    clear hbig HSM
    by_cases h1 : bs.length = 8
    · have q1 : ((bs.length : Int) != 8) = false := by simp; omega
      by_cases h2 : cs.length = 8
      · have q2 : ((cs.length : Int) != 8) = false := by simp; omega
        have HCH := Lib.hid (rchkT_calls (some ⟨gl, 0, none⟩) 1 [⟨n, kA, kc, key⟩] w4 T4.out.1 (by simp) (fun t ht => by rw [List.mem_singleton] at ht; subst ht; show n.size ≤ 1000000; omega))
        have HL1 : Hid (bs.length ≤ 1000 ∧ cs.length ≤ 1000) := ⟨by omega, by omega⟩
        clear h1 h2 hbl hcl hn
        by_cases h3 : chkT [(⟨n, kA, kc, key⟩ : Te)] = 0
        · have hten := chk_one h3
          rw [h3] at HCH
          clear h3
          obtain ⟨T1, hT1⟩ : ∃ T1, T1 = tagB key (msgB bs n) := ⟨_, rfl⟩
          obtain ⟨T2, hT2⟩ : ∃ T2, T2 = tagB key (msgB cs n) := ⟨_, rfl⟩
          have HT1L : Hid (T1.length = 32) := by show _ = _; rw [hT1]; exact tagB_length _ _
          have HT2L : Hid (T2.length = 32) := by show _ = _; rw [hT2]; exact tagB_length _ _
          have HML1 : Hid ((msgB bs n).length ≤ 2000) := by show _ ≤ _; unfold msgB; rw [List.length_append]; have : n.data.toList.length = n.size := rfl; have := HL1.out; omega
          have HML2 : Hid ((msgB cs n).length ≤ 2000) := by show _ ≤ _; unfold msgB; rw [List.length_append]; have : n.data.toList.length = n.size := rfl; have := HL1.out; omega
          have HHE := Lib.hid (ahello_calls n kA A kc c key bs w4 (HK.out.ext E4.out) (HB.out.ext E4.out) (by omega) hkc hkm HL1.out.1 (by omega) (HL.out.ext E4.out))
          have HAN : Hid (∀ (W : World) (D N : Option Addr) (dc nc : Nat) (nn : List UInt8), nn.length ≤ 1000 → Ext w4 W → RdB W N nn → RdB W D T1 → Calls Tryd.prog 9 #[.slice (some ⟨gl, 0, none⟩) 1 1, .slice N nn.length nc, .agg #[.int .i64 2, .int .i64 0, .int .i64 0, .string n, .slice D 32 dc]] W fun e W' => e = .returned (bif decide (tagB key (msgB nn n) = T1) then .tuple #[.string n, .int .i64 0] else .tuple #[.string ByteArray.empty, .int .i64 14]) ∧ Ext W W') := fun W D N dc nc nn h1 e hN hD => by
            have h := aans_calls (some ⟨gl, 0, none⟩) N D 1 nc dc [⟨n, kA, kc, key⟩] ⟨n, kA, kc, key⟩ n nn T1 W (T4.out.ext e) (by simp) (fun t ht => by rw [List.mem_singleton] at ht; subst ht; exact ⟨(show key.length ≤ 1000 by omega), (show n.size ≤ 1000 by omega)⟩) hN h1 hD (by rw [HT1L.out]; exact werr_ten hten) ⟨0, by simp, idx1 _ _ _ _, rfl⟩ ((HL.out.ext E4.out).ext e)
            rw [HT1L.out] at h
            exact h
          have HM1 : Hid (∀ W, Ext w4 W → Calls Tryd.prog 11 #[.slice A bs.length c, .string n] W (RetB W (msgB bs n))) := fun W e => rmsg_calls A c bs n W ((HB.out.ext E4.out).ext e) HL1.out.1 (by omega)
          have HM2 : Hid (∀ W, Ext w4 W → Calls Tryd.prog 11 #[.slice B cs.length d, .string n] W (RetB W (msgB cs n))) := fun W e => rmsg_calls B d cs n W ((HC.out.ext E4.out).ext e) HL1.out.2 (by omega)
          have HT1 : Hid (∀ (W : World) (D : Option Addr) (dc : Nat), Ext w4 W → RdB W D (msgB bs n) → Calls Tryd.prog 10 #[.slice kA key.length kc, .slice D (msgB bs n).length dc] W (RetB W T1)) := fun W D dc e h => by rw [hT1]; exact rtag_calls kA D kc dc key (msgB bs n) W ((HK.out.ext E4.out).ext e) h (by omega) (by have := HML1.out; omega)
          have HT2 : Hid (∀ (W : World) (D : Option Addr) (dc : Nat), Ext w4 W → RdB W D (msgB cs n) → Calls Tryd.prog 10 #[.slice kA key.length kc, .slice D (msgB cs n).length dc] W (RetB W T2)) := fun W D dc e h => by rw [hT2]; exact rtag_calls kA D kc dc key (msgB cs n) W ((HK.out.ext E4.out).ext e) h (by omega) (by have := HML2.out; omega)
          have HAN1 : Hid (∀ (W : World) (D : Option Addr) (dc : Nat), Ext w4 W → RdB W D T1 → _) := fun W D dc e hD => HAN.out W D A dc c bs HL1.out.1 e ((HB.out.ext E4.out).ext e) hD
          have HAN2 : Hid (∀ (W : World) (D : Option Addr) (dc : Nat), Ext w4 W → RdB W D T1 → _) := fun W D dc e hD => HAN.out W D B dc d cs HL1.out.2 e ((HC.out.ext E4.out).ext e) hD
          have hdd : decide (tagB key (msgB bs n) = T1) = true := by rw [hT1]; simp
          rw [hdd] at HAN1
          rw [← hT2] at HAN2
          rw [← hT1] at HHE
          have HS12 : Hid (∀ (W : World) (P Q : Option Addr) (p q : Nat), RdB W P T1 → RdB W Q T2 → Calls Tryd.prog 12 #[.slice P T1.length p, .slice Q T2.length q] W (RetV W (.bool (decide (T2 = T1))))) := fun W P Q p q h1 h2 => by
            have h := sameE P Q p q T1 T2 W h1 h2 (by rw [HT1L.out]; omega) (by rw [HT2L.out]; omega)
            rw [show decide (T1 = T2) = decide (T2 = T1) by rw [Bool.eq_iff_iff]; simp only [decide_eq_true_eq]; exact eq_comm] at h
            exact h
          have HS11 : Hid (∀ (W : World) (P Q : Option Addr) (p q : Nat), RdB W P T1 → RdB W Q T1 → Calls Tryd.prog 12 #[.slice P 32 p, .slice Q T1.length q] W (RetV W (.bool true))) := fun W P Q p q h1 h2 => by
            have h := sameE P Q p q T1 T1 W h1 h2 (by rw [HT1L.out]; omega) (by rw [HT1L.out]; omega)
            rw [decide_eq_true rfl] at h
            rw [HT1L.out] at h ⊢
            exact h
          have HAWK : Hid (∀ W, Ext w4 W → Calls Tryd.prog 7 #[] W (RetV W (.bool true))) := fun W e => awake23 W ((HL.out.ext E4.out).ext e)
          have HT1P : Hid (0 < T1.length) := by show 0 < T1.length; rw [HT1L.out]; omega
          clear hT1 hT2 hdd HAN HML1 HML2 HL1 hten HL HK HB HC T4 HT1L HT2L hkc hkm hn2 hk2
          generalize msgB bs n = M1 at *
          generalize msgB cs n = M2 at *
          generalize decide (T2 = T1) = bq at *
          refine HLG.out.mono ?_
          rintro e w5 ⟨rfl, hw5⟩
          obtain rfl := hw5.symm
          go_wp2_with (go_at_call 6; refine HCH.out.mono ?_; rintro e w5 ⟨rfl, hw5⟩; obtain rfl := hw5.symm)
          refine HHE.out.mono ?_
          rintro e w5 ⟨A5, c5, rfl, r5, e5⟩
          have E5 := Lib.hid e5
          have R5 := Lib.hid r5
          clear r5 e5 HHE HLG HCH x0 x1
          have HAN2 : Hid (∀ (W : World) (D : Option Addr) (dc : Nat), Ext w4 W → RdB W D T1 → Calls Tryd.prog 9 #[.slice (some ⟨gl, 0, none⟩) 1 1, .slice B cs.length d, .agg #[.int .i64 2, .int .i64 0, .int .i64 0, .string n, .slice D 32 dc]] W fun e W' => e = .returned (.tuple #[.string (bif bq then n else ByteArray.empty), .int .i64 (bif bq then 0 else 14)]) ∧ Ext W W') := fun W D dc e h => by
            refine (HAN2.out W D dc e h).mono ?_
            rintro e W' ⟨rfl, h9⟩
            exact ⟨by cases bq <;> rfl, h9⟩
          have qg : ((bif bq then (0 : Int) else 14) == 0) = bq := by cases bq <;> rfl
          generalize (bif bq then (0 : Int) else 14) = gz at *
          generalize (bif bq then n else ByteArray.empty) = gs at *
          unfold frV
          go_wp2_with (first | ((with_reducible show wpList _ _ _ ({ dst := some 8, op := Op.alloc 31, type := _, pos := _, after := _, guard := _ } :: _) _ _); refine alA _ rfl 31 rfl _ _ zero_fr ?_; intro g8 w6 hg hs1 k3 e3; have X6 := Lib.hid k3; have E6 := Lib.hid (E5.out.trans e3); have R6 := Lib.hid (R5.out.ext e3); have G8 := Lib.hid (Nat.le_trans E5.out.size (Nat.le_of_eq hg)); have HR6 := Lib.hid (ne_new R5.out hg HT1P.out); clear hg hs1 k3 e3) | ((with_reducible show wpList _ _ _ ({ dst := none, op := Op.store 31 _ _, type := _, pos := _, after := _, guard := _ } :: _) _ _); refine stA _ rfl 31 31 _ _ rfl g8 _ (frV 2 0 0 n (.slice A5 32 c5)) rfl rfl X6.out size_fr rfl (fr_one _ _ _ _ _ _ _) ?_; intro w7 hs k4 q4; have E7 := Lib.hid (show Ext w4 w7 from E6.out.grown q4 (fun k hk => by injection hk with hk; have := G8.out; omega)); have X7 := Lib.hid k4; have R7 := Lib.hid (R6.out.grown q4 (fun ad ha e => by injection e with e; exact HR6.out ad ha e)); obtain ⟨y0, y1, y2, y3, y4⟩ := fr_cells k4; clear hs k4 q4 X6 R6))
          refine (HAN1.out w7 A5 c5 E7.out R7.out).mono ?_
          rintro e w8 ⟨rfl, e8⟩
          have E8 := Lib.hid (E7.out.trans e8)
          have R8 := Lib.hid (R7.out.ext e8)
          have X8 := Lib.hid (X7.out.ext e8)
          clear e8 y0 y1 y2 y3 y4
          obtain ⟨y0, y1, y2, y3, y4⟩ := fr_cells X8.out
          dsimp only [cond]
          go_wp2_with fail
          refine (HAN2.out w8 A5 c5 E8.out R8.out).mono ?_
          rintro e w9 ⟨rfl, e9⟩
          have E9 := Lib.hid (E8.out.trans e9)
          have R9 := Lib.hid (R8.out.ext e9)
          have X9 := Lib.hid (X8.out.ext e9)
          clear e9 y0 y1 y2 y3 y4 HAN1 HAN2 R8 X8 R7 X7 E7 E8 E6 R5
          go_wp2_with fail
          have Y9 := Lib.hid (X4.out.ext E9.out)
          have KS : Hid (∀ W, Ext w9 W → Ext w9 W ∧ W.cell? ⟨g3, 0, none⟩ = some (.string n) ∧ W.cell? ⟨g3, 1, none⟩ = some (.slice kA key.length kc)) := fun W e => ⟨e, (Y9.out.ext e).cell_some rfl, (Y9.out.ext e).cell_some rfl⟩
          have HM1' : Hid (∀ W, Ext w9 W → _) := fun W e => HM1.out W (E9.out.trans e)
          have HM2' : Hid (∀ W, Ext w9 W → _) := fun W e => HM2.out W (E9.out.trans e)
          have HT1' : Hid (∀ (W : World) (D : Option Addr) (dc : Nat), Ext w9 W → RdB W D M1 → _) := fun W D dc e h => HT1.out W D dc (E9.out.trans e) h
          have HT2' : Hid (∀ (W : World) (D : Option Addr) (dc : Nat), Ext w9 W → RdB W D M2 → _) := fun W D dc e h => HT2.out W D dc (E9.out.trans e) h
          clear HM1 HM2 HT1 HT2
          have HM1 := HM1'
          have HM2 := HM2'
          have HT1 := HT1'
          have HT2 := HT2'
          clear HM1' HM2' HT1' HT2'
          go_region_held3 (fun W => Ext w9 W ∧ W.cell? ⟨g3, 0, none⟩ = some (.string n) ∧ W.cell? ⟨g3, 1, none⟩ = some (.slice kA key.length kc))
            (first | exact KS.out _ (Ext.refl _).drew | exact KS.out _ Z)
            (first | (go_at_call_of 11 (Value.slice A bs.length c); refine (HM1.out _ (by first | assumption | exact (Ext.refl _).drew)).mono ?_; rintro e v1 ⟨A1, c1, rfl, o1, z1⟩; have Z := Ext.trans (by first | assumption | exact (Ext.refl _).drew) z1; have R1 := o1.rd; (try have R2 := RdB.ext R2 z1); (try have Q2 := RdB.ext Q2 z1); clear o1 z1) | (go_at_call_of 11 (Value.slice B cs.length d); refine (HM2.out _ (by first | assumption | exact (Ext.refl _).drew)).mono ?_; rintro e v2 ⟨A2, c2, rfl, o2, z2⟩; have Z := Ext.trans (by first | assumption | exact (Ext.refl _).drew) z2; have R2 := o2.rd; (try have R1 := RdB.ext R1 z2); (try have Q1 := RdB.ext Q1 z2); clear o2 z2) | (go_at_call_of 10 (Value.slice A1 M1.length c1); refine (HT1.out _ _ _ (by first | assumption | exact (Ext.refl _).drew) R1).mono ?_; rintro e v3 ⟨A3, c3, rfl, o3, z3⟩; have Z := Ext.trans (by first | assumption | exact (Ext.refl _).drew) z3; have Q1 := o3.rd; (try have R2 := RdB.ext R2 z3); (try have Q2 := RdB.ext Q2 z3); clear o3 z3) | (go_at_call_of 10 (Value.slice A2 M2.length c2); refine (HT2.out _ _ _ (by first | assumption | exact (Ext.refl _).drew) R2).mono ?_; rintro e v4 ⟨A4, c4, rfl, o4, z4⟩; have Z := Ext.trans (by first | assumption | exact (Ext.refl _).drew) z4; have Q2 := o4.rd; (try have R1 := RdB.ext R1 z4); (try have Q1 := RdB.ext Q1 z4); clear o4 z4))
          all_goals
            have qn : (n.toList == n.toList) = true := by simp
            have x0 := (Y9.out.ext Z).cell_some (i := 0) (v := .string n) rfl
            obtain ⟨y0, y1, y2, y3, y4⟩ := fr_cells (X9.out.ext Z)
            have RZ := Lib.hid (R9.out.ext Z)
            have XZ := Lib.hid (X9.out.ext Z)
            have EZ := Lib.hid (E9.out.trans Z)
            have P1 := Lib.hid Q1
            have P2 := Lib.hid Q2
            clear Z Q1 Q2
            clear HM1 HM2 HT1 HT2 HAN2 KS
            go_wp2_with (first
              | (go_at_call_of 12 (Value.slice A5 32 c5); have hz := HS11.out _ A5 A3 c5 c3 V2.out V1.out; refine hz.mono ?_; rintro e u2 ⟨rfl, v2⟩; have U2 := Lib.hid (U1.out.trans v2); clear hz v2)
              | (go_at_call_of 12 (Value.slice A3 T1.length c3); have hz := HS12.out _ A3 A4 c3 c4 P1.out P2.out; refine hz.mono ?_; rintro e u1 ⟨rfl, v1⟩; have U1 := Lib.hid (EZ.out.trans v1); have V1 := Lib.hid (P1.out.ext v1); have V2 := Lib.hid (RZ.out.ext v1); have V3 := Lib.hid (XZ.out.ext v1); clear hz v1 y0 y1 y2 y3 y4 x0; obtain ⟨y0, y1, y2, y3, y4⟩ := fr_cells V3.out)
              | (go_at_call 7; have hz := HAWK.out _ U2.out; refine hz.mono ?_; rintro e u3 ⟨rfl, v3⟩; have U3 := Lib.hid (E4.out.trans (U2.out.trans v3)); clear hz v3))
            go_ret
            exact ⟨rfl, U3.out⟩
        · have q3 : (chkT [(⟨n, kA, kc, key⟩ : Te)] != 0) = true := by simpa using h3
          clear h3
          generalize chkT [(⟨n, kA, kc, key⟩ : Te)] = z at *
          refine HLG.out.mono ?_
          rintro e w5 ⟨rfl, rfl⟩
          go_wp2_with (go_at_call 6; refine HCH.out.mono ?_; rintro e w5 ⟨rfl, hw5⟩; obtain rfl := hw5.symm)
          refine (awake23 _ (HL.out.ext E4.out)).mono ?_; rintro e w9 ⟨rfl, e9⟩; have E9 := Lib.hid (E4.out.trans e9); clear e9; go_wp2_with fail; go_ret; exact ⟨rfl, E9.out⟩
      · have q2 : ((cs.length : Int) != 8) = true := by simp; omega
        clear h1 h2
        refine HLG.out.mono ?_
        rintro e w5 ⟨rfl, rfl⟩
        go_wp2_with fail
        refine (awake23 _ (HL.out.ext E4.out)).mono ?_; rintro e w9 ⟨rfl, e9⟩; have E9 := Lib.hid (E4.out.trans e9); clear e9; go_wp2_with fail; go_ret; exact ⟨rfl, E9.out⟩
    · have q1 : ((bs.length : Int) != 8) = true := by simp; omega
      clear h1
      refine HLG.out.mono ?_
      rintro e w5 ⟨rfl, rfl⟩
      go_wp2_with fail
      refine (awake23 _ (HL.out.ext E4.out)).mono ?_; rintro e w9 ⟨rfl, e9⟩; have E9 := Lib.hid (E4.out.trans e9); clear e9; go_wp2_with fail; go_ret; exact ⟨rfl, E9.out⟩
end Go.Proofs.YtlgngnkaiidbeaaDoor
