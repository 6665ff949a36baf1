/- AuthRosters, walked. -/
import Derived.Test.YtlgngnkaiidbeaaDoorLaw23
import Derived.Test.YtlgngnkaiidbeaaDoorArgTeN
import Derived.Test.YtlgngnkaiidbeaaDoorQuietE
set_option maxRecDepth 100000
set_option linter.unusedVariables false
set_option linter.unusedSimpArgs false
namespace Go.Proofs.YtlgngnkaiidbeaaDoor
open Go.RowKit Go.Shelf

set_option maxHeartbeats 16000000 in
theorem authRosters_walk (A B : Option Addr) (c d : Nat) (ls : List Te) (s : ByteArray) (bs : List UInt8) (w : World) (hb : RdE Te.cs w A ls) (ho : ∀ t ∈ ls, TeA w t) (hlm : ls.length ≤ 9223372036854775807) (hcap : ls.length ≤ c) (hcm : c ≤ 9223372036854775807) (hs : s.size ≤ 9223372036854775807) (hn : RdB w B bs) (hbl : bs.length ≤ 9223372036854775807) (hn0 : B = none → d = 0) (hL : Laid w) :
    Calls Tryd.prog 4 #[.slice A ls.length c, .string s, .slice B bs.length d] w (RetV w (.bool true)) := by
  have HL := Lib.hid hL
  have HB := Lib.hid hb
  have HO := Lib.hid ho
  have HN := Lib.hid hn
  have HN0 := Lib.hid hn0
  have HLG := Lib.hid (rlargeT_calls A c ls w hb hlm)
  have HAWK : Hid (∀ W, Ext w W → Calls Tryd.prog 7 #[] W (RetV W (.bool true))) := fun W e => awake23 W (hL.ext e)
  clear hL hb ho hn hn0
  cases hbig : largeT ls with
  | true =>
    rw [hbig] at HLG
    clear hbig
    go_enter Tryd.func4, Tryd.ntmps4
    go_wp2_with fail
    refine HLG.out.mono ?_
    rintro e w1 ⟨rfl, hw1⟩
    obtain rfl := hw1.symm
    go_wp2_with fail
    refine (HAWK.out _ (Ext.refl _)).mono ?_
    rintro e w9 ⟨rfl, e9⟩
    have E9 := Lib.hid e9
    clear e9
    go_wp2_with fail
    go_ret
    exact ⟨rfl, E9.out⟩
  | false =>
    have HSZ : Hid (ls.length ≤ 20 ∧ ∀ t ∈ ls, t.n.size ≤ 100 ∧ t.d.length ≤ 100) := by
      unfold largeT at hbig
      rw [Bool.or_eq_false_iff] at hbig
      have h20 : ls.length ≤ 20 := by simpa using hbig.2
      refine ⟨h20, fun t ht => ?_⟩
      have h1 := hbig.1
      rw [List.take_of_length_le h20, List.any_eq_false] at h1
      have h2 := h1 t ht
      unfold bigT at h2
      simp at h2
      omega
    rw [hbig] at HLG
    clear hbig
    by_cases hs1 : 100 < s.size
    · have k1 : (100 : Int) < (s.size : Int) := by omega
      go_enter Tryd.func4, Tryd.ntmps4
      go_wp2_with fail
      refine HLG.out.mono ?_
      rintro e w1 ⟨rfl, hw1⟩
      obtain rfl := hw1.symm
      go_wp2_with fail
      refine (HAWK.out _ (Ext.refl _)).mono ?_
      rintro e w9 ⟨rfl, e9⟩
      have E9 := Lib.hid e9
      clear e9
      go_wp2_with fail
      go_ret
      exact ⟨rfl, E9.out⟩
    have k1 : ¬ (100 : Int) < (s.size : Int) := by omega
    by_cases hb1 : 100 < bs.length
    · have k2 : (100 : Int) < (bs.length : Int) := by omega
      go_enter Tryd.func4, Tryd.ntmps4
      go_wp2_with fail
      refine HLG.out.mono ?_
      rintro e w1 ⟨rfl, hw1⟩
      obtain rfl := hw1.symm
      go_wp2_with fail
      refine (HAWK.out _ (Ext.refl _)).mono ?_
      rintro e w9 ⟨rfl, e9⟩
      have E9 := Lib.hid e9
      clear e9
      go_wp2_with fail
      go_ret
      exact ⟨rfl, E9.out⟩
    have k2 : ¬ (100 : Int) < (bs.length : Int) := by omega
    have HSB : Hid (s.size ≤ 100 ∧ bs.length ≤ 100) := ⟨by omega, by omega⟩
    have HLN : Hid (ls.length ≤ 20) := HSZ.out.1
    have HTE : Hid (TeIn w A ls) := ⟨HB.out, fun t ht => (HO.out t ht).1⟩
    have HFD : Hid (Calls Tryd.prog 13 #[.slice A ls.length c, .string s] w (RetFd w ls s)) := afindT_calls A c ls s w HTE.out (by have := HLN.out; omega) (fun t ht => by have := (HSZ.out.2 t ht).2; omega)
    have HRF : Hid (∀ W, Ext w W → Calls Tryd.prog 14 #[.slice A ls.length c, .string s] W fun e w' => e = .returned (.int .i64 (idxT ls (isN s))) ∧ w' = W) := fun W e => rfindT_calls A c ls s W (RdE.ext HB.out e) (by have := HLN.out; omega)
    have HAC0 : Hid (∀ W, Ext w W → Calls Tryd.prog 15 #[.slice A ls.length c] W (RetV W (.int .i64 (chkT ls)))) := fun W e => achkT_calls A c ls W (RdE.ext HB.out e) (by have := HLN.out; omega) hcap hcm (fun t ht => by have := (HSZ.out.2 t ht).1; omega)
    have HRC0 : Hid (∀ W, Ext w W → Calls Tryd.prog 6 #[.slice A ls.length c] W (RetV W (.int .i64 (chkT ls)))) := fun W e => (rchkT_calls A c ls W (RdE.ext HB.out e) (by have := HLN.out; omega) (fun t ht => by have := (HSZ.out.2 t ht).1; omega)).mono (by rintro e w' ⟨rfl, rfl⟩; exact ⟨rfl, Ext.refl _⟩)
    generalize chkT ls = zc at *
    have HCH : Hid (∀ W, Ext w W → Calls Tryd.prog 16 #[.slice B bs.length d] W (RetCh W bs)) := fun W e => achal_calls B d bs W (HN.out.ext e) (by have := HSB.out.2; omega) HN0.out
    have HWC : Hid (∀ W, Calls Tryd.prog 17 #[.agg (frV 1 0 0 ByteArray.empty (.slice B bs.length d))] W (RetV W (.int .i64 (wErr 1 0 0 [] bs.length)))) := fun W => rwcheck_calls 1 0 0 ByteArray.empty B bs.length d W (by decide)
    have HAM : Hid (∀ W, Ext w W → Calls Tryd.prog 19 #[.slice B bs.length d, .string s] W (RetB W (msgB bs s))) := fun W e => amsg_calls B d bs s W (HN.out.ext e) (by have := HSB.out.2; omega) (by have := HSB.out.1; omega)
    have HRM : Hid (∀ W, Ext w W → Calls Tryd.prog 11 #[.slice B bs.length d, .string s] W (RetB W (msgB bs s))) := fun W e => rmsg_calls B d bs s W (HN.out.ext e) (by have := HSB.out.2; omega) (by have := HSB.out.1; omega)
    have HML : Hid ((msgB bs s).length ≤ 300) := by
      show _ ≤ _
      unfold msgB
      rw [List.length_append]
      have h1 : s.data.toList.length = s.size := rfl
      have := HSB.out
      omega
    clear hs1 hb1 hbl hs
    go_enter Tryd.func4, Tryd.ntmps4
    go_wp2_with fail
    refine HLG.out.mono ?_
    rintro e w1 ⟨rfl, hw1⟩
    obtain rfl := hw1.symm
    clear HLG
    go_wp2_with fail
    refine HFD.out.mono ?_
    rintro e w3 (⟨hi, rfl, e3⟩ | ⟨k, hlt, hi, hp, A3, c3, rfl, o3, e3⟩)
    · have E3 := Lib.hid e3
      rw [hi] at HRF
      clear e3 hi
      go_wp2_with (first | ((with_reducible show wpList _ _ _ ({ dst := some 7, op := Op.alloc 24, type := _, pos := _, after := _, guard := _ } :: _) _ _); refine alA _ rfl 24 rfl _ _ zero_te ?_; intro g7 w4 hg hs1 k3 e3; have X4 := Lib.hid k3; have E4 := Lib.hid (E3.out.trans e3); have G7 := Lib.hid (Nat.le_trans E3.out.size (Nat.le_of_eq hg)); skip; clear hg hs1 k3 e3) | ((with_reducible show wpList _ _ _ ({ dst := none, op := Op.store 24 _ _, type := _, pos := _, after := _, guard := _ } :: _) _ _); refine stA _ rfl 24 24 _ _ rfl g7 _ (teV (⟨ByteArray.empty, none, 0, []⟩)) rfl rfl X4.out size_te rfl (teV_one _) ?_; intro w5 hs k4 q4; have E5 := Lib.hid (show Ext w w5 from E4.out.grown q4 (fun k hk => by injection hk with hk; have := G7.out; omega)); have X5 := Lib.hid k4; skip; clear hs k4 q4))
      refine (HRF.out _ E5.out).mono ?_
      rintro e w6 ⟨rfl, hw6⟩
      obtain rfl := hw6.symm
      clear HRF HFD
      have HAC : Hid (∀ W, Ext w5 W → _) := fun W e => HAC0.out W (E5.out.trans e)
      have HRC : Hid (∀ W, Ext w5 W → _) := fun W e => HRC0.out W (E5.out.trans e)
      have HSM : Hid (∀ W, Ext w5 W → _) := HAC.out
      have KS : Hid (∀ W, Ext w5 W → W.cell? ⟨g7, 0, none⟩ = some (.string ByteArray.empty) ∧ W.cell? ⟨g7, 1, none⟩ = some (.slice none 0 0) ∧ True) := fun W e => ⟨(X5.out.ext e).cell_some rfl, (X5.out.ext e).cell_some rfl, trivial⟩
      have qe : (ByteArray.empty.toList == (ByteArray.mk #[]).toList) = true := by simp [show (ByteArray.mk #[]) = ByteArray.empty from rfl]
      go_wp2_with fail
      refine wp_region_quietE w5 (Ext.refl _) (by kernel_rfl) (by kernel_rfl) ?_
      repeat (first | (apply wpq_skip; (focus rfl); (try simp only [Act.put, List.setIfInBounds_toArray, List.set_cons_zero, List.set_cons_succ])) | ((with_reducible show QGoal _ _ _ _ ({ dst := _, op := Op.call { callee := Callee.value (Operand.func 15), args := _, argTypes := _ }, type := _, pos := _, after := _, guard := _ } :: _) _); apply wpq_call (hc := HAC.out); (focus rfl); (focus (intro W hW; go_simp; (first | done | with_reducible rfl))); (try simp only [Act.put, List.setIfInBounds_toArray, List.set_cons_zero, List.set_cons_succ])) | ((with_reducible show QGoal _ _ _ _ ({ dst := _, op := Op.call { callee := Callee.value (Operand.func 6), args := _, argTypes := _ }, type := _, pos := _, after := _, guard := _ } :: _) _); apply wpq_call (hc := HRC.out); (focus rfl); (focus (intro W hW; go_simp; (first | done | with_reducible rfl))); (try simp only [Act.put, List.setIfInBounds_toArray, List.set_cons_zero, List.set_cons_succ])) | ((with_reducible show QGoal _ _ _ _ ({ dst := _, op := Op.call { callee := Callee.value (Operand.func 12), args := _, argTypes := _ }, type := _, pos := _, after := _, guard := _ } :: _) _); apply wpq_call (hc := HSM.out); (focus rfl); (focus (intro W hW; go_simp; (first | done | with_reducible rfl))); (try simp only [Act.put, List.setIfInBounds_toArray, List.set_cons_zero, List.set_cons_succ])) | (apply wpq_take; (focus rfl); (focus (intro W hW; obtain ⟨y0, y1, x0⟩ := KS.out W hW; go_simp; (first | done | with_reducible rfl))); (try simp only [Act.put, List.setIfInBounds_toArray, List.set_cons_zero, List.set_cons_succ])))
      refine wpq_nil ?_
      intro w7 e7
      have F0 := Lib.hid (E5.out.trans e7)
      clear e7 KS HAC HRC HSM HAC0 HRC0 qe
      have HCH2 := Lib.hid (HCH.out w7 F0.out)
      clear HCH
      go_wp2_with fail
      refine HCH2.out.mono ?_
      rintro e wa (⟨hz, rfl, ea⟩ | ⟨hz, A6, c6, rfl, o6, ea⟩)
      · have F0 := Lib.hid (F0.out.trans ea)
        have q1 : (wErr 1 0 0 [] bs.length != 0) = true := by simpa using hz
        clear hz ea HCH2 HAM HRM HML
        generalize wErr 1 0 0 [] bs.length = z at *
        go_wp2_with (first | ((with_reducible show wpList _ _ _ ({ dst := some 10, op := Op.alloc 31, type := _, pos := _, after := _, guard := _ } :: _) _ _); refine alA _ rfl 31 rfl _ _ zero_fr ?_; intro g10 v1 hg hs1 k3 e3; have Y1 := Lib.hid k3; have HE1 := Lib.hid e3; have F1 := Lib.hid (F0.out.trans e3); have K10 := Lib.hid (Nat.le_trans F0.out.size (Nat.le_of_eq hg)); clear hg hs1 k3 e3) | ((with_reducible show wpList _ _ _ ({ dst := none, op := Op.store 31 (.tmp 10) _, type := _, pos := _, after := _, guard := _ } :: _) _ _); refine stA _ rfl 31 31 _ _ rfl g10 _ (frV 0 0 0 ByteArray.empty (.slice none 0 0)) rfl rfl Y1.out size_fr rfl (fr_one _ _ _ _ _ _ _) ?_; intro v2 hs k4 q4; have F2 := Lib.hid (show Ext w v2 from F1.out.grown q4 (fun k hk => by injection hk with hk; have := K10.out; omega)); have Y2 := Lib.hid k4; have HQ2 := Lib.hid q4; clear hs k4 q4) | ((with_reducible show wpList _ _ _ ({ dst := some 12, op := Op.alloc 31, type := _, pos := _, after := _, guard := _ } :: _) _ _); refine alA _ rfl 31 rfl _ _ zero_fr ?_; intro g12 v3 hg hs1 k3 e3; have Z3 := Lib.hid k3; have F3 := Lib.hid (F2.out.trans e3); have K12 := Lib.hid (Nat.le_trans F2.out.size (Nat.le_of_eq hg)); have Y3 := Lib.hid (Y2.out.ext e3); have N12 : Hid (g10 ≠ g12) := (fun e => by have := Y2.out.lt; omega); have HE3 := Lib.hid e3; clear hg hs1 k3 e3) | ((with_reducible show wpList _ _ _ ({ dst := none, op := Op.store 31 (.tmp 12) _, type := _, pos := _, after := _, guard := _ } :: _) _ _); refine stA _ rfl 31 31 _ _ rfl g12 _ (frV 1 0 0 ByteArray.empty (.slice B bs.length d)) rfl rfl Z3.out size_fr rfl (fr_one _ _ _ _ _ _ _) ?_; intro v4 hs k4 q4; have F4 := Lib.hid (show Ext w v4 from F3.out.grown q4 (fun k hk => by injection hk with hk; have := K12.out; omega)); have Z4 := Lib.hid k4; have Y4 := Lib.hid (Y3.out.grown q4 (fun e => N12.out (by injection e))); have HQ4 := Lib.hid q4; obtain ⟨z0, z1, z2, z3, z4⟩ := fr_cells k4; obtain ⟨y0, y1, y2, y3, y4⟩ := fr_cells Y4.out; clear hs k4 q4) | (go_at_call 17; refine (HWC.out _).mono ?_; rintro e v5 ⟨rfl, e5⟩; have F5 := Lib.hid (F4.out.trans e5); have Y5 := Lib.hid (Y4.out.ext e5); clear e5 y0 y1 y2 y3 y4 z0 z1 z2 z3 z4; obtain ⟨y0, y1, y2, y3, y4⟩ := fr_cells Y5.out) | (go_at_call 18; refine (fsame_eq 0 0 0 ByteArray.empty none none 0 0 [] _ RdB.nil RdB.nil (by simp)).mono ?_; rintro e v6 ⟨rfl, e6⟩; have F6 := Lib.hid (F5.out.trans e6); clear e6) | (go_at_call 7; refine (HAWK.out _ F6.out).mono ?_; rintro e v7 ⟨rfl, e7⟩; have F7 := Lib.hid (F6.out.trans e7); clear e7))
        go_ret
        exact ⟨rfl, F7.out⟩
      · have F0' := Lib.hid (F0.out.trans ea)
        have O6 := Lib.hid (o6.lower (show w.heap.size ≤ w7.heap.size from F0.out.size))
        clear F0
        have F0 := F0'
        rw [hz] at HWC
        clear hz ea o6 HCH2 F0'
        have HFS : Hid (∀ W, RdB W A6 bs → Ext w W → Calls Tryd.prog 18 #[.agg (frV 1 0 0 ByteArray.empty (.slice A6 bs.length c6)), .agg (frV 1 0 0 ByteArray.empty (.slice B bs.length d))] W (RetV W (.bool true))) := fun W h e => fsame_eq 1 0 0 ByteArray.empty A6 B c6 d bs W h (HN.out.ext e) (by have := HSB.out.2; omega)
        have HSS : Hid (∀ (W : World) (P Q : Option Addr) (p q : Nat), RdB W P (msgB bs s) → RdB W Q (msgB bs s) → Calls Tryd.prog 12 #[.slice P (msgB bs s).length p, .slice Q (msgB bs s).length q] W (RetV W (.bool true))) := fun W P Q p q h1 h2 => by
          have h := sameE P Q p q _ _ W h1 h2 (by have := HML.out; omega) (by have := HML.out; omega)
          rw [decide_eq_true rfl] at h
          exact h
        clear HML HN HSB
        generalize msgB bs s = M at *
        go_wp2_with (first
          | ((with_reducible show wpList _ _ _ ({ dst := some 10, op := Op.alloc 31, type := _, pos := _, after := _, guard := _ } :: _) _ _); refine alA _ rfl 31 rfl _ _ zero_fr ?_; intro g10 v1 hg hs1 k3 e3; have Y1 := Lib.hid k3; have HE1 := Lib.hid e3; have F1 := Lib.hid (F0.out.trans e3); have K10 := Lib.hid (Nat.le_trans F0.out.size (Nat.le_of_eq hg)); clear hg hs1 k3 e3) | ((with_reducible show wpList _ _ _ ({ dst := none, op := Op.store 31 (.tmp 10) _, type := _, pos := _, after := _, guard := _ } :: _) _ _); refine stA _ rfl 31 31 _ _ rfl g10 _ (frV 1 0 0 ByteArray.empty (.slice A6 bs.length c6)) rfl rfl Y1.out size_fr rfl (fr_one _ _ _ _ _ _ _) ?_; intro v2 hs k4 q4; have F2 := Lib.hid (show Ext w v2 from F1.out.grown q4 (fun k hk => by injection hk with hk; have := K10.out; omega)); have Y2 := Lib.hid k4; have HQ2 := Lib.hid q4; clear hs k4 q4) | ((with_reducible show wpList _ _ _ ({ dst := some 12, op := Op.alloc 31, type := _, pos := _, after := _, guard := _ } :: _) _ _); refine alA _ rfl 31 rfl _ _ zero_fr ?_; intro g12 v3 hg hs1 k3 e3; have Z3 := Lib.hid k3; have F3 := Lib.hid (F2.out.trans e3); have K12 := Lib.hid (Nat.le_trans F2.out.size (Nat.le_of_eq hg)); have Y3 := Lib.hid (Y2.out.ext e3); have N12 : Hid (g10 ≠ g12) := (fun e => by have := Y2.out.lt; omega); have HE3 := Lib.hid e3; clear hg hs1 k3 e3) | ((with_reducible show wpList _ _ _ ({ dst := none, op := Op.store 31 (.tmp 12) _, type := _, pos := _, after := _, guard := _ } :: _) _ _); refine stA _ rfl 31 31 _ _ rfl g12 _ (frV 1 0 0 ByteArray.empty (.slice B bs.length d)) rfl rfl Z3.out size_fr rfl (fr_one _ _ _ _ _ _ _) ?_; intro v4 hs k4 q4; have F4 := Lib.hid (show Ext w v4 from F3.out.grown q4 (fun k hk => by injection hk with hk; have := K12.out; omega)); have Z4 := Lib.hid k4; have Y4 := Lib.hid (Y3.out.grown q4 (fun e => N12.out (by injection e))); have HQ4 := Lib.hid q4; obtain ⟨z0, z1, z2, z3, z4⟩ := fr_cells k4; obtain ⟨y0, y1, y2, y3, y4⟩ := fr_cells Y4.out; clear hs k4 q4)
          | (go_at_call 17; refine (HWC.out _).mono ?_; rintro e v5 ⟨rfl, e5⟩; have F5 := Lib.hid (F4.out.trans e5); have Y5 := Lib.hid (Y4.out.ext e5); have Z5 := Lib.hid (Z4.out.ext e5); have O5 := Lib.hid (OwnB.rd ((((O6.out.ext (show Ext wa v1 from HE1.out)).keep HQ2.out (.inr (ownB_ne_arr (O6.out.ext HE1.out) Y1.out (by decide)))).ext HE3.out).keep HQ4.out (.inr (ownB_ne_arr (((O6.out.ext HE1.out).keep HQ2.out (.inr (ownB_ne_arr (O6.out.ext HE1.out) Y1.out (by decide)))).ext HE3.out) Z3.out (by decide)))) |>.ext e5); clear e5 y0 y1 y2 y3 y4 z0 z1 z2 z3 z4; obtain ⟨y0, y1, y2, y3, y4⟩ := fr_cells Y5.out; obtain ⟨z0, z1, z2, z3, z4⟩ := fr_cells Z5.out)
          | (go_at_call 18; refine (HFS.out _ O5.out F5.out).mono ?_; rintro e v6 ⟨rfl, e6⟩; have F6 := Lib.hid (F5.out.trans e6); clear e6 y0 y1 y2 y3 y4 z0 z1 z2 z3 z4)
          | (go_at_call 19; refine (HAM.out _ F6.out).mono ?_; rintro e v7 ⟨A7, c7, rfl, o7, e7⟩; have F7 := Lib.hid (F6.out.trans e7); have R7 := Lib.hid o7.rd; clear o7 e7)
          | (go_at_call 11; refine (HRM.out _ F7.out).mono ?_; rintro e v8 ⟨A8, c8, rfl, o8, e8⟩; have F8 := Lib.hid (F7.out.trans e8); have R8 := Lib.hid o8.rd; have R78 := Lib.hid (R7.out.ext e8); clear o8 e8)
          | (go_at_call 12; have hz := HSS.out _ A7 A8 c7 c8 R78.out R8.out; refine hz.mono ?_; rintro e v9 ⟨rfl, e9⟩; have F9 := Lib.hid (F8.out.trans e9); clear hz e9)
          | (go_at_call 7; refine (HAWK.out _ F9.out).mono ?_; rintro e va ⟨rfl, e10⟩; have FA := Lib.hid (F9.out.trans e10); clear e10))
        go_ret
        exact ⟨rfl, FA.out⟩
    · have E3 := Lib.hid e3
      have O3 := Lib.hid o3
      rw [hi] at HRF
      have k3 : (k : Int) < (ls.length : Int) := by omega
      have k4 : (0 : Int) ≤ (k : Int) := by omega
      have HXC : Hid (∃ ad, A = some ad ∧ ∀ W, Ext w W → W.cell? ⟨(ad.add (k * 2)).block, (ad.add (k * 2)).off + 1, none⟩ = some (.slice ls[k].A ls[k].d.length ls[k].c)) := by
        obtain ⟨ad, ha, _⟩ := RdE.te HB.out hlt
        refine ⟨ad, ha, fun W hW => ?_⟩
        obtain ⟨ad', ha', h⟩ := RdE.te (RdE.ext HB.out hW) hlt
        rw [ha] at ha'; cases ha'; exact h.2
      have HTD : Hid (RdB w ls[k].A ls[k].d ∧ ls[k].d.length ≤ 100) := ⟨(HO.out _ (List.getElem_mem hlt)).1.1, (HSZ.out.2 _ (List.getElem_mem hlt)).2⟩
      have qe : (ls[k].n.toList == s.toList) = true := hp
      obtain ⟨ad, rfl, hx⟩ := HXC.out
      have HX := Lib.hid hx
      clear e3 o3 hi hp hx HXC
      generalize ls[k] = t at *
      obtain ⟨tn, tA, tc, td⟩ := t
      dsimp only at HX HTD qe
      go_wp2_with (first | ((with_reducible show wpList _ _ _ ({ dst := some 7, op := Op.alloc 24, type := _, pos := _, after := _, guard := _ } :: _) _ _); refine alA _ rfl 24 rfl _ _ zero_te ?_; intro g7 w4 hg hs1 k3 e3; have X4 := Lib.hid k3; have E4 := Lib.hid (E3.out.trans e3); have G7 := Lib.hid (Nat.le_trans E3.out.size (Nat.le_of_eq hg)); have O4 := Lib.hid (O3.out.ext e3); clear hg hs1 k3 e3) | ((with_reducible show wpList _ _ _ ({ dst := none, op := Op.store 24 _ _, type := _, pos := _, after := _, guard := _ } :: _) _ _); refine stA _ rfl 24 24 _ _ rfl g7 _ (teV (⟨tn, A3, c3, td⟩)) rfl rfl X4.out size_te rfl (teV_one _) ?_; intro w5 hs k4 q4; have E5 := Lib.hid (show Ext w w5 from E4.out.grown q4 (fun k hk => by injection hk with hk; have := G7.out; omega)); have X5 := Lib.hid k4; have O5 := Lib.hid (O4.out.keep q4 (.inr (ownB_ne_arr O4.out X4.out (by decide)))); clear hs k4 q4))
      refine (HRF.out _ E5.out).mono ?_
      rintro e w6 ⟨rfl, hw6⟩
      obtain rfl := hw6.symm
      clear HRF HFD
      have HAC : Hid (∀ W, Ext w5 W → _) := fun W e => HAC0.out W (E5.out.trans e)
      have HRC : Hid (∀ W, Ext w5 W → _) := fun W e => HRC0.out W (E5.out.trans e)
      have HSM : Hid (∀ W, Ext w5 W → Calls Tryd.prog 12 #[.slice A3 td.length c3, .slice tA td.length tc] W (RetV W (.bool true))) := fun W e => by
        have h := sameE A3 tA c3 tc td td W (O5.out.rd.ext e) (HTD.out.1.ext (E5.out.trans e)) (by have := HTD.out.2; omega) (by have := HTD.out.2; omega)
        rw [decide_eq_true rfl] at h
        exact h
      have KS : Hid (∀ W, Ext w5 W → W.cell? ⟨g7, 0, none⟩ = some (.string tn) ∧ W.cell? ⟨g7, 1, none⟩ = some (.slice A3 td.length c3) ∧ W.cell? ⟨(ad.add (k * 2)).block, (ad.add (k * 2)).off + 1, none⟩ = some (.slice tA td.length tc)) := fun W e => ⟨(X5.out.ext e).cell_some rfl, (X5.out.ext e).cell_some rfl, HX.out W (E5.out.trans e)⟩
      go_wp2_with fail
      refine wp_region_quietE w5 (Ext.refl _) (by kernel_rfl) (by kernel_rfl) ?_
      repeat (first | (apply wpq_skip; (focus rfl); (try simp only [Act.put, List.setIfInBounds_toArray, List.set_cons_zero, List.set_cons_succ])) | ((with_reducible show QGoal _ _ _ _ ({ dst := _, op := Op.call { callee := Callee.value (Operand.func 15), args := _, argTypes := _ }, type := _, pos := _, after := _, guard := _ } :: _) _); apply wpq_call (hc := HAC.out); (focus rfl); (focus (intro W hW; go_simp; (first | done | with_reducible rfl))); (try simp only [Act.put, List.setIfInBounds_toArray, List.set_cons_zero, List.set_cons_succ])) | ((with_reducible show QGoal _ _ _ _ ({ dst := _, op := Op.call { callee := Callee.value (Operand.func 6), args := _, argTypes := _ }, type := _, pos := _, after := _, guard := _ } :: _) _); apply wpq_call (hc := HRC.out); (focus rfl); (focus (intro W hW; go_simp; (first | done | with_reducible rfl))); (try simp only [Act.put, List.setIfInBounds_toArray, List.set_cons_zero, List.set_cons_succ])) | ((with_reducible show QGoal _ _ _ _ ({ dst := _, op := Op.call { callee := Callee.value (Operand.func 12), args := _, argTypes := _ }, type := _, pos := _, after := _, guard := _ } :: _) _); apply wpq_call (hc := HSM.out); (focus rfl); (focus (intro W hW; go_simp; (first | done | with_reducible rfl))); (try simp only [Act.put, List.setIfInBounds_toArray, List.set_cons_zero, List.set_cons_succ])) | (apply wpq_take; (focus rfl); (focus (intro W hW; obtain ⟨y0, y1, x0⟩ := KS.out W hW; go_simp; (first | done | with_reducible rfl))); (try simp only [Act.put, List.setIfInBounds_toArray, List.set_cons_zero, List.set_cons_succ])))
      refine wpq_nil ?_
      intro w7 e7
      have F0 := Lib.hid (E5.out.trans e7)
      clear e7 KS HAC HRC HSM HAC0 HRC0 qe k3 k4 HX HTD
      have HCH2 := Lib.hid (HCH.out w7 F0.out)
      clear HCH
      go_wp2_with fail
      refine HCH2.out.mono ?_
      rintro e wa (⟨hz, rfl, ea⟩ | ⟨hz, A6, c6, rfl, o6, ea⟩)
      · have F0 := Lib.hid (F0.out.trans ea)
        have q1 : (wErr 1 0 0 [] bs.length != 0) = true := by simpa using hz
        clear hz ea HCH2 HAM HRM HML
        generalize wErr 1 0 0 [] bs.length = z at *
        go_wp2_with (first | ((with_reducible show wpList _ _ _ ({ dst := some 10, op := Op.alloc 31, type := _, pos := _, after := _, guard := _ } :: _) _ _); refine alA _ rfl 31 rfl _ _ zero_fr ?_; intro g10 v1 hg hs1 k3 e3; have Y1 := Lib.hid k3; have HE1 := Lib.hid e3; have F1 := Lib.hid (F0.out.trans e3); have K10 := Lib.hid (Nat.le_trans F0.out.size (Nat.le_of_eq hg)); clear hg hs1 k3 e3) | ((with_reducible show wpList _ _ _ ({ dst := none, op := Op.store 31 (.tmp 10) _, type := _, pos := _, after := _, guard := _ } :: _) _ _); refine stA _ rfl 31 31 _ _ rfl g10 _ (frV 0 0 0 ByteArray.empty (.slice none 0 0)) rfl rfl Y1.out size_fr rfl (fr_one _ _ _ _ _ _ _) ?_; intro v2 hs k4 q4; have F2 := Lib.hid (show Ext w v2 from F1.out.grown q4 (fun k hk => by injection hk with hk; have := K10.out; omega)); have Y2 := Lib.hid k4; have HQ2 := Lib.hid q4; clear hs k4 q4) | ((with_reducible show wpList _ _ _ ({ dst := some 12, op := Op.alloc 31, type := _, pos := _, after := _, guard := _ } :: _) _ _); refine alA _ rfl 31 rfl _ _ zero_fr ?_; intro g12 v3 hg hs1 k3 e3; have Z3 := Lib.hid k3; have F3 := Lib.hid (F2.out.trans e3); have K12 := Lib.hid (Nat.le_trans F2.out.size (Nat.le_of_eq hg)); have Y3 := Lib.hid (Y2.out.ext e3); have N12 : Hid (g10 ≠ g12) := (fun e => by have := Y2.out.lt; omega); have HE3 := Lib.hid e3; clear hg hs1 k3 e3) | ((with_reducible show wpList _ _ _ ({ dst := none, op := Op.store 31 (.tmp 12) _, type := _, pos := _, after := _, guard := _ } :: _) _ _); refine stA _ rfl 31 31 _ _ rfl g12 _ (frV 1 0 0 ByteArray.empty (.slice B bs.length d)) rfl rfl Z3.out size_fr rfl (fr_one _ _ _ _ _ _ _) ?_; intro v4 hs k4 q4; have F4 := Lib.hid (show Ext w v4 from F3.out.grown q4 (fun k hk => by injection hk with hk; have := K12.out; omega)); have Z4 := Lib.hid k4; have Y4 := Lib.hid (Y3.out.grown q4 (fun e => N12.out (by injection e))); have HQ4 := Lib.hid q4; obtain ⟨z0, z1, z2, z3, z4⟩ := fr_cells k4; obtain ⟨y0, y1, y2, y3, y4⟩ := fr_cells Y4.out; clear hs k4 q4) | (go_at_call 17; refine (HWC.out _).mono ?_; rintro e v5 ⟨rfl, e5⟩; have F5 := Lib.hid (F4.out.trans e5); have Y5 := Lib.hid (Y4.out.ext e5); clear e5 y0 y1 y2 y3 y4 z0 z1 z2 z3 z4; obtain ⟨y0, y1, y2, y3, y4⟩ := fr_cells Y5.out) | (go_at_call 18; refine (fsame_eq 0 0 0 ByteArray.empty none none 0 0 [] _ RdB.nil RdB.nil (by simp)).mono ?_; rintro e v6 ⟨rfl, e6⟩; have F6 := Lib.hid (F5.out.trans e6); clear e6) | (go_at_call 7; refine (HAWK.out _ F6.out).mono ?_; rintro e v7 ⟨rfl, e7⟩; have F7 := Lib.hid (F6.out.trans e7); clear e7))
        go_ret
        exact ⟨rfl, F7.out⟩
      · have F0' := Lib.hid (F0.out.trans ea)
        have O6 := Lib.hid (o6.lower (show w.heap.size ≤ w7.heap.size from F0.out.size))
        clear F0
        have F0 := F0'
        rw [hz] at HWC
        clear hz ea o6 HCH2 F0'
        have HFS : Hid (∀ W, RdB W A6 bs → Ext w W → Calls Tryd.prog 18 #[.agg (frV 1 0 0 ByteArray.empty (.slice A6 bs.length c6)), .agg (frV 1 0 0 ByteArray.empty (.slice B bs.length d))] W (RetV W (.bool true))) := fun W h e => fsame_eq 1 0 0 ByteArray.empty A6 B c6 d bs W h (HN.out.ext e) (by have := HSB.out.2; omega)
        have HSS : Hid (∀ (W : World) (P Q : Option Addr) (p q : Nat), RdB W P (msgB bs s) → RdB W Q (msgB bs s) → Calls Tryd.prog 12 #[.slice P (msgB bs s).length p, .slice Q (msgB bs s).length q] W (RetV W (.bool true))) := fun W P Q p q h1 h2 => by
          have h := sameE P Q p q _ _ W h1 h2 (by have := HML.out; omega) (by have := HML.out; omega)
          rw [decide_eq_true rfl] at h
          exact h
        clear HML HN HSB
        generalize msgB bs s = M at *
        go_wp2_with (first
          | ((with_reducible show wpList _ _ _ ({ dst := some 10, op := Op.alloc 31, type := _, pos := _, after := _, guard := _ } :: _) _ _); refine alA _ rfl 31 rfl _ _ zero_fr ?_; intro g10 v1 hg hs1 k3 e3; have Y1 := Lib.hid k3; have HE1 := Lib.hid e3; have F1 := Lib.hid (F0.out.trans e3); have K10 := Lib.hid (Nat.le_trans F0.out.size (Nat.le_of_eq hg)); clear hg hs1 k3 e3) | ((with_reducible show wpList _ _ _ ({ dst := none, op := Op.store 31 (.tmp 10) _, type := _, pos := _, after := _, guard := _ } :: _) _ _); refine stA _ rfl 31 31 _ _ rfl g10 _ (frV 1 0 0 ByteArray.empty (.slice A6 bs.length c6)) rfl rfl Y1.out size_fr rfl (fr_one _ _ _ _ _ _ _) ?_; intro v2 hs k4 q4; have F2 := Lib.hid (show Ext w v2 from F1.out.grown q4 (fun k hk => by injection hk with hk; have := K10.out; omega)); have Y2 := Lib.hid k4; have HQ2 := Lib.hid q4; clear hs k4 q4) | ((with_reducible show wpList _ _ _ ({ dst := some 12, op := Op.alloc 31, type := _, pos := _, after := _, guard := _ } :: _) _ _); refine alA _ rfl 31 rfl _ _ zero_fr ?_; intro g12 v3 hg hs1 k3 e3; have Z3 := Lib.hid k3; have F3 := Lib.hid (F2.out.trans e3); have K12 := Lib.hid (Nat.le_trans F2.out.size (Nat.le_of_eq hg)); have Y3 := Lib.hid (Y2.out.ext e3); have N12 : Hid (g10 ≠ g12) := (fun e => by have := Y2.out.lt; omega); have HE3 := Lib.hid e3; clear hg hs1 k3 e3) | ((with_reducible show wpList _ _ _ ({ dst := none, op := Op.store 31 (.tmp 12) _, type := _, pos := _, after := _, guard := _ } :: _) _ _); refine stA _ rfl 31 31 _ _ rfl g12 _ (frV 1 0 0 ByteArray.empty (.slice B bs.length d)) rfl rfl Z3.out size_fr rfl (fr_one _ _ _ _ _ _ _) ?_; intro v4 hs k4 q4; have F4 := Lib.hid (show Ext w v4 from F3.out.grown q4 (fun k hk => by injection hk with hk; have := K12.out; omega)); have Z4 := Lib.hid k4; have Y4 := Lib.hid (Y3.out.grown q4 (fun e => N12.out (by injection e))); have HQ4 := Lib.hid q4; obtain ⟨z0, z1, z2, z3, z4⟩ := fr_cells k4; obtain ⟨y0, y1, y2, y3, y4⟩ := fr_cells Y4.out; clear hs k4 q4)
          | (go_at_call 17; refine (HWC.out _).mono ?_; rintro e v5 ⟨rfl, e5⟩; have F5 := Lib.hid (F4.out.trans e5); have Y5 := Lib.hid (Y4.out.ext e5); have Z5 := Lib.hid (Z4.out.ext e5); have O5 := Lib.hid (OwnB.rd ((((O6.out.ext (show Ext wa v1 from HE1.out)).keep HQ2.out (.inr (ownB_ne_arr (O6.out.ext HE1.out) Y1.out (by decide)))).ext HE3.out).keep HQ4.out (.inr (ownB_ne_arr (((O6.out.ext HE1.out).keep HQ2.out (.inr (ownB_ne_arr (O6.out.ext HE1.out) Y1.out (by decide)))).ext HE3.out) Z3.out (by decide)))) |>.ext e5); clear e5 y0 y1 y2 y3 y4 z0 z1 z2 z3 z4; obtain ⟨y0, y1, y2, y3, y4⟩ := fr_cells Y5.out; obtain ⟨z0, z1, z2, z3, z4⟩ := fr_cells Z5.out)
          | (go_at_call 18; refine (HFS.out _ O5.out F5.out).mono ?_; rintro e v6 ⟨rfl, e6⟩; have F6 := Lib.hid (F5.out.trans e6); clear e6 y0 y1 y2 y3 y4 z0 z1 z2 z3 z4)
          | (go_at_call 19; refine (HAM.out _ F6.out).mono ?_; rintro e v7 ⟨A7, c7, rfl, o7, e7⟩; have F7 := Lib.hid (F6.out.trans e7); have R7 := Lib.hid o7.rd; clear o7 e7)
          | (go_at_call 11; refine (HRM.out _ F7.out).mono ?_; rintro e v8 ⟨A8, c8, rfl, o8, e8⟩; have F8 := Lib.hid (F7.out.trans e8); have R8 := Lib.hid o8.rd; have R78 := Lib.hid (R7.out.ext e8); clear o8 e8)
          | (go_at_call 12; have hz := HSS.out _ A7 A8 c7 c8 R78.out R8.out; refine hz.mono ?_; rintro e v9 ⟨rfl, e9⟩; have F9 := Lib.hid (F8.out.trans e9); clear hz e9)
          | (go_at_call 7; refine (HAWK.out _ F9.out).mono ?_; rintro e va ⟨rfl, e10⟩; have FA := Lib.hid (F9.out.trans e10); clear e10))
        go_ret
        exact ⟨rfl, FA.out⟩
end Go.Proofs.YtlgngnkaiidbeaaDoor
