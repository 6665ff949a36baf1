/- ref28: Give, Same; law28.awake. -/
import Derived.Test.YtlgngnkaiidbeaaTargE
import Derived.Test.YtlgngnkaiidbeaaRef01
import Derived.Lib.SlBytesConst
import Derived.Deep.RegionHeld3
set_option maxRecDepth 100000
set_option linter.unusedVariables false
set_option linter.unusedSimpArgs false
namespace Go.Proofs.Ytlgngnkaiidbeaa
open Go.RowKit

/-- pages that may be: each one's bytes in memory -/
def PgOk (w : World) (base : Nat) (xs : List Pg) : Prop := ∀ p ∈ xs, OwnB w base p.A p.c p.d
set_option maxHeartbeats 8000000 in
theorem rgive_calls (base : Nat) (A : Option Addr) (c j : Nat) (xs : List Pg) (a b : Int) (B : Option Addr) (bc : Nat) (bs : List UInt8) (w : World) (h : Pgs w base A c xs) (hf : fN (xs.map (·.k)) (a, b) 0 = some j) (hl : xs.length ≤ 1000) (hd : ∀ p ∈ xs, p.d.length ≤ 1000000) (hb : RdB w B bs) (hbl : bs.length ≤ 1000000) (hbase : base ≤ w.heap.size) :
    Calls Try.prog 17 #[.slice A xs.length c, .int .i64 a, .int .i64 b, .slice B bs.length bc] w fun e w' => ∃ A' c', ∃ ys : List Pg, e = .returned (.slice A' ys.length c') ∧ ys.map Pg.pl = giveX (xs.map Pg.pl) j bs ∧ OwnV w' w.heap.size 29 4 A' ys.length c' (ys.flatMap Pg.cs) ∧ (∀ p ∈ ys, OwnB w' base p.A p.c p.d ∧ ((∃ q ∈ xs, p.A = q.A) ∨ OwnB w' w.heap.size p.A p.c p.d)) ∧ Ext w w' := by
  have HX := Lib.hid h
  have HD := Lib.hid hd
  have HB := Lib.hid hb
  have HBS := Lib.hid hbase
  have HFD := Lib.hid (rfindP_calls A c xs a b w h.rd (by omega))
  rw [atZ_some hf] at HFD
  clear h hd hb hbase hf
  go_enter Try.func17, Try.ntmps17
  go_wp2_with fail
  refine (HFD.out).mono ?_
  rintro e w' ⟨rfl, rfl⟩
  go_wp2_with fail
  go_loopw [9, 11] (fun l i wr => ∃ A' c', ∃ ys : List Pg, ys.length ≤ xs.length ∧ l = .slice A' ys.length c' ∧ i = .int .i64 (ys.length : Int) ∧ ys.map Pg.pl = (giveX (xs.map Pg.pl) j bs).take ys.length ∧ OwnV wr w.heap.size 29 4 A' ys.length c' (ys.flatMap Pg.cs) ∧ (∀ p ∈ ys, OwnB wr base p.A p.c p.d ∧ ((∃ q ∈ xs, p.A = q.A) ∨ OwnB wr w.heap.size p.A p.c p.d)) ∧ Ext w wr) (fun _ i _ => xs.length - (intOf i).toNat)
  case atStart => exact ⟨none, 0, [], by simp, rfl, rfl, by simp, OwnV.nil _ _ _ _, by simp, Ext.refl _⟩
  case round =>
    obtain ⟨A', c', ys, hk, rfl, rfl, hy, ho, hp, he⟩ := hrel
    have HY := Lib.hid hy
    have HO : Hid (OwnV wr w.heap.size 29 4 A' ys.length c' (ys.flatMap Pg.cs)) := ho
    have HPP := Lib.hid hp
    have HE := Lib.hid he
    clear hy ho hp he
    by_cases hlt : ys.length < xs.length
    · have k1 : (ys.length : Int) < (xs.length : Int) := by omega
      have HT := Lib.hid (giveX_take (X := xs.map Pg.pl) (j := j) (d := bs) (show ys.length < (xs.map Pg.pl).length by simpa using hlt))
      rw [show (xs.map Pg.pl)[ys.length]'(by simpa using hlt) = xs[ys.length].pl by simp] at HT
      have HP : Hid (xs[ys.length] ∈ xs ∧ OwnB w base xs[ys.length].A xs[ys.length].c xs[ys.length].d ∧ xs[ys.length].d.length ≤ 1000000) := ⟨List.getElem_mem hlt, HX.out.pg _ (List.getElem_mem hlt), HD.out _ (List.getElem_mem hlt)⟩
      obtain ⟨ad, rfl, x0, x1, x2, x3⟩ := (HX.out.ext HE.out).rd.four hlt
      generalize xs[ys.length] = p at *
      obtain ⟨pk, pt, pA, pc, pd⟩ := p
      dsimp only at x0 x1 x2 x3 HP HT
      have HRD : Hid (RdB w pA pd) := HP.out.2.1.rd
      have hpd : pd.length ≤ 1000000 := HP.out.2.2
      have e0 := Lib.hid HE.out
      by_cases hij : ys.length = j
      · have e1 : ((ys.length : Int) == (j : Int)) = true := by simp [hij]
        rw [if_pos hij] at HT
        obtain ⟨zs, hzs⟩ : ∃ zs, pd ++ bs = zs := ⟨_, rfl⟩
        have HZS := Lib.hid hzs
        clear hzs hij
        go_wp2_with (first
          | ((with_reducible show wpList _ _ _ ({ dst := some 12, op := Op.alloc 29, type := _, pos := _, after := _, guard := _ } :: _) _ _); refine alA _ rfl 29 rfl _ _ zero_giv ?_; intro g5 w5 hg hs1 k3 e3; have X5 := Lib.hid k3; have T5 := Lib.hid e3; have G5 := Lib.hid (Nat.le_of_eq hg); clear hg hs1 k3 e3) | ((with_reducible show wpList _ _ _ ({ dst := none, op := Op.store 29 _ _, type := _, pos := _, after := _, guard := _ } :: _) _ _); refine stA _ rfl 29 29 _ _ rfl g5 _ (pgA ⟨pk, pt, pA, pc, pd⟩) rfl rfl X5.out size_giv rfl (pgA_one _) ?_; intro w6 hs k4 g4; have T6 := Lib.hid (show Ext wr w6 from T5.out.grown g4 (fun kk hk => by injection hk with hk; have := G5.out; omega)); have X6 := Lib.hid k4; obtain ⟨y0, y1, y2, y3⟩ := pg_cells k4; clear hs k4 g4; have y3a : (w6.alloc (.cells #[] 5)).cell? ⟨g5, 3, none⟩ = some (.slice pA pd.length pc) := (X6.out.ext ((Ext.refl _).alloc _)).cell_some rfl)
          | ((with_reducible show wpList _ _ _ ({ dst := some 33, op := Op.call { callee := Callee.builtin Builtin.append, args := _, argTypes := _ }, type := _, pos := _, after := _, guard := _ } :: _) _ _); refine cpyE _ rfl (.tmp 30) (.tmp 32) rfl rfl pA pc pd rfl ?_ (HRD.out.ext (HE.out.trans T6.out)) (by omega); intro A7 c7 w7 h7 e7; have O7 := Lib.hid h7; have T7 := Lib.hid e7; clear h7 e7)
          | ((with_reducible show wpList _ _ _ ({ dst := some 35, op := Op.call { callee := Callee.builtin Builtin.append, args := _, argTypes := _ }, type := _, pos := _, after := _, guard := _ } :: _) _ _); refine appB _ rfl (.tmp 33) (.tmp 34) rfl w6.heap.size A7 c7 pd rfl B bc bs rfl ?_ O7.out (HB.out.ext ((HE.out.trans T6.out).trans T7.out)) (by omega) T7.out.size; intro A8 c8 w8 h8 g8 b8; rw [HZS.out] at h8; rw [HZS.out]; have O8 := Lib.hid h8; have T8 : Hid (Ext w6 w8) := T7.out.grown g8 (fun k hk => (O7.out.base_ k hk).1); have X8 := Lib.hid (X6.out.ext T8.out); clear h8 g8 b8 y0 y1 y2 y3; obtain ⟨y0, y1, y2, y3⟩ := pg_cells X8.out)
          | ((with_reducible show wpList _ _ _ ({ dst := none, op := Op.store 27 _ _, type := _, pos := _, after := _, guard := _ } :: _) _ _); refine stF _ rfl 27 _ _ rfl g5 3 (.slice A8 zs.length c8) 29 _ rfl rfl X8.out (Nat.lt_succ_self _) size_byt rfl ?_; intro wf hs2 k2 q2; have TF : Hid (Ext wr wf) := (T6.out.trans T8.out).grown q2 (fun k hk => by injection hk with hk; have := G5.out; omega); have XF := Lib.hid (show Arr wf g5 29 (pgA ⟨pk, pt, A8, c8, zs⟩) from k2); have OF := Lib.hid (O8.out.keep q2 (.inr (ownB_arr O8.out X8.out (by decide)))); clear hs2 k2 q2 y0 y1 y2 y3; obtain ⟨y0, y1, y2, y3⟩ := pg_cells XF.out)
          | ((with_reducible show wpList _ _ _ ({ dst := some 40, op := Op.call { callee := Callee.builtin Builtin.append, args := _, argTypes := _ }, type := _, pos := _, after := _, guard := _ } :: _) _ _); refine appN _ rfl (.tmp 37) (.tmp 39) 22 rfl 29 (.agg #[.int .i64 0, .int .i64 0, .string ByteArray.empty, .slice none 0 0]) 4 56 Try.underlying22 info_giv rfl (by decide) w.heap.size A' ys.length c' (ys.flatMap Pg.cs) rfl (some ⟨wf.heap.size, 0, none⟩) 1 1 (Pg.cs (⟨pk, pt, A8, c8, zs⟩)) rfl (ys.length + 1) (ys.flatMap Pg.cs ++ Pg.cs (⟨pk, pt, A8, c8, zs⟩)) ?_ rfl rfl ((HO.out.ext TF.out).ext ((Ext.refl _).alloc _)) rfl (Arr.new _ _ _).rd (pg_one _) (by omega) (by omega) (by have := (HE.out.trans TF.out).size; simp; omega); intro A9 c9 w9 h9 g9 b9; have O9 := Lib.hid h9; have G9 := Lib.hid g9; clear h9 g9 b9))
        have EA := (Ext.refl wf).alloc (.cells #[.int .i64 pk.1, .int .i64 pk.2, .string pt, .slice A8 zs.length c8] 29)
        have T9 : Hid (Ext w w9) := ((HE.out.trans TF.out).alloc _).grown G9.out (fun k hk => (HO.out.base_ k hk).1)
        have RW := (HO.out.ext TF.out).ext EA
        have hb6 : w.heap.size ≤ w6.heap.size := (HE.out.trans T6.out).size
        have P9 : Hid (∀ q ∈ ys ++ [(⟨pk, pt, A8, c8, zs⟩ : Pg)], OwnB w9 base q.A q.c q.d ∧ ((∃ q' ∈ xs, q.A = q'.A) ∨ OwnB w9 w.heap.size q.A q.c q.d)) := by
          intro q hq
          rcases mem_snoc hq with hq | rfl
          · obtain ⟨h1, h2⟩ := HPP.out q hq
            have k1 := (h1.ext TF.out).ext EA
            refine ⟨k1.keep G9.out (ownV_ownV k1 RW (by decide)), h2.imp id (fun h3 => ?_)⟩
            have k2 := (h3.ext TF.out).ext EA
            exact k2.keep G9.out (ownV_ownV k2 RW (by decide))
          · have k1 := OF.out.ext EA
            have k2 := k1.keep G9.out (ownV_ownV k1 RW (by decide))
            exact ⟨k2.lower (Nat.le_trans HBS.out hb6), .inr (k2.lower hb6)⟩
        clear EA RW
        go_roundw
        case rel => exact ⟨A9, c9, ys ++ [⟨pk, pt, A8, c8, zs⟩], by simp; omega, by simp, by simp, by rw [List.map_append, HY.out, List.length_append, ← HZS.out]; exact HT.out.symm, by rw [List.length_append, List.flatMap_append]; simpa using O9.out, P9.out, T9.out⟩
        case measure => simp [intOf]; omega
      · have e1 : ((ys.length : Int) == (j : Int)) = false := by simp; omega
        rw [if_neg hij] at HT
        go_wp2_with (first | ((with_reducible show wpList _ _ _ ({ dst := some 12, op := Op.alloc 29, type := _, pos := _, after := _, guard := _ } :: _) _ _); refine alA _ rfl 29 rfl _ _ zero_giv ?_; intro g5 w5 hg hs1 k3 e3; have X5 := Lib.hid k3; have T5 := Lib.hid e3; have G5 := Lib.hid (Nat.le_of_eq hg); clear hg hs1 k3 e3) | ((with_reducible show wpList _ _ _ ({ dst := none, op := Op.store 29 _ _, type := _, pos := _, after := _, guard := _ } :: _) _ _); refine stA _ rfl 29 29 _ _ rfl g5 _ (pgA ⟨pk, pt, pA, pc, pd⟩) rfl rfl X5.out size_giv rfl (pgA_one _) ?_; intro w6 hs k4 g4; have T6 := Lib.hid (show Ext wr w6 from T5.out.grown g4 (fun kk hk => by injection hk with hk; have := G5.out; omega)); have X6 := Lib.hid k4; obtain ⟨y0, y1, y2, y3⟩ := pg_cells k4; clear hs k4 g4) | ((with_reducible show wpList _ _ _ ({ dst := some 40, op := Op.call { callee := Callee.builtin Builtin.append, args := _, argTypes := _ }, type := _, pos := _, after := _, guard := _ } :: _) _ _); refine appN _ rfl (.tmp 37) (.tmp 39) 22 rfl 29 (.agg #[.int .i64 0, .int .i64 0, .string ByteArray.empty, .slice none 0 0]) 4 56 Try.underlying22 info_giv rfl (by decide) w.heap.size A' ys.length c' (ys.flatMap Pg.cs) rfl (some ⟨w6.heap.size, 0, none⟩) 1 1 (Pg.cs (⟨pk, pt, pA, pc, pd⟩)) rfl (ys.length + 1) (ys.flatMap Pg.cs ++ Pg.cs (⟨pk, pt, pA, pc, pd⟩)) ?_ rfl rfl ((HO.out.ext T6.out).ext ((Ext.refl _).alloc _)) rfl (Arr.new _ _ _).rd (pg_one _) (by omega) (by omega) (by have := (HE.out.trans T6.out).size; simp; omega); intro A9 c9 w9 h9 g9 b9; have O9 := Lib.hid h9; have G9 := Lib.hid g9; clear h9 g9 b9))
        have EA := (Ext.refl w6).alloc (.cells #[.int .i64 pk.1, .int .i64 pk.2, .string pt, .slice pA pd.length pc] 29)
        have T9 : Hid (Ext w w9) := ((HE.out.trans T6.out).alloc _).grown G9.out (fun k hk => (HO.out.base_ k hk).1)
        have RW := (HO.out.ext T6.out).ext EA
        have P9 : Hid (∀ q ∈ ys ++ [(⟨pk, pt, pA, pc, pd⟩ : Pg)], OwnB w9 base q.A q.c q.d ∧ ((∃ q' ∈ xs, q.A = q'.A) ∨ OwnB w9 w.heap.size q.A q.c q.d)) := by
          intro q hq
          rcases mem_snoc hq with hq | rfl
          · obtain ⟨h1, h2⟩ := HPP.out q hq
            have k1 := (h1.ext T6.out).ext EA
            refine ⟨k1.keep G9.out (ownV_ownV k1 RW (by decide)), h2.imp id (fun h3 => ?_)⟩
            have k2 := (h3.ext T6.out).ext EA
            exact k2.keep G9.out (ownV_ownV k2 RW (by decide))
          · have k1 := (HP.out.2.1.ext (HE.out.trans T6.out)).ext EA
            exact ⟨k1.keep G9.out (ownV_ownV k1 RW (by decide)), .inl ⟨_, HP.out.1, rfl⟩⟩
        clear EA RW
        go_roundw
        case rel => exact ⟨A9, c9, ys ++ [⟨pk, pt, pA, pc, pd⟩], by simp; omega, by simp, by simp, by rw [List.map_append, HY.out, List.length_append]; exact HT.out.symm, by rw [List.length_append, List.flatMap_append]; simpa using O9.out, P9.out, T9.out⟩
        case measure => simp [intOf]; omega
    · have k1 : ¬ (ys.length : Int) < (xs.length : Int) := by omega
      have HF : Hid (ys.map Pg.pl = giveX (xs.map Pg.pl) j bs) := by have := HY.out; rwa [List.take_of_length_le (by rw [giveX_len]; simp; omega)] at this
      go_wp2_with fail
      go_ret
      exact ⟨A', c', ys, rfl, HF.out, HO.out, HPP.out, HE.out⟩
theorem pl_at {xs ys : List Pg} (h : xs.map Pg.pl = ys.map Pg.pl) {k : Nat} (h1 : k < xs.length) (h2 : k < ys.length) : xs[k].pl = ys[k].pl := by
  have h3 : (xs.map Pg.pl)[k]? = (ys.map Pg.pl)[k]? := by rw [h]
  rw [List.getElem?_map, List.getElem?_map, List.getElem?_eq_getElem h1, List.getElem?_eq_getElem h2] at h3
  simpa using h3
theorem pl_len {xs ys : List Pg} (h : xs.map Pg.pl = ys.map Pg.pl) : xs.length = ys.length := by
  have := congrArg List.length h
  simpa using this
set_option maxHeartbeats 8000000 in
theorem rsameP_eq (A B : Option Addr) (c d : Nat) (xs ys : List Pg) (w : World) (hx : PgIn w A xs) (hy : PgIn w B ys) (hl : xs.length ≤ 1000) (hd : ∀ p ∈ xs, p.d.length ≤ 1000000) (he : xs.map Pg.pl = ys.map Pg.pl) :
    Calls Try.prog 19 #[.slice A xs.length c, .slice B ys.length d] w (RetV w (.bool true)) := by
  have HX := Lib.hid hx
  have HY := Lib.hid hy
  have HD := Lib.hid hd
  have HP := Lib.hid (fun k h1 h2 => pl_at he (k := k) h1 h2)
  have hlen := pl_len he
  rw [← hlen]
  have HLN := Lib.hid hlen
  clear hx hy hd he hlen
  go_enter Try.func19, Try.ntmps19
  go_wp2_with fail
  go_loopw [5] (fun i wr => ∃ k : Nat, k ≤ xs.length ∧ i = .int .i64 (k : Int) ∧ Ext w wr) (fun i _ => xs.length - (intOf i).toNat)
  case atStart => exact ⟨0, by omega, rfl, Ext.refl _⟩
  case round =>
    obtain ⟨k, hk, rfl, hE⟩ := hrel
    have E0 := Lib.hid hE
    clear hE
    by_cases hlt : k < xs.length
    · have k1 : (k : Int) < (xs.length : Int) := by omega
      have hlt2 : k < ys.length := by have := HLN.out; omega
      have HPK := Lib.hid (HP.out k hlt hlt2)
      have HXC : Hid (∃ ad, A = some ad ∧ ∀ W, Ext w W → W.cell? (ad.add (k * 4)) = some (.int .i64 xs[k].k.1) ∧ W.cell? ⟨(ad.add (k * 4)).block, (ad.add (k * 4)).off + 1, none⟩ = some (.int .i64 xs[k].k.2) ∧ W.cell? ⟨(ad.add (k * 4)).block, (ad.add (k * 4)).off + 2, none⟩ = some (.string xs[k].t) ∧ W.cell? ⟨(ad.add (k * 4)).block, (ad.add (k * 4)).off + 3, none⟩ = some (.slice xs[k].A xs[k].d.length xs[k].c)) := by
        obtain ⟨ad, ha, _⟩ := RdE.four HX.out.1 hlt
        refine ⟨ad, ha, fun W hW => ?_⟩
        obtain ⟨ad', ha', h⟩ := RdE.four (RdE.ext HX.out.1 hW) hlt
        rw [ha] at ha'; cases ha'; exact h
      have HYC : Hid (∃ ad, B = some ad ∧ ∀ W, Ext w W → W.cell? (ad.add (k * 4)) = some (.int .i64 ys[k].k.1) ∧ W.cell? ⟨(ad.add (k * 4)).block, (ad.add (k * 4)).off + 1, none⟩ = some (.int .i64 ys[k].k.2) ∧ W.cell? ⟨(ad.add (k * 4)).block, (ad.add (k * 4)).off + 2, none⟩ = some (.string ys[k].t) ∧ W.cell? ⟨(ad.add (k * 4)).block, (ad.add (k * 4)).off + 3, none⟩ = some (.slice ys[k].A ys[k].d.length ys[k].c)) := by
        obtain ⟨ad, ha, _⟩ := RdE.four HY.out.1 hlt2
        refine ⟨ad, ha, fun W hW => ?_⟩
        obtain ⟨ad', ha', h⟩ := RdE.four (RdE.ext HY.out.1 hW) hlt2
        rw [ha] at ha'; cases ha'; exact h
      have HRX : Hid (RdB w xs[k].A xs[k].d ∧ xs[k].d.length ≤ 1000000) := ⟨(HX.out.2 _ (List.getElem_mem hlt)).1, HD.out _ (List.getElem_mem hlt)⟩
      have HRY : Hid (RdB w ys[k].A ys[k].d) := (HY.out.2 _ (List.getElem_mem hlt2)).1
      have hlt3 := Lib.hid hlt2
      obtain ⟨ad, rfl, hxc⟩ := HXC.out
      obtain ⟨bd, rfl, hyc⟩ := HYC.out
      have HXD := Lib.hid hxc
      have HYD := Lib.hid hyc
      clear HXC HYC hxc hyc
      generalize xs[k] = p at *
      generalize ys[k] = q at *
      obtain ⟨⟨pk, pk2⟩, pt, pA, pc, pd⟩ := p
      obtain ⟨⟨qk, qk2⟩, qt, qA, qc, qd⟩ := q
      have hpq := HPK.out
      unfold Pg.pl at hpq
      simp only [Prod.mk.injEq] at hpq
      obtain ⟨⟨rfl, rfl⟩, rfl, rfl⟩ := hpq
      dsimp only at HXD HYD HRX HRY
      clear HPK
      have HSM : Hid (∀ W, Ext wr W → Calls Try.prog 22 #[.slice pA pd.length pc, .slice qA pd.length qc] W (RetV W (.bool true))) := fun W e => by
        have h := sameE pA qA pc qc pd pd W (HRX.out.1.ext (E0.out.trans e)) (HRY.out.ext (E0.out.trans e)) HRX.out.2 HRX.out.2
        rw [decide_eq_true rfl] at h
        exact h
      have KS : Hid (∀ W, Ext wr W → _ ∧ _) := fun W e => ⟨HXD.out W (E0.out.trans e), HYD.out W (E0.out.trans e)⟩
      clear HXD HYD HRX HRY hlt2 hlt3
      have kl : k < ys.length := by have := HLN.out; omega
      go_wp2_with fail
      refine wp_region_quietE wr (Ext.refl _) (by kernel_rfl) (by kernel_rfl) ?_
      repeat (first | (apply wpq_skip; (focus rfl); (try simp only [Act.put, List.setIfInBounds_toArray, List.set_cons_zero, List.set_cons_succ])) | ((with_reducible show QGoal _ _ _ _ ({ dst := _, op := Op.call { callee := Callee.value (Operand.func 22), args := _, argTypes := _ }, type := _, pos := _, after := _, guard := _ } :: _) _); apply wpq_call (hc := HSM.out); (focus rfl); (focus (intro W hW; go_simp; (first | done | with_reducible rfl))); (try simp only [Act.put, List.setIfInBounds_toArray, List.set_cons_zero, List.set_cons_succ])) | (apply wpq_take; (focus rfl); (focus (intro W hW; obtain ⟨⟨x0, x1, x2, x3⟩, ⟨y0, y1, y2, y3⟩⟩ := KS.out W hW; go_simp; (first | done | with_reducible rfl))); (try simp only [Act.put, List.setIfInBounds_toArray, List.set_cons_zero, List.set_cons_succ])))
      refine wpq_nil ?_
      intro w7 e7
      have E7 := Lib.hid (E0.out.trans e7)
      clear e7
      go_wp2_with fail
      go_roundw
      case rel => exact ⟨k + 1, by omega, by go_num, E7.out⟩
      case measure => simp [intOf]; omega
    · have k1 : ¬ (k : Int) < (xs.length : Int) := by omega
      go_wp2_with fail
      go_ret
      exact ⟨rfl, E0.out⟩
end Go.Proofs.Ytlgngnkaiidbeaa
