/- auth.Message; both Checks of a roster. -/
import Derived.Test.YtlgngnkaiidbeaaDoorAuthC
import Derived.Test.YtlgngnkaiidbeaaDoorName2
import Derived.Deep.RegionHeld3
set_option maxRecDepth 100000
set_option linter.unusedVariables false
set_option linter.unusedSimpArgs false
namespace Go.Proofs.YtlgngnkaiidbeaaDoor
open Go.RowKit Go.Shelf

theorem bytesW (w : World) (s : ByteArray) : Ext w (Lib.bytesWorld w 5 s) ∧ RdB (Lib.bytesWorld w 5 s) (some ⟨w.heap.size, 0, none⟩) s.data.toList := by
  refine ⟨⟨rfl, rfl, rfl, by rw [Lib.bytesWorld_size]; omega, fun i hi => Lib.bytesWorld_at_old w _ s i hi⟩, fun j u hu => ⟨_, rfl, ?_⟩⟩
  rw [List.getElem?_map] at hu
  cases hq : s.data.toList[j]? with
  | none => rw [hq] at hu; cases hu
  | some b =>
    rw [hq] at hu
    simp at hu
    subst hu
    have hj : j < s.data.toList.length := (List.getElem?_eq_some_iff.1 hq).1
    rw [add_mk, Nat.zero_add, Lib.bytesWorld_cell w _ s j hj, List.getD_eq_getElem?_getD, hq]
    rfl
section laws
variable {ops : Array Oper} {rest : List Oper} {o : Oper} {a : Act} {Q : Exit → Act → World → Prop}
/-- []byte(s) -/
theorem cvS (w : World) (hgd : o.guard = none) (x : Operand) (ho : o.op = .convert 9 22 x) (s : ByteArray) (hx : a.eval x = .string s)
    (h : ∀ g c w', w.heap.size = g → RdB w' (some ⟨g, 0, none⟩) s.data.toList → Ext w w' → wpList Tryd.prog ops Q rest (a.put o.dst (.slice (some ⟨g, 0, none⟩) s.data.toList.length c)) w') :
    wpList Tryd.prog ops Q (o :: rest) a w := by
  refine wpList_plain hgd fun K hK => ?_
  have hrun := Lib.run_convert_string_bytes (P := Tryd.prog) w 9 22 5 s Tryd.underlying9 Tryd.underlying22 Tryd.underlying5
  unfold Oper.wp execOp
  simp only [ho, hx, Sem.run_bind, Sem.run_pure, Result.andThen_ok, hrun]
  exact hK _ _ (h _ _ _ rfl (bytesW w s).2 (bytesW w s).1)
end laws
set_option maxHeartbeats 2000000 in
theorem amsg_calls (A : Option Addr) (c : Nat) (bs : List UInt8) (s : ByteArray) (w : World) (hb : RdB w A bs) (hl : bs.length ≤ 1000) (hs : s.size ≤ 1000) :
    Calls Tryd.prog 19 #[.slice A bs.length c, .string s] w (RetB w (msgB bs s)) := by
  have HB := Lib.hid hb
  have HS : Hid (s.data.toList.length = s.size) := rfl
  have hs2 : s.data.toList.length ≤ 1000 := hs
  clear hb
  go_enter Tryd.func19, Tryd.ntmps19
  go_wp2_with ((with_reducible show wpList _ _ _ ({ dst := some 7, op := Op.convert 9 22 _, type := _, pos := _, after := _, guard := _ } :: _) _ _); refine cvS _ rfl (.tmp 6) rfl s rfl ?_; intro g c3 w3 hg h3 e3; have R3 := Lib.hid h3; have E3 := Lib.hid e3; clear hg h3 e3)
  have HT : Hid (Two (w3.alloc (.cells #[.slice A bs.length c, .slice (some ⟨g, 0, none⟩) s.data.toList.length c3] 22)) w3.heap.size A c bs (some ⟨g, 0, none⟩) c3 s.data.toList) := by
    have e4 := (Ext.refl w3).alloc (.cells #[.slice A bs.length c, .slice (some ⟨g, 0, none⟩) s.data.toList.length c3] 22)
    have ha := Arr.new w3 22 #[.slice A bs.length c, .slice (some ⟨g, 0, none⟩) s.data.toList.length c3]
    exact ⟨⟨ha.cell_some rfl, ha.cell_some rfl⟩, HB.out.ext (E3.out.trans e4), R3.out.ext e4⟩
  have HE := Lib.hid (E3.out.alloc (.cells #[.slice A bs.length c, .slice (some ⟨g, 0, none⟩) s.data.toList.length c3] 22))
  refine (concat_calls w3.heap.size A (some ⟨g, 0, none⟩) c c3 bs s.data.toList _ HT.out (by omega) (by omega)).mono ?_
  rintro e w5 ⟨A5, c5, rfl, o5, e5⟩
  have O5 := Lib.hid (o5.lower (show w.heap.size ≤ _ from HE.out.size))
  have E5 := Lib.hid (HE.out.trans e5)
  clear o5 e5
  go_wp2_with fail
  go_ret
  exact ⟨A5, c5, by unfold msgB; rw [List.length_append]; rfl, O5.out, E5.out⟩
/-- what is wrong with a roster -/
def chkI : List Te → List Te → Int
  | _, [] => 0
  | pre, t :: r => if tenantB t.n.data.toList = false then 7 else if pre.any (isN t.n) = true then 9 else if t.d.length < 1 ∨ 32 < t.d.length then 2 else chkI (pre ++ [t]) r
def chkT (ls : List Te) : Int := if 8 < ls.length then 3 else chkI [] ls
theorem idxT_lt {ls : List Te} {s : ByteArray} {k : Nat} (h : k < ls.length) (hm : isN s ls[k] = true) : idxT ls (isN s) < (k : Int) ↔ (ls.take k).any (isN s) = true := by
  rcases idxT_cases ls (isN s) with ⟨_, hn⟩ | ⟨j, hj, hz, hp, hb⟩
  · rw [hn _ (List.getElem_mem h)] at hm; cases hm
  · rw [hz]
    have hjk : j ≤ k := by
      rcases Nat.lt_or_ge k j with q | q
      · rw [hb k h q] at hm; cases hm
      · exact q
    constructor
    · intro hlt
      exact List.any_eq_true.2 ⟨ls[j], List.mem_iff_getElem.2 ⟨j, by rw [List.length_take]; omega, by rw [List.getElem_take]⟩, hp⟩
    · intro ha
      obtain ⟨x, hx, hq⟩ := List.any_eq_true.1 ha
      obtain ⟨i, hi, rfl⟩ := List.mem_iff_getElem.1 hx
      rw [List.length_take] at hi
      rw [List.getElem_take] at hq
      rcases Nat.lt_or_ge i j with q | q
      · rw [hb i (by omega) q] at hq; cases hq
      · omega
theorem idxT_any (ls : List Te) (p : Te → Bool) : decide (0 ≤ idxT ls p) = ls.any p := by
  unfold idxT
  cases h : ls.any p with
  | true => simp
  | false => rfl
theorem chkI_step {ls : List Te} {k : Nat} (h : k < ls.length) : chkI (ls.take k) (ls.drop k) = if tenantB ls[k].n.data.toList = false then 7 else if (ls.take k).any (isN ls[k].n) = true then 9 else if ls[k].d.length < 1 ∨ 32 < ls[k].d.length then 2 else chkI (ls.take (k + 1)) (ls.drop (k + 1)) := by
  rw [List.drop_eq_getElem_cons h, takeT h]
  rfl
set_option maxHeartbeats 4000000 in
theorem rchkT_calls (A : Option Addr) (c : Nat) (ls : List Te) (w : World) (hb : RdE Te.cs w A ls) (hl : ls.length ≤ 100000) (hnm : ∀ t ∈ ls, t.n.size ≤ 1000000) :
    Calls Tryd.prog 6 #[.slice A ls.length c] w fun e w' => e = .returned (.int .i64 (chkT ls)) ∧ w' = w := by
  have HA := Lib.hid hb
  have HNM := Lib.hid hnm
  clear hnm
  by_cases h8 : 8 < ls.length
  · have k8 : (8 : Int) < (ls.length : Int) := by omega
    have HF : Hid (chkT ls = 3) := by show _ = _; unfold chkT; rw [if_pos h8]
    clear hb
    go_enter Tryd.func6, Tryd.ntmps6
    go_wp2_with fail
    go_ret
    exact ⟨by rw [HF.out]; rfl, rfl⟩
  have HF : Hid (chkT ls = chkI [] ls) := by show _ = _; unfold chkT; rw [if_neg h8]
  have k8 : ¬ (8 : Int) < (ls.length : Int) := by omega
  clear hb h8
  go_enter Tryd.func6, Tryd.ntmps6
  go_wp2_with fail
  go_loopw [3] (fun i wr => ∃ k : Nat, k ≤ ls.length ∧ i = .int .i64 (k : Int) ∧ wr = w ∧ chkI [] ls = chkI (ls.take k) (ls.drop k)) (fun i _ => ls.length - (intOf i).toNat)
  case atStart => exact ⟨0, by omega, rfl, rfl, rfl⟩
  case round =>
    obtain ⟨k, hk, rfl, rfl, hr⟩ := hrel
    have Hr := Lib.hid (HF.out.trans hr)
    clear hr
    by_cases hlt : k < ls.length
    · obtain ⟨ad, rfl, x0, x1⟩ := RdE.te HA.out hlt
      have k1 : (k : Int) < (ls.length : Int) := by omega
      have HS := Lib.hid (Hr.out.trans (chkI_step hlt))
      have HNX := Lib.hid (HNM.out _ (List.getElem_mem hlt))
      have HLT := Lib.hid (idxT_lt hlt (isN_me ls[k]))
      have HC9 : Hid (chkI (ls.take (k + 1)) (ls.drop (k + 1)) = chkT ls → chkI [] ls = chkI (ls.take (k + 1)) (ls.drop (k + 1))) := fun h => HF.out.symm.trans h.symm
      generalize ls[k] = x at *
      obtain ⟨xn, xA, xc, xd⟩ := x
      dsimp only at x0 x1 HS HLT HNX
      have HFC := Lib.hid (rfindT_calls (some ad) c ls xn wr HA.out hl)
      generalize idxT ls (isN xn) = z at *
      generalize hnx : chkI (ls.take (k + 1)) (ls.drop (k + 1)) = nx at *
      have HNY := Lib.hid hnx
      clear hnx
      cases ht : tenantB xn.data.toList with
      | false =>
        rw [ht, if_pos rfl] at HS
        have HT : Hid (Calls Tryd.prog 20 #[.string xn] wr fun e w' => e = .returned (.bool false) ∧ wr = w') := ht ▸ rtenant_calls xn wr HNX.out
        clear ht HLT
        go_wp2_with fail
        refine HT.out.mono ?_
        rintro e w' ⟨rfl, rfl⟩
        go_wp2_with fail
        go_ret
        exact ⟨by rw [HS.out]; rfl, rfl⟩
      | true =>
        rw [ht, if_neg (by simp)] at HS
        have HT : Hid (Calls Tryd.prog 20 #[.string xn] wr fun e w' => e = .returned (.bool true) ∧ wr = w') := ht ▸ rtenant_calls xn wr HNX.out
        clear ht
        by_cases hz : z < (k : Int)
        · rw [if_pos (HLT.out.1 hz)] at HS
          clear HLT
          go_wp2_with fail
          refine HT.out.mono ?_
          rintro e w' ⟨rfl, rfl⟩
          go_wp2_with fail
          refine HFC.out.mono ?_
          rintro e w' ⟨rfl, rfl⟩
          go_wp2_with fail
          go_ret
          exact ⟨by rw [HS.out]; rfl, rfl⟩
        · rw [if_neg (fun h => hz (HLT.out.2 h))] at HS
          clear HLT
          go_wp2_with fail
          refine HT.out.mono ?_
          rintro e w' ⟨rfl, rfl⟩
          go_wp2_with fail
          refine HFC.out.mono ?_
          rintro e w' ⟨rfl, rfl⟩
          by_cases hd1 : xd.length < 1
          · rw [if_pos (.inl hd1)] at HS
            have d1 : (xd.length : Int) < 1 := by omega
            clear hd1
            go_wp2_with fail
            go_ret
            exact ⟨by rw [HS.out]; rfl, rfl⟩
          · have d1 : ¬ (xd.length : Int) < 1 := by omega
            by_cases hd2 : 32 < xd.length
            · rw [if_pos (.inr hd2)] at HS
              have d2 : (32 : Int) < (xd.length : Int) := by omega
              clear hd1 hd2
              go_wp2_with fail
              go_ret
              exact ⟨by rw [HS.out]; rfl, rfl⟩
            · have d2 : ¬ (32 : Int) < (xd.length : Int) := by omega
              rw [if_neg (by omega)] at HS
              have HN := Lib.hid (HC9.out HS.out.symm)
              clear hd1 hd2 HC9
              go_wp2_with fail
              go_roundw
              case rel => exact ⟨k + 1, by omega, by go_num, by first | rfl | trivial, HN.out.trans HNY.out.symm⟩
              case measure => simp [intOf]; omega
    · have HE : Hid (chkT ls = 0) := by
        have := Hr.out
        rw [List.drop_eq_nil_of_le (by omega)] at this
        exact this
      have k1 : ¬ (k : Int) < (ls.length : Int) := by omega
      go_wp2_with fail
      go_ret
      exact ⟨by rw [HE.out]; rfl, rfl⟩
set_option maxHeartbeats 8000000 in
theorem achkT_calls (A : Option Addr) (c : Nat) (ls : List Te) (w : World) (hb : RdE Te.cs w A ls) (hl : ls.length ≤ 100000) (hcap : ls.length ≤ c) (hcm : c ≤ 9223372036854775807) (hnm : ∀ t ∈ ls, t.n.size ≤ 1000000) :
    Calls Tryd.prog 15 #[.slice A ls.length c] w (RetV w (.int .i64 (chkT ls))) := by
  have HA := Lib.hid hb
  have HNM := Lib.hid hnm
  clear hnm
  by_cases h8 : 8 < ls.length
  · have k8 : (8 : Int) < (ls.length : Int) := by omega
    have HF : Hid (chkT ls = 3) := by show _ = _; unfold chkT; rw [if_pos h8]
    clear hb
    go_enter Tryd.func15, Tryd.ntmps15
    go_wp2_with fail
    go_ret
    exact ⟨by rw [HF.out]; rfl, Ext.refl _⟩
  have HF : Hid (chkT ls = chkI [] ls) := by show _ = _; unfold chkT; rw [if_neg h8]
  have k8 : ¬ (8 : Int) < (ls.length : Int) := by omega
  clear hb h8
  go_enter Tryd.func15, Tryd.ntmps15
  go_wp2_with fail
  go_loopw [10] (fun i wr => ∃ k : Nat, k ≤ ls.length ∧ i = .int .i64 (k : Int) ∧ Ext w wr ∧ chkI [] ls = chkI (ls.take k) (ls.drop k)) (fun i _ => ls.length - (intOf i).toNat)
  case atStart => exact ⟨0, by omega, rfl, Ext.refl _, rfl⟩
  case round =>
    obtain ⟨k, hk, rfl, hE, hr⟩ := hrel
    have Hr := Lib.hid (HF.out.trans hr)
    have E0 := Lib.hid hE
    clear hr hE
    by_cases hlt : k < ls.length
    · obtain ⟨ad, rfl, x0, x1⟩ := RdE.te (show RdE Te.cs wr A ls from HA.out.ext E0.out) hlt
      have k1 : (k : Int) < (ls.length : Int) := by omega
      have HS := Lib.hid (Hr.out.trans (chkI_step hlt))
      have HNX := Lib.hid (HNM.out _ (List.getElem_mem hlt))
      have HC9 : Hid (chkI (ls.take (k + 1)) (ls.drop (k + 1)) = chkT ls → chkI [] ls = chkI (ls.take (k + 1)) (ls.drop (k + 1))) := fun h => HF.out.symm.trans h.symm
      have HTK : Hid (∀ W, Ext w W → RdE Te.cs W (some ad) (ls.take k)) := fun W e j u hu => by
        refine (HA.out.ext e) j u ?_
        have h2 : ls.flatMap Te.cs = (ls.take k).flatMap Te.cs ++ (ls.drop k).flatMap Te.cs := by rw [← List.flatMap_append, List.take_append_drop]
        rw [h2, List.getElem?_append_left (List.getElem?_eq_some_iff.1 hu).1]; exact hu
      have hlk : (ls.take k).length = k := by rw [List.length_take]; omega
      generalize ls[k] = x at *
      obtain ⟨xn, xA, xc, xd⟩ := x
      dsimp only at x0 x1 HS HNX
      have HTE := Lib.hid (fun W => tenant_calls xn W)
      generalize hnx : chkI (ls.take (k + 1)) (ls.drop (k + 1)) = nx at *
      have HNY := Lib.hid hnx
      clear hnx
      generalize ls.take k = pre at *
      cases ht : tenantB xn.data.toList with
      | false =>
        rw [ht, if_pos rfl] at HS
        rw [ht] at HTE
        clear ht HTK hlk
        go_wp2_with (first | ((with_reducible show wpList _ _ _ ({ dst := some 4, op := Op.alloc 24, type := _, pos := _, after := _, guard := _ } :: _) _ _); refine alA _ rfl 24 rfl _ _ zero_te ?_; intro g4 w4 hg hs1 k3 e3; have X4 := Lib.hid k3; have T4 := Lib.hid e3; have G4 := Lib.hid (Nat.le_of_eq hg); clear hg hs1 k3 e3) | ((with_reducible show wpList _ _ _ ({ dst := none, op := Op.store 24 _ _, type := _, pos := _, after := _, guard := _ } :: _) _ _); refine stA _ rfl 24 24 _ _ rfl g4 _ (teV ⟨xn, xA, xc, xd⟩) rfl rfl X4.out size_te rfl (teV_one _) ?_; intro w5 hs k4 q4; have T5 := Lib.hid (show Ext wr w5 from T4.out.grown q4 (fun k hk => by injection hk with hk; have := G4.out; omega)); have y0 : w5.cell? ⟨g4, 0, none⟩ = some (.string xn) := k4.cell_some rfl; have y1 : w5.cell? ⟨g4, 1, none⟩ = some (.slice xA xd.length xc) := k4.cell_some rfl; have Y5 := Lib.hid k4; clear hs k4 q4 x0 x1 X4))
        refine (HTE.out w5).mono ?_
        rintro e w6 ⟨rfl, e6⟩
        have E6 := Lib.hid (E0.out.trans (T5.out.trans e6))
        clear e6
        go_wp2_with fail
        go_ret
        exact ⟨by rw [HS.out]; rfl, E6.out⟩
      | true =>
        rw [ht, if_neg (by simp)] at HS
        rw [ht] at HTE
        have HIA : Hid (∀ (gb : Nat) (W : World), Ext w W → W.cell? ⟨gb, 0, none⟩ = some (.string xn) → Calls Tryd.prog 30 #[.slice (some ad) k c, .func (.func 46) #[] #[.pointer (some ⟨gb, 0, none⟩)]] W (RetV W (.bool (pre.any (isN xn))))) := fun gb W e h0 => by
          have h := containsT_calls 46 #[.pointer (some ⟨gb, 0, none⟩)] (isN xn) eg_called1 (some ad) c pre W (HTK.out W e) (by omega) (called1_pred gb xn W h0)
          rw [idxT_any, hlk] at h
          exact h
        clear ht HTK hlk
        generalize pre.any (isN xn) = pb at *
        go_wp2_with (first | ((with_reducible show wpList _ _ _ ({ dst := some 4, op := Op.alloc 24, type := _, pos := _, after := _, guard := _ } :: _) _ _); refine alA _ rfl 24 rfl _ _ zero_te ?_; intro g4 w4 hg hs1 k3 e3; have X4 := Lib.hid k3; have T4 := Lib.hid e3; have G4 := Lib.hid (Nat.le_of_eq hg); clear hg hs1 k3 e3) | ((with_reducible show wpList _ _ _ ({ dst := none, op := Op.store 24 _ _, type := _, pos := _, after := _, guard := _ } :: _) _ _); refine stA _ rfl 24 24 _ _ rfl g4 _ (teV ⟨xn, xA, xc, xd⟩) rfl rfl X4.out size_te rfl (teV_one _) ?_; intro w5 hs k4 q4; have T5 := Lib.hid (show Ext wr w5 from T4.out.grown q4 (fun k hk => by injection hk with hk; have := G4.out; omega)); have y0 : w5.cell? ⟨g4, 0, none⟩ = some (.string xn) := k4.cell_some rfl; have y1 : w5.cell? ⟨g4, 1, none⟩ = some (.slice xA xd.length xc) := k4.cell_some rfl; have Y5 := Lib.hid k4; clear hs k4 q4 x0 x1 X4))
        refine (HTE.out w5).mono ?_
        rintro e w6 ⟨rfl, e6⟩
        have T6 := Lib.hid (T5.out.trans e6)
        have Y6 := Lib.hid (Y5.out.ext e6)
        clear e6 T5 Y5 y0 y1
        go_wp2_with fail
        have hkc : k ≤ c := by omega
        have hkc2 : (k : Int) ≤ (c : Int) := by omega
        have hk9 : ¬ (k : Int) < 0 := by omega
        have hk8 : ¬ (c : Int) < (k : Int) := by omega
        have hk7 : ¬ c < k := by omega
        have y0 : w6.cell? ⟨g4, 0, none⟩ = some (.string xn) := Y6.out.cell_some rfl
        have KS : Hid (∀ W, Ext w6 W → Ext w6 W ∧ W.cell? ⟨g4, 0, none⟩ = some (.string xn)) := fun W e => ⟨e, (Y6.out.ext e).cell_some rfl⟩
        have HCF : Hid (∀ (gb : Nat) (W : World), Ext w6 W → W.cell? ⟨gb, 0, none⟩ = some (.string xn) → _) := fun gb W e h0 => HIA.out gb W ((E0.out.trans T6.out).trans e) h0
        go_region_held3 (fun W => Ext w6 W ∧ W.cell? ⟨g4, 0, none⟩ = some (.string xn)) (first | exact KS.out _ (Ext.refl _).drew | exact KS.out _ e8 | exact KS.out _ e7) (first | (go_at_call 27; refine (called_calls _ _).mono ?_; rintro e w7 ⟨gb, rfl, hgb, e7'⟩; have e7 : Ext w6 w7 := (Ext.refl w6).drew.trans e7'; clear e7') | (go_at_call 30; refine (HCF.out gb _ e7 hgb).mono ?_; rintro e w8 ⟨rfl, e8'⟩; have e8 := Ext.trans e7 e8'; clear e8'))
        have E8 := Lib.hid ((E0.out.trans T6.out).trans e8)
        have y1 : w8.cell? ⟨g4, 1, none⟩ = some (.slice xA xd.length xc) := (Y6.out.ext e8).cell_some rfl
        clear e8 e7 hgb y0 hkc hkc2 hk9 hk8 hk7
        cases pb with
        | true =>
          rw [if_pos rfl] at HS
          go_wp2_with fail
          go_ret
          exact ⟨by rw [HS.out]; rfl, E8.out⟩
        | false =>
          rw [if_neg (by simp)] at HS
          by_cases hd1 : xd.length < 1
          · rw [if_pos (.inl hd1)] at HS
            have d1 : (xd.length : Int) < 1 := by omega
            clear hd1
            go_wp2_with fail
            go_ret
            exact ⟨by rw [HS.out]; rfl, E8.out⟩
          · have d1 : ¬ (xd.length : Int) < 1 := by omega
            by_cases hd2 : 32 < xd.length
            · rw [if_pos (.inr hd2)] at HS
              have d2 : (32 : Int) < (xd.length : Int) := by omega
              clear hd1 hd2
              go_wp2_with fail
              go_ret
              exact ⟨by rw [HS.out]; rfl, E8.out⟩
            · have d2 : ¬ (32 : Int) < (xd.length : Int) := by omega
              rw [if_neg (by omega)] at HS
              have HN := Lib.hid (HC9.out HS.out.symm)
              clear hd1 hd2 HC9
              go_wp2_with fail
              go_roundw
              case rel => exact ⟨k + 1, by omega, by go_num, E8.out, HN.out.trans HNY.out.symm⟩
              case measure => simp [intOf]; omega
    · have HE : Hid (chkT ls = 0) := by
        have := Hr.out
        rw [List.drop_eq_nil_of_le (by omega)] at this
        exact this
      have k1 : ¬ (k : Int) < (ls.length : Int) := by omega
      go_wp2_with fail
      go_ret
      exact ⟨by rw [HE.out]; rfl, E0.out⟩
end Go.Proofs.YtlgngnkaiidbeaaDoor
