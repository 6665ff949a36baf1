/- The walk of BoxCut. -/
import Derived.Test.YtjbejaieihchmaaBoxY
set_option maxRecDepth 100000
namespace Go.Proofs.Ytjbejaieihchmaa
open Go.RowKit

theorem catB_take_succ (l : List (List UInt8)) (i : Nat) (h : i < l.length) : catB (l.take (i + 1)) = catB (l.take i) ++ boxB l[i] := by
  rw [List.take_succ_eq_append_getElem h, catB_snoc]
theorem catB_mono (l : List (List UInt8)) (i j : Nat) (h : i ≤ j) : (catB (l.take i)).length ≤ (catB (l.take j)).length := by
  obtain ⟨d, rfl⟩ : ∃ d, j = i + d := ⟨j - i, by omega⟩
  rw [List.take_add, catB, catB, List.map_append, List.flatten_append, List.length_append]
  omega
theorem catB_len (l : List (List UInt8)) (i : Nat) (h : ∀ x ∈ l.take i, 1 ≤ x.length ∧ x.length ≤ 200) : (catB (l.take i)).length ≤ 206 * i := by
  induction i with
  | zero => simp [catB]
  | succ i ih =>
    by_cases hi : i < l.length
    · rw [catB_take_succ l i hi, List.length_append, boxB_length]
      have h1 := ih (fun x hx => h x (by rw [List.take_succ_eq_append_getElem hi]; exact List.mem_append_left _ hx))
      have h2 := h l[i] (by rw [List.take_succ_eq_append_getElem hi]; exact List.mem_append_right _ (List.mem_singleton.2 rfl))
      omega
    · rw [List.take_of_length_le (by omega)] at h ⊢
      have h1 := ih (fun x hx => h x (List.mem_of_mem_take hx))
      rw [List.take_of_length_le (by omega)] at h1
      omega

/-- where the loop stands -/
def CutI (w : World) (L : List (List UInt8)) (vs : List Value) (n : Nat) (b wt at_ ix : Value) (wr : World) : Prop :=
  ∃ (i j : Nat) (B Aw : Option Addr) (cB cw : Nat), i ≤ L.length ∧ j ≤ i ∧ (∀ x ∈ L.take i, 1 ≤ x.length ∧ x.length ≤ 200) ∧
    b = .slice B (catB (L.take i)).length cB ∧ OwnB wr w.heap.size B cB (catB (L.take i)) ∧
    wt = .slice Aw j cw ∧ OwnV wr w.heap.size 22 1 Aw j cw (vs.take j) ∧ (blk B = none ∨ blk B ≠ blk Aw) ∧
    at_ = .int .i64 (catB (L.take j)).length ∧ ix = .int .i64 i ∧ Ext w wr ∧ (catB (L.take j)).length ≤ n ∧ (j < i → n < (catB (L.take (j + 1))).length)

theorem EL.take {w : World} {vs : List Value} {bss : List (List UInt8)} (h : EL w vs bss) (j : Nat) : EL w (vs.take j) (bss.take j) := by
  refine ⟨by simp [h.1], fun i v bs h1 h2 => ?_⟩
  rw [List.getElem?_take] at h1 h2
  split at h1
  · rename_i hij
    rw [if_pos hij] at h2
    exact h.2 i v bs h1 h2
  · cases h1

set_option maxHeartbeats 4000000 in
theorem boxCut_walk (A : Option Addr) (c : Nat) (L : List (List UInt8)) (vs : List Value) (n : Int) (w : World) (hb : Rd w A vs) (he : EL w vs L) (hcap : L.length ≤ c) (hcm : c ≤ 9223372036854775807) (hn : n ≤ 9223372036854775807) :
    Calls Try.prog 13 #[.slice A L.length c, .int .i64 n] w (RetV w (.bool true)) := by
  by_cases hbig : 20 < L.length
  · clear hb he
    go_enter Try.func13, Try.ntmps13
    go_wp2_with fail
    refine (awake12 _).mono ?_
    rintro e w1 ⟨rfl, e1⟩
    have E1 := Lib.hid e1
    clear e1
    go_wp2_with fail
    go_ret
    exact ⟨rfl, E1.out⟩
  by_cases hneg : n < 0
  · clear hb he
    go_enter Try.func13, Try.ntmps13
    go_wp2_with fail
    refine (awake12 _).mono ?_
    rintro e w1 ⟨rfl, e1⟩
    have E1 := Lib.hid e1
    clear e1
    go_wp2_with fail
    go_ret
    exact ⟨rfl, E1.out⟩
  obtain ⟨m, rfl⟩ : ∃ m : Nat, n = m := ⟨n.toNat, by omega⟩
  have Hb := Lib.hid hb
  have He := Lib.hid he
  clear hb he
  go_enter Try.func13, Try.ntmps13
  go_wp2_with fail
  go_loopw [5, 6, 7, 8] (fun b wt a i wr => CutI w L vs m b wt a i wr) (fun _ _ _ i _ => L.length - (intOf i).toNat)
  case atStart => exact ⟨0, 0, none, none, 0, 0, by omega, by omega, by simp, rfl, OwnB.nil _ _, rfl, OwnV.nil _ _ _ _, .inl rfl, rfl, rfl, Ext.refl _, by simp [catB], by omega⟩
  case round =>
    obtain ⟨i, j, B, Aw, cB, cw, hi, hj, hall, rfl, ob, rfl, ov, hne, rfl, rfl, hE, hjn, hjl⟩ := hrel
    have OB := Lib.hid ob
    have OV := Lib.hid ov
    have HNE := Lib.hid hne
    have E0 := Lib.hid hE
    have HAL := Lib.hid hall
    have hcl := catB_len L i hall
    clear ob ov hne hE hall
    by_cases hlt : i < L.length
    · obtain ⟨va, hva⟩ : ∃ v, vs[i]? = some v := ⟨_, List.getElem?_eq_getElem (by have := He.out.1; omega)⟩
      obtain ⟨A1, c1, rfl, r1, l1, m1⟩ := He.out.2 i va L[i] hva (List.getElem?_eq_getElem hlt)
      obtain ⟨ad, rfl, hc1⟩ := Hb.out i _ hva
      have HR1 := Lib.hid r1
      have hcell := E0.out.cell hc1
      have HC1 := Lib.hid hc1
      have HVA := Lib.hid hva
      have HS := Lib.hid (catB_take_succ L i hlt)
      have HTk : Hid (L.take (i + 1) = L.take i ++ [L[i]]) := List.take_succ_eq_append_getElem hlt
      clear r1 hc1 hva
      generalize hx : L[i] = x at *
      have HX := Lib.hid hx
      clear hx
      by_cases hx2 : 200 < x.length
      · go_wp2_with fail
        refine (awake12 _).mono ?_
        rintro e w1 ⟨rfl, e1⟩
        have E1 := Lib.hid (E0.out.trans e1)
        clear e1
        go_wp2_with fail
        go_ret
        exact ⟨rfl, E1.out⟩
      by_cases hx0 : x.length = 0
      · have b0 : ((x.length : Int) == 0) = true := by simp [hx0]
        clear hx0
        go_wp2_with fail
        refine (awake12 _).mono ?_
        rintro e w1 ⟨rfl, e1⟩
        have E1 := Lib.hid (E0.out.trans e1)
        clear e1
        go_wp2_with fail
        go_ret
        exact ⟨rfl, E1.out⟩
      have b0 : ((x.length : Int) == 0) = false := beq_eq_false_iff_ne.2 (by omega)
      have hXl : (catB (L.take i) ++ boxB x).length = (catB (L.take i)).length + x.length + 6 := by rw [List.length_append, boxB_length]; omega
      have HBP : Hid (Calls Try.prog 26 #[.slice B (catB (L.take i)).length cB, .slice A1 x.length c1] wr (RetB2 wr (catB (L.take i) ++ boxB x) (.int .i64 0))) :=
        bput_calls B A1 cB c1 (catB (L.take i)) x wr OB.out.rd (HR1.out.ext E0.out) (by omega) (by omega) (by omega)
      generalize hM : catB (L.take i) = M at *
      generalize hXX : M ++ boxB x = X at *
      have HM := Lib.hid hM
      have HXX := Lib.hid hXX
      clear hM hXX
      have hXn : ¬ (X.length : Int) ≤ (M.length : Int) := by omega
      have hXb : X.length ≤ 10000 := by omega
      clear hXl
      go_wp2_with fail
      refine HBP.out.mono ?_
      rintro e w1 ⟨B1, d1, rfl, o1, e1⟩
      have O1 := Lib.hid (o1.lower E0.out.size)
      have HN1 : Hid (blk B1 = none ∨ blk B1 ≠ blk Aw) := by
        cases hq : blk B1 with
        | none => exact .inl rfl
        | some k => exact .inr (fun e => by have h8 := o1.base_ k hq; have h9 := OV.out.base_ k e.symm; omega)
      have HB1 := Lib.hid (fun k (hk : blk B1 = some k) => (o1.base_ k hk).2)
      have E1 := Lib.hid (E0.out.trans e1)
      have OV1 := Lib.hid (OV.out.ext e1)
      have hcell1 := e1.cell hcell
      have HAL1 : Hid (∀ y ∈ L.take (i + 1), 1 ≤ y.length ∧ y.length ≤ 200) := by
        intro y hy
        rw [HTk.out] at hy
        rcases List.mem_append.1 hy with h | h
        · exact HAL.out y h
        · simp at h; subst h; omega
      have HC1' : Hid (catB (L.take (i + 1)) = X) := HS.out
      clear o1 e1 hcell OB OV HBP HAL HR1 HS HTk
      by_cases hfit : X.length ≤ m
      · have hji : j = i := by
          rcases Nat.lt_or_ge j i with h | h
          · have h1 := hjl h
            have h2 := catB_mono L (j + 1) (i + 1) (by omega)
            rw [HC1'.out] at h2
            omega
          · omega
        have hji' := Lib.hid hji
        clear hji
        have HOV2 := Lib.hid (OV1.out.ext ((Ext.refl _).alloc (.cells #[.slice A1 x.length c1] 22)))
        go_wp2_with (at_builtin; refine appV _ rfl (.tmp 65) (.tmp 70) 59 rfl 22 (.slice none 0 0) 1 24 Try.underlying59 info_bytes rfl (by decide) w.heap.size Aw j cw (vs.take j) rfl ⟨w1.heap.size, 0, none⟩ 1 1 [.slice A1 x.length c1] rfl ?_ HOV2.out rfl (cell_one_new _ _ _) (by simp [Value.oneCell']) (by omega) (by omega) ?cb; intro A3 c3 w3 h3 g3 b3; have O3 := Lib.hid h3; have G3 := Lib.hid g3; have HB3 := Lib.hid b3; clear h3 g3 b3)
        case cb => have := E1.out.size; simp; omega
        have E3 := Lib.hid ((E1.out.alloc (.cells #[.slice A1 x.length c1] 22)).grown G3.out (fun k hk => (OV1.out.base_ k hk).1))
        have OB3 := Lib.hid ((O1.out.ext ((Ext.refl _).alloc (.cells #[.slice A1 x.length c1] 22))).keep G3.out HN1.out)
        have HN3 : Hid (blk B1 = none ∨ blk B1 ≠ blk A3) := by
          rcases HN1.out with h | h
          · exact .inl h
          · rcases HB3.out with h3 | h3
            · exact .inr (by rw [h3]; exact h)
            · refine .inr (fun e => ?_)
              rw [h3, World.size_alloc] at e
              have := HB1.out _ e
              omega
        go_roundw
        case rel =>
          have hji := hji'.out
          refine ⟨i + 1, i + 1, B1, A3, d1, c3, by omega, by omega, HAL1.out, by rw [HC1'.out], by rw [HC1'.out]; exact OB3.out, by rw [hji], ?_, HN3.out, by rw [HC1'.out], by go_num, E3.out, by rw [HC1'.out]; exact hfit, by omega⟩
          have h := O3.out
          rw [hji] at h
          rw [List.take_add_one, HVA.out]
          exact h
        case measure => simp [intOf]; omega
      · go_wp2_with fail
        go_roundw
        case rel =>
          refine ⟨i + 1, j, B1, Aw, d1, cw, by omega, by omega, HAL1.out, by rw [HC1'.out], by rw [HC1'.out]; exact O1.out, rfl, OV1.out, HN1.out, rfl, by go_num, E1.out, hjn, fun _ => ?_⟩
          rcases Nat.lt_or_ge j i with h | h
          · exact hjl h
          · have hji : j = i := by omega
            subst hji
            rw [HC1'.out]
            omega
        case measure => simp [intOf]; omega
    · have hiL : L.take i = L := List.take_of_length_le (by omega)
      rw [hiL] at OB hcl ⊢
      have HALL : Hid (∀ x ∈ L, 1 ≤ x.length ∧ x.length ≤ 4096) := fun x hx => by have := HAL.out x (by rw [hiL]; exact hx); omega
      by_cases hmb : (catB L).length < m
      · go_wp2_with fail
        refine (awake12 _).mono ?_
        rintro e w1 ⟨rfl, e1⟩
        have E1 := Lib.hid (E0.out.trans e1)
        clear e1
        go_wp2_with fail
        go_ret
        exact ⟨rfl, E1.out⟩
      have hstop := it_cat_stop L m j HALL.out hjn (by
        rcases Nat.lt_or_ge j i with h | h
        · refine .inl ⟨L[j], List.getElem?_eq_getElem (by omega), ?_⟩
          have := hjl h
          rw [catB_take_succ L j (by omega), List.length_append, boxB_length] at this
          omega
        · exact .inr (by omega))
      have hcat := it_cat L m j HALL.out (by omega) hjn
      have HST : Hid (∀ q, (nextK ((catB L).take m) (itB ((catB L).take m) q).2).2.2 ≠ 0 → itB ((catB L).take m) q = (L.take j, (catB (L.take j)).length)) := by
        intro q hq
        rw [← hcat]
        exact itB_same _ _ _ hq (by rw [hcat]; exact hstop)
      have HLj : Hid ((L.take j).length = j) := by simp [Hid]; omega
      have HTl : Hid (((catB L).take m).length = m) := by simp [Hid]; omega
      have hBc := OB.out.cap
      have hBm := OB.out.capmax
      have HVD : Hid (Calls Try.prog 42 #[.slice B m cB] wr fun e w' => ∃ A' c' us, e = .returned (.tuple #[.slice A' j c', .int .i64 (catB (L.take j)).length]) ∧ Rd w' A' us ∧ EL w' us (L.take j) ∧ Ext wr w') := by
        have h := valid_calls B cB ((catB L).take m) wr (OB.out.rd.take m) (by rw [HTl.out]; omega) (by rw [HTl.out]; omega) hBm
        rw [HTl.out] at h
        refine h.mono ?_
        rintro e w' ⟨q, A', c', us, hq, rfl, r1, r2, r3⟩
        have := HST.out q hq
        rw [this] at r2 ⊢
        exact ⟨A', c', us, by rw [HLj.out], r1, r2, r3⟩
      have HELj := Lib.hid (He.out.take j)
      have HMJ : Hid (∀ x ∈ L.take j, x.length ≤ 1000000) := fun x hx => by have := HALL.out x (List.mem_of_mem_take hx); omega
      clear hstop hcat HST HAL HALL hiL
      generalize hQ : (catB L).length = Q at *
      clear hQ
      generalize hQ : (catB (L.take j)).length = Q' at *
      clear hQ
      go_wp2_with fail
      refine HVD.out.mono ?_
      rintro e w1 ⟨A', c', us, rfl, r1, r2, e1⟩
      have HLS : Hid (Calls Try.prog 44 #[.slice A' j c', .slice Aw j cw] w1 (RetV w1 (.bool true))) := by
        have h := lists_calls A' Aw c' cw us (vs.take j) (L.take j) (L.take j) w1 r1 (OV.out.ext e1).rd r2 (HELj.out.ext (E0.out.trans e1)) (by rw [HLj.out]; omega) (by rw [HLj.out]; omega) HMJ.out HMJ.out
        rw [decide_eq_true (rfl : L.take j = L.take j), HLj.out] at h
        exact h
      have E1 := Lib.hid (E0.out.trans e1)
      clear r1 r2 e1
      go_wp2_with fail
      refine HLS.out.mono ?_
      rintro e w2 ⟨rfl, e2⟩
      have E2 := Lib.hid (E1.out.trans e2)
      clear e2
      go_wp2_with fail
      refine (awake12 _).mono ?_
      rintro e w3 ⟨rfl, e3⟩
      have E3 := Lib.hid (E2.out.trans e3)
      clear e3
      go_wp2_with fail
      go_ret
      exact ⟨rfl, E3.out⟩
end Go.Proofs.Ytjbejaieihchmaa
