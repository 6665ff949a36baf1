/- ref30.Sort. -/
import Derived.Test.YtlgngnkaiidbeaaShareF
set_option maxRecDepth 100000
set_option exponentiation.threshold 3000
set_option linter.unusedVariables false
set_option linter.unusedSimpArgs false
namespace Go.Proofs.Ytlgngnkaiidbeaa
open Go.RowKit Go.Shelf

/-- b says whether these turns are one -/
def EqT (b : Bool) (y t : Tn) : Prop := b = true ↔ y = t
theorem if3 (b : Bool) {y t : Tn} {W : World} (h : EqT b y t) : (if y.a = t.a then if y.b = t.b then if y.c = t.c then Result.ok (Next.value (Value.bool true)) W else Result.ok (Next.value (Value.bool false)) W else Result.ok (Next.value (Value.bool false)) W else Result.ok (Next.value (Value.bool false)) W) = Result.ok (Next.value (Value.bool b)) W := by
  unfold EqT at h
  rw [Tn.eq_iff] at h
  cases b <;> by_cases hp : y.a = t.a <;> by_cases hq : y.b = t.b <;> by_cases hr : y.c = t.c <;> simp_all
theorem if3f {y t : Tn} (h : EqT false y t) : y.a = t.a → y.b = t.b → ¬ y.c = t.c := fun a b c => by
  unfold EqT at h
  exact absurd (h.2 ((Tn.eq_iff y t).2 ⟨a, b, c⟩)) (by simp)
theorem flat_take {α : Type} {cs : α → List Value} {k : Nat} (hk : ∀ x, (cs x).length = k) : ∀ (l : List α) (n : Nat), (l.take n).flatMap cs = (l.flatMap cs).take (n * k)
  | [], n => by simp
  | a :: l, 0 => by simp
  | a :: l, n + 1 => by
    rw [List.take_succ_cons, List.flatMap_cons, List.flatMap_cons, flat_take hk l n, List.take_append, hk, List.take_of_length_le (l := cs a) (by rw [hk, Nat.succ_mul]; omega)]
    congr 2
    rw [Nat.succ_mul]; omega
theorem flat_drop {α : Type} {cs : α → List Value} {k : Nat} (hk : ∀ x, (cs x).length = k) : ∀ (l : List α) (n : Nat), (l.drop n).flatMap cs = (l.flatMap cs).drop (n * k)
  | [], n => by simp
  | a :: l, 0 => by simp
  | a :: l, n + 1 => by
    rw [List.drop_succ_cons, List.flatMap_cons, flat_drop hk l n, List.drop_append, hk, List.drop_of_length_le (l := cs a) (by rw [hk, Nat.succ_mul]; omega), List.nil_append]
    congr 1
    rw [Nat.succ_mul]; omega
theorem cut_rd {w : World} {A : Option Addr} {out : List Tn} (h : Rd w A (out.flatMap Tn.cs)) (j c : Nat) (hc : out.length ≤ c) : Rd w (if c = j then A else A.map (·.add (j * 3))) ((out.drop j).flatMap Tn.cs) := by
  split
  · rw [List.drop_of_length_le (by omega)]; exact Rd.nil
  · rw [flat_drop Tn.cs_len]; exact h.drop _
theorem put_flat (a : List Tn) (t : Tn) (b : List Tn) : (a.flatMap Tn.cs ++ t.cs) ++ b.flatMap Tn.cs = (a ++ [t] ++ b).flatMap Tn.cs := by simp
set_option maxHeartbeats 8000000 in
theorem rsortT_calls (A : Option Addr) (c : Nat) (xs : List Tn) (w : World) (hb : RdE Tn.cs w A xs) (hl : xs.length ≤ 100000) :
    Calls Try.prog 63 #[.slice A xs.length c] w fun e w' => ∃ A' c', e = .returned (.slice A' (sortT xs).length c') ∧ OwnV w' w.heap.size 93 3 A' (sortT xs).length c' ((sortT xs).flatMap Tn.cs) ∧ Ext w w' := by
  have Hb := Lib.hid hb
  have HFIN : Hid (∀ out, StrictOf xs out → out = sortT xs) := fun out h => h.eq
  clear hb
  go_enter Try.func63, Try.ntmps63
  go_wp2_with fail
  go_loopw [3, 4] (fun o i wr => ∃ k : Nat, ∃ A3 c3, ∃ out : List Tn, k ≤ xs.length ∧ i = .int .i64 (k : Int) ∧ o = .slice A3 out.length c3 ∧ out.length ≤ k ∧ StrictOf (xs.take k) out ∧ OwnV wr w.heap.size 93 3 A3 out.length c3 (out.flatMap Tn.cs) ∧ Ext w wr) (fun _ i _ => xs.length - (intOf i).toNat)
  case atStart => exact ⟨0, none, 0, [], by omega, rfl, rfl, Nat.le_refl _, by rw [List.take_zero]; exact StrictOf.nil, OwnV.nil _ _ _ _, Ext.refl _⟩
  case round =>
    obtain ⟨k, A3, c3, out, hk, rfl, rfl, hol, hst, o3, e3⟩ := hrel
    have HST := Lib.hid hst
    have O3 := Lib.hid o3
    have E3 := Lib.hid e3
    have HOL := Lib.hid hol
    clear hst o3 e3 hol
    by_cases hlt : k < xs.length
    · have k1 : (k : Int) < (xs.length : Int) := by omega
      have hol : out.length ≤ 100000 := by have := HOL.out; omega
      have hcap : out.length ≤ c3 := O3.out.cap
      have hcm : c3 ≤ 9223372036854775807 := O3.out.capmax
      have HT : Hid (xs.take (k + 1) = xs.take k ++ [xs[k]]) := List.take_succ_eq_append_getElem hlt
      have HXC : Hid (∃ ad, A = some ad ∧ ∀ W, Ext wr W → W.cell? (ad.add (k * 3)) = some (.int .i64 xs[k].a) ∧ W.cell? ⟨(ad.add (k * 3)).block, (ad.add (k * 3)).off + 1, none⟩ = some (.int .i64 xs[k].b) ∧ W.cell? ⟨(ad.add (k * 3)).block, (ad.add (k * 3)).off + 2, none⟩ = some (.int .i64 xs[k].c)) := by
        obtain ⟨ad, ha, _⟩ := RdE.three (show RdE Tn.cs wr A xs from Hb.out.ext E3.out) hlt
        refine ⟨ad, ha, fun W hW => ?_⟩
        obtain ⟨ad', ha', h⟩ := RdE.three (show RdE Tn.cs W A xs from Hb.out.ext (E3.out.trans hW)) hlt
        rw [ha] at ha'
        cases ha'
        exact h
      obtain ⟨ad, rfl, hxc⟩ := HXC.out
      have HXC2 := Lib.hid hxc
      clear HXC hxc
      generalize xs[k] = t at *
      obtain ⟨wA, rfl⟩ : ∃ v, v = wr := ⟨wr, rfl⟩
      go_wp2_with fail
      go_loopw [5] (fun p wr2 => ∃ j : Nat, j ≤ out.length ∧ p = .int .i64 (j : Int) ∧ Ext wA wr2 ∧ ∀ (i : Nat) (hi : i < out.length), i < j → ltT out[i] t) (fun p _ => out.length - (intOf p).toNat)
      case atStart => exact ⟨0, by omega, rfl, Ext.refl _, fun i hi h => absurd h (Nat.not_lt_zero _)⟩
      case round =>
        obtain ⟨j, hj, rfl, e4, hr⟩ := hrel
        have HR := Lib.hid hr
        have E4 := Lib.hid e4
        have O4 := Lib.hid (O3.out.ext e4)
        have D4 := Lib.hid (E3.out.trans e4)
        have X4 : Hid (∀ W, Ext wr W → _) := fun W e => HXC2.out W (E4.out.trans e)
        clear hr e4
        by_cases hjl : j < out.length
        · have j1 : (j : Int) < (out.length : Int) := by omega
          have HRD : Hid (Rd wr A3 ((out.take j).flatMap Tn.cs)) := by
            show Rd _ _ _
            rw [flat_take Tn.cs_len]
            exact O4.out.rd.take _
          have HYC : Hid (∃ ad, A3 = some ad ∧ ∀ W, Ext wr W → W.cell? (ad.add (j * 3)) = some (.int .i64 out[j].a) ∧ W.cell? ⟨(ad.add (j * 3)).block, (ad.add (j * 3)).off + 1, none⟩ = some (.int .i64 out[j].b) ∧ W.cell? ⟨(ad.add (j * 3)).block, (ad.add (j * 3)).off + 2, none⟩ = some (.int .i64 out[j].c)) := by
            obtain ⟨ad, ha, _⟩ := RdE.three (show RdE Tn.cs wr A3 out from O4.out.rd) hjl
            refine ⟨ad, ha, fun W hW => ?_⟩
            obtain ⟨ad', ha', h⟩ := RdE.three (show RdE Tn.cs W A3 out from O4.out.rd.ext hW) hjl
            rw [ha] at ha'
            cases ha'
            exact h
          have HRC : Hid (∀ W, Ext wr W → Calls Try.prog 97 #[.agg #[.int .i64 out[j].a, .int .i64 out[j].b, .int .i64 out[j].c], .agg #[.int .i64 t.a, .int .i64 t.b, .int .i64 t.c]] W (RetV W (.bool (decide (ltT out[j] t))))) := fun W _ => tless_calls _ _ W
          have HLT : Hid (ltT out[j] t → ∀ (i : Nat) (hi : i < out.length), i < j + 1 → ltT out[i] t) := fun h i hi hij => by
            by_cases e : i = j
            · subst e; exact h
            · exact HR.out i hi (by omega)
          have HGE : Hid (¬ ltT out[j] t → out[j] ≠ t → StrictOf (xs.take k ++ [t]) (out.take j ++ [t] ++ out.drop j)) := fun h1 h2 => HST.out.put hj HR.out (fun hq => by
            rcases ltT_tri out[j] t with q | q | q
            · exact absurd q h1
            · exact absurd q h2
            · exact q)
          have HEQ : Hid (out[j] = t → StrictOf (xs.take k ++ [t]) out) := fun h => HST.out.there (by rw [← h]; exact List.getElem_mem hjl)
          obtain ⟨ad3, hA3, hyc⟩ := HYC.out
          have HYC2 := Lib.hid hyc
          clear HYC hyc
          generalize out[j] = y at *
          by_cases hb : ltT y t
          · have HLT2 := Lib.hid (HLT.out hb)
            rw [decide_eq_true hb] at HRC
            clear HGE HEQ HLT hb
            subst hA3
            have KS : Hid (∀ W, Ext wr W → _ ∧ _ ∧ True) := fun W e => ⟨HYC2.out W e, X4.out W e, trivial⟩
            go_wp2_with fail
            refine wp_region_quietE wr (Ext.refl _) (by kernel_rfl) (by kernel_rfl) ?_
            repeat (first | (apply wpq_skip; (focus rfl); (try simp only [Act.put, List.setIfInBounds_toArray, List.set_cons_zero, List.set_cons_succ])) | ((with_reducible show QGoal _ _ _ _ ({ dst := _, op := Op.call { callee := Callee.value (Operand.func 97), args := _, argTypes := _ }, type := _, pos := _, after := _, guard := _ } :: _) _); apply wpq_call (hc := HRC.out); (focus rfl); (focus (intro W hW; go_simp; (first | done | with_reducible rfl))); (try simp only [Act.put, List.setIfInBounds_toArray, List.set_cons_zero, List.set_cons_succ])) | (apply wpq_take; (focus rfl); (focus (intro W hW; obtain ⟨⟨y0, y1, y2⟩, ⟨x0, x1, x2⟩, hqq⟩ := KS.out W hW; go_simp; (first | done | with_reducible rfl))); (try simp only [Act.put, List.setIfInBounds_toArray, List.set_cons_zero, List.set_cons_succ])))
            refine wpq_nil ?_
            intro w5 e5
            go_wp2_with fail
            go_roundw
            case rel => exact ⟨j + 1, by omega, by go_num, E4.out.trans e5, HLT2.out⟩
            case measure => simp [intOf]; omega
          · rw [decide_eq_false hb] at HRC
            by_cases hyt : y = t
            · have HEQ2 := Lib.hid (HEQ.out hyt)
              have HB : Hid (EqT true y t) := ⟨fun _ => hyt, fun _ => rfl⟩
              clear HGE HEQ HLT hb hyt
              subst hA3
              have KS : Hid (∀ W, Ext wr W → _ ∧ _ ∧ True) := fun W e => ⟨HYC2.out W e, X4.out W e, trivial⟩
              go_wp2_with fail
              refine wp_region_quietE wr (Ext.refl _) (by kernel_rfl) (by kernel_rfl) ?_
              repeat (first | (apply wpq_skip; (focus rfl); (try simp only [Act.put, List.setIfInBounds_toArray, List.set_cons_zero, List.set_cons_succ])) | ((with_reducible show QGoal _ _ _ _ ({ dst := _, op := Op.call { callee := Callee.value (Operand.func 97), args := _, argTypes := _ }, type := _, pos := _, after := _, guard := _ } :: _) _); apply wpq_call (hc := HRC.out); (focus rfl); (focus (intro W hW; go_simp; (first | done | with_reducible rfl))); (try simp only [Act.put, List.setIfInBounds_toArray, List.set_cons_zero, List.set_cons_succ])) | (apply wpq_take; (focus rfl); (focus (intro W hW; obtain ⟨⟨y0, y1, y2⟩, ⟨x0, x1, x2⟩, hqq⟩ := KS.out W hW; go_simp; (first | done | with_reducible rfl))); (try simp only [Act.put, List.setIfInBounds_toArray, List.set_cons_zero, List.set_cons_succ])))
              refine wpq_nil ?_
              intro w5 e5
              go_wp2_with fail
              refine wp_region_quietE wr e5 (by kernel_rfl) (by kernel_rfl) ?_
              repeat (first | (apply wpq_skip; (focus rfl); (try simp only [Act.put, List.setIfInBounds_toArray, List.set_cons_zero, List.set_cons_succ])) | ((with_reducible show QGoal _ _ _ _ ({ dst := _, op := Op.binOp BinOp.eql 93 _ _ _, type := _, pos := _, after := _, guard := _ } :: _) _); apply wpq_take (v := .bool true); (focus rfl); (focus (intro W hW; go_simp; (first | exact if3 true HB.out | exact if3f HB.out))); (try simp only [Act.put, List.setIfInBounds_toArray, List.set_cons_zero, List.set_cons_succ])) | (apply wpq_take; (focus rfl); (focus (intro W hW; obtain ⟨⟨y0, y1, y2⟩, ⟨x0, x1, x2⟩, hqq⟩ := KS.out W hW; go_simp; (first | done | with_reducible rfl))); (try simp only [Act.put, List.setIfInBounds_toArray, List.set_cons_zero, List.set_cons_succ])))
              refine wpq_nil ?_
              intro w6 e6
              go_wp2_with fail
              go_roundw
              case rel => exact ⟨k + 1, some ad3, c3, out, by omega, by go_num, rfl, by have := HOL.out; omega, by rw [HT.out]; exact HEQ2.out, O4.out.ext e6, D4.out.trans e6⟩
              case measure => simp [intOf]; omega
            · have HPT := Lib.hid (HGE.out hb hyt)
              have HB : Hid (EqT false y t) := ⟨(fun h => by cases h), fun h => absurd h hyt⟩
              clear HGE HEQ HLT hb hyt
              subst hA3
              have KS : Hid (∀ W, Ext wr W → _ ∧ _ ∧ True) := fun W e => ⟨HYC2.out W e, X4.out W e, trivial⟩
              go_wp2_with fail
              refine wp_region_quietE wr (Ext.refl _) (by kernel_rfl) (by kernel_rfl) ?_
              repeat (first | (apply wpq_skip; (focus rfl); (try simp only [Act.put, List.setIfInBounds_toArray, List.set_cons_zero, List.set_cons_succ])) | ((with_reducible show QGoal _ _ _ _ ({ dst := _, op := Op.call { callee := Callee.value (Operand.func 97), args := _, argTypes := _ }, type := _, pos := _, after := _, guard := _ } :: _) _); apply wpq_call (hc := HRC.out); (focus rfl); (focus (intro W hW; go_simp; (first | done | with_reducible rfl))); (try simp only [Act.put, List.setIfInBounds_toArray, List.set_cons_zero, List.set_cons_succ])) | (apply wpq_take; (focus rfl); (focus (intro W hW; obtain ⟨⟨y0, y1, y2⟩, ⟨x0, x1, x2⟩, hqq⟩ := KS.out W hW; go_simp; (first | done | with_reducible rfl))); (try simp only [Act.put, List.setIfInBounds_toArray, List.set_cons_zero, List.set_cons_succ])))
              refine wpq_nil ?_
              intro w5 e5
              go_wp2_with fail
              refine wp_region_quietE wr e5 (by kernel_rfl) (by kernel_rfl) ?_
              repeat (first | (apply wpq_skip; (focus rfl); (try simp only [Act.put, List.setIfInBounds_toArray, List.set_cons_zero, List.set_cons_succ])) | ((with_reducible show QGoal _ _ _ _ ({ dst := _, op := Op.binOp BinOp.eql 93 _ _ _, type := _, pos := _, after := _, guard := _ } :: _) _); apply wpq_take (v := .bool false); (focus rfl); (focus (intro W hW; go_simp; (first | exact if3 false HB.out | exact if3f HB.out))); (try simp only [Act.put, List.setIfInBounds_toArray, List.set_cons_zero, List.set_cons_succ])) | (apply wpq_take; (focus rfl); (focus (intro W hW; obtain ⟨⟨y0, y1, y2⟩, ⟨x0, x1, x2⟩, hqq⟩ := KS.out W hW; go_simp; (first | done | with_reducible rfl))); (try simp only [Act.put, List.setIfInBounds_toArray, List.set_cons_zero, List.set_cons_succ])))
              refine wpq_nil ?_
              intro w6 e6
              obtain ⟨A3, hA3⟩ : ∃ A3, some ad3 = A3 := ⟨_, rfl⟩
              rw [hA3] at O4 HRD
              rw [hA3]
              have HLN : Hid ((out.take j ++ [t] ++ out.drop j).length = out.length + 1) := (by show _ = _; rw [List.length_append, List.length_append, List.length_take, List.length_drop, Nat.min_eq_left hj, List.length_singleton]; omega); have HFL : Hid (((out.take j).flatMap Tn.cs).length = j * 3) := (by show _ = _; rw [flat_length Tn.cs_len, List.length_take, Nat.min_eq_left hj]); have HFD : Hid (((out.drop j).flatMap Tn.cs).length = (out.length - j) * 3) := (by show _ = _; rw [flat_length Tn.cs_len, List.length_drop]); have E6 := Lib.hid e6; have D6 := Lib.hid (D4.out.trans e6); have R6 := Lib.hid (HRD.out.ext e6); have C6 := Lib.hid (cut_rd (O4.out.ext e6).rd j c3 hcap); obtain ⟨x0, x1, x2⟩ := X4.out _ e6; clear e5 e6
              go_wp2_with (first | (at_builtin; refine appN _ rfl (.tmp 45) (.tmp 48) 91 rfl 93 (.agg #[.int .i64 0, .int .i64 0, .int .i64 0]) 3 24 Try.underlying91 info_turn rfl (by decide) w6.heap.size none 0 0 [] rfl A3 j c3 ((out.take j).flatMap Tn.cs) rfl j ((out.take j).flatMap Tn.cs) ?_ (Nat.zero_add j) rfl (OwnV.nil _ _ _ _) HFL.out R6.out (tn_one _) (by omega) (by omega) (Nat.le_refl _); intro A7 c7 w7 h7 g7 b7; have E7 := Lib.hid (grown_ext g7); have O7 := Lib.hid h7; have R7 := Lib.hid (X4.out _ (E6.out.trans E7.out)); clear h7 g7 b7 x0 x1 x2; obtain ⟨x0, x1, x2⟩ := R7.out) | (at_builtin; refine appN _ rfl (.tmp 50) (.tmp 55) 91 rfl 93 (.agg #[.int .i64 0, .int .i64 0, .int .i64 0]) 3 24 Try.underlying91 info_turn rfl (by decide) w6.heap.size A7 j c7 ((out.take j).flatMap Tn.cs) rfl (some ⟨w7.heap.size, 0, none⟩) 1 1 t.cs rfl (j + 1) ((out.take j).flatMap Tn.cs ++ t.cs) ?_ rfl rfl (O7.out.ext ((Ext.refl _).alloc _)) rfl (Arr.new _ _ _).rd (tn_one1 _) (by omega) (by omega) (by have := E7.out.size; simp; omega); intro A8 c8 w8 h8 g8 b8; have O8 := Lib.hid h8; have E8 := Lib.hid (own_base E7.out O7.out ((Ext.refl _).alloc _) (Nat.le_refl _) g8); clear h8 g8 b8 x0 x1 x2) | (at_builtin; refine appN _ rfl (.tmp 57) (.tmp 60) 91 rfl 93 (.agg #[.int .i64 0, .int .i64 0, .int .i64 0]) 3 24 Try.underlying91 info_turn rfl (by decide) w6.heap.size A8 (j + 1) c8 ((out.take j).flatMap Tn.cs ++ t.cs) rfl _ (out.length - j) _ ((out.drop j).flatMap Tn.cs) rfl (out.length + 1) ((out.take j ++ [t] ++ out.drop j).flatMap Tn.cs) ?_ (by omega) (put_flat _ _ _) O8.out HFD.out (by first | exact C6.out.ext E8.out | (have h9 := C6.out.ext E8.out; rwa [if_neg (by omega)] at h9)) (tn_one _) (by omega) (by omega) E8.out.size; intro A9 c9 w9 h9 g9 b9; have O9 := Lib.hid h9; have E9 := Lib.hid (own_base E8.out O8.out (Ext.refl _) (Nat.le_refl _) g9); clear h9 g9 b9))
              go_roundw
              case rel => exact ⟨k + 1, A9, c9, out.take j ++ [t] ++ out.drop j, by omega, by go_num, by rw [HLN.out], by rw [HLN.out]; have := HOL.out; omega, by rw [HT.out]; exact HPT.out, by rw [HLN.out]; exact O9.out.lower (Nat.le_trans D6.out.size (Nat.le_refl _)), D6.out.trans E9.out⟩
              case measure => simp [intOf]; omega
        · have j1 : ¬ (j : Int) < (out.length : Int) := by omega
          have HRD : Hid (Rd wr A3 ((out.take j).flatMap Tn.cs)) := by
            show Rd _ _ _
            rw [flat_take Tn.cs_len]
            exact O4.out.rd.take _
          have HPT := Lib.hid (HST.out.put hj HR.out (fun hq => absurd hq hjl))
          have KS : Hid (∀ W, Ext wr W → (True ∧ True ∧ True) ∧ _ ∧ True) := fun W e => ⟨⟨trivial, trivial, trivial⟩, X4.out W e, trivial⟩
          go_wp2_with fail
          refine wp_region_quietE wr (Ext.refl _) (by kernel_rfl) (by kernel_rfl) ?_
          repeat (first | (apply wpq_skip; (focus rfl); (try simp only [Act.put, List.setIfInBounds_toArray, List.set_cons_zero, List.set_cons_succ])) | ((with_reducible show QGoal _ _ _ _ ({ dst := _, op := Op.call { callee := Callee.value (Operand.func 97), args := _, argTypes := _ }, type := _, pos := _, after := _, guard := _ } :: _) _); apply wpq_call (hc := HRC.out); (focus rfl); (focus (intro W hW; go_simp; (first | done | with_reducible rfl))); (try simp only [Act.put, List.setIfInBounds_toArray, List.set_cons_zero, List.set_cons_succ])) | (apply wpq_take; (focus rfl); (focus (intro W hW; obtain ⟨⟨y0, y1, y2⟩, ⟨x0, x1, x2⟩, hqq⟩ := KS.out W hW; go_simp; (first | done | with_reducible rfl))); (try simp only [Act.put, List.setIfInBounds_toArray, List.set_cons_zero, List.set_cons_succ])))
          refine wpq_nil ?_
          intro w5 e5
          go_wp2_with fail
          refine wp_region_quietE wr e5 (by kernel_rfl) (by kernel_rfl) ?_
          repeat (first | (apply wpq_skip; (focus rfl); (try simp only [Act.put, List.setIfInBounds_toArray, List.set_cons_zero, List.set_cons_succ])) | ((with_reducible show QGoal _ _ _ _ ({ dst := _, op := Op.call { callee := Callee.value (Operand.func 97), args := _, argTypes := _ }, type := _, pos := _, after := _, guard := _ } :: _) _); apply wpq_call (hc := HRC.out); (focus rfl); (focus (intro W hW; go_simp; (first | done | with_reducible rfl))); (try simp only [Act.put, List.setIfInBounds_toArray, List.set_cons_zero, List.set_cons_succ])) | (apply wpq_take; (focus rfl); (focus (intro W hW; obtain ⟨⟨y0, y1, y2⟩, ⟨x0, x1, x2⟩, hqq⟩ := KS.out W hW; go_simp; (first | done | with_reducible rfl))); (try simp only [Act.put, List.setIfInBounds_toArray, List.set_cons_zero, List.set_cons_succ])))
          refine wpq_nil ?_
          intro w6 e6
          have HLN : Hid ((out.take j ++ [t] ++ out.drop j).length = out.length + 1) := (by show _ = _; rw [List.length_append, List.length_append, List.length_take, List.length_drop, Nat.min_eq_left hj, List.length_singleton]; omega); have HFL : Hid (((out.take j).flatMap Tn.cs).length = j * 3) := (by show _ = _; rw [flat_length Tn.cs_len, List.length_take, Nat.min_eq_left hj]); have HFD : Hid (((out.drop j).flatMap Tn.cs).length = (out.length - j) * 3) := (by show _ = _; rw [flat_length Tn.cs_len, List.length_drop]); have E6 := Lib.hid e6; have D6 := Lib.hid (D4.out.trans e6); have R6 := Lib.hid (HRD.out.ext e6); have C6 := Lib.hid (cut_rd (O4.out.ext e6).rd j c3 hcap); obtain ⟨x0, x1, x2⟩ := X4.out _ e6; clear e5 e6
          go_wp2_with (first | (at_builtin; refine appN _ rfl (.tmp 45) (.tmp 48) 91 rfl 93 (.agg #[.int .i64 0, .int .i64 0, .int .i64 0]) 3 24 Try.underlying91 info_turn rfl (by decide) w6.heap.size none 0 0 [] rfl A3 j c3 ((out.take j).flatMap Tn.cs) rfl j ((out.take j).flatMap Tn.cs) ?_ (Nat.zero_add j) rfl (OwnV.nil _ _ _ _) HFL.out R6.out (tn_one _) (by omega) (by omega) (Nat.le_refl _); intro A7 c7 w7 h7 g7 b7; have E7 := Lib.hid (grown_ext g7); have O7 := Lib.hid h7; have R7 := Lib.hid (X4.out _ (E6.out.trans E7.out)); clear h7 g7 b7 x0 x1 x2; obtain ⟨x0, x1, x2⟩ := R7.out) | (at_builtin; refine appN _ rfl (.tmp 50) (.tmp 55) 91 rfl 93 (.agg #[.int .i64 0, .int .i64 0, .int .i64 0]) 3 24 Try.underlying91 info_turn rfl (by decide) w6.heap.size A7 j c7 ((out.take j).flatMap Tn.cs) rfl (some ⟨w7.heap.size, 0, none⟩) 1 1 t.cs rfl (j + 1) ((out.take j).flatMap Tn.cs ++ t.cs) ?_ rfl rfl (O7.out.ext ((Ext.refl _).alloc _)) rfl (Arr.new _ _ _).rd (tn_one1 _) (by omega) (by omega) (by have := E7.out.size; simp; omega); intro A8 c8 w8 h8 g8 b8; have O8 := Lib.hid h8; have E8 := Lib.hid (own_base E7.out O7.out ((Ext.refl _).alloc _) (Nat.le_refl _) g8); clear h8 g8 b8 x0 x1 x2) | (at_builtin; refine appN _ rfl (.tmp 57) (.tmp 60) 91 rfl 93 (.agg #[.int .i64 0, .int .i64 0, .int .i64 0]) 3 24 Try.underlying91 info_turn rfl (by decide) w6.heap.size A8 (j + 1) c8 ((out.take j).flatMap Tn.cs ++ t.cs) rfl _ (out.length - j) _ ((out.drop j).flatMap Tn.cs) rfl (out.length + 1) ((out.take j ++ [t] ++ out.drop j).flatMap Tn.cs) ?_ (by omega) (put_flat _ _ _) O8.out HFD.out (by first | exact C6.out.ext E8.out | (have h9 := C6.out.ext E8.out; rwa [if_neg (by omega)] at h9)) (tn_one _) (by omega) (by omega) E8.out.size; intro A9 c9 w9 h9 g9 b9; have O9 := Lib.hid h9; have E9 := Lib.hid (own_base E8.out O8.out (Ext.refl _) (Nat.le_refl _) g9); clear h9 g9 b9))
          go_roundw
          case rel => exact ⟨k + 1, A9, c9, out.take j ++ [t] ++ out.drop j, by omega, by go_num, by rw [HLN.out], by rw [HLN.out]; have := HOL.out; omega, by rw [HT.out]; exact HPT.out, by rw [HLN.out]; exact O9.out.lower (Nat.le_trans D6.out.size (Nat.le_refl _)), D6.out.trans E9.out⟩
          case measure => simp [intOf]; omega
    · have HE : Hid (out = sortT xs) := HFIN.out out (by have := HST.out; rwa [List.take_of_length_le (by omega)] at this)
      have hkn : ¬ (k : Int) < (xs.length : Int) := by omega
      go_wp2_with fail
      go_ret
      have he := HE.out
      subst he
      exact ⟨A3, c3, rfl, O3.out, E3.out⟩
end Go.Proofs.Ytlgngnkaiidbeaa
