/- ref29.Touch. -/
import Derived.Test.YtlgngnkaiidbeaaIdleE
set_option maxRecDepth 100000
set_option linter.unusedVariables false
set_option linter.unusedSimpArgs false
namespace Go.Proofs.Ytlgngnkaiidbeaa
open Go.RowKit Go.Shelf

set_option maxHeartbeats 8000000 in
theorem rtouch_calls (A : Option Addr) (c : Nat) (xs : PL) (a b : Int) (w : World) (hb : RdE rkC w A xs) (hl : xs.length ≤ 90000) :
    Calls Try.prog 48 #[.slice A xs.length c, .int .i64 a, .int .i64 b] w fun e w' => ∃ A' c', e = .returned (.slice A' (touchP xs (a, b)).length c') ∧ OwnV w' w.heap.size 139 3 A' (touchP xs (a, b)).length c' ((touchP xs (a, b)).flatMap rkC) ∧ Ext w w' := by
  have HW := Lib.hid (rwithout_calls A c xs a b w hb (by omega))
  have HLL : Hid ((withoutP xs (a, b)).length ≤ 90000) := Nat.le_trans (without_len xs (a, b)) hl
  have HTP : Hid (touchP xs (a, b) = insP (withoutP xs (a, b)) (a, b)) := rfl
  clear hb hl
  generalize withoutP xs (a, b) = ys at *
  generalize touchP xs (a, b) = zs at *
  go_enter Try.func48, Try.ntmps48
  go_wp2_with fail
  refine HW.out.mono ?_
  rintro e w2 ⟨A1, c1, rfl, o1, e1⟩
  have E1 := Lib.hid e1
  have P1 := Lib.hid (show RdE rkC w2 A1 ys from o1.rd)
  have hl : ys.length ≤ 90000 := HLL.out
  clear o1 e1 HW
  go_wp2_with fail
  go_loopw [7, 8, 9] (fun o dn i wr => ∃ k : Nat, ∃ A3 c3, ∃ out : PL, ∃ d : Bool, k ≤ ys.length ∧ i = .int .i64 (k : Int) ∧ o = .slice A3 out.length c3 ∧ dn = .bool d ∧ out.length ≤ 2 * k ∧ TI (ys.take k) (a, b) d out ∧ OwnV wr w2.heap.size 139 3 A3 out.length c3 (out.flatMap rkC) ∧ Ext w2 wr) (fun _ _ i _ => ys.length - (intOf i).toNat)
  case atStart => exact ⟨0, none, 0, [], false, by omega, rfl, rfl, rfl, Nat.zero_le _, TI.start _, OwnV.nil _ _ _ _, Ext.refl _⟩
  case round =>
    obtain ⟨k, A3, c3, out, d, hk, rfl, rfl, rfl, hol, hst, o3, e3⟩ := hrel
    have HST := Lib.hid hst
    have O3 := Lib.hid o3
    have E3 := Lib.hid e3
    have HOL := Lib.hid hol
    have hol : out.length ≤ 200000 := by omega
    clear hst o3 e3
    by_cases hlt : k < ys.length
    · have k1 : (k : Int) < (ys.length : Int) := by omega
      have HT := Lib.hid (take1 hlt)
      have HXC : Hid (∃ ad, A1 = some ad ∧ ∀ W, Ext w2 W → W.cell? (ad.add (k * 3)) = some (.int .i64 ys[k].1.1) ∧ W.cell? ⟨(ad.add (k * 3)).block, (ad.add (k * 3)).off + 1, none⟩ = some (.int .i64 ys[k].1.2) ∧ W.cell? ⟨(ad.add (k * 3)).block, (ad.add (k * 3)).off + 2, none⟩ = some (.int .i64 (ys[k].2 : Int))) := by
        obtain ⟨ad, ha, _⟩ := RdE.rk P1.out hlt
        refine ⟨ad, ha, fun W hW => ?_⟩
        obtain ⟨ad', ha', h⟩ := RdE.rk (show RdE rkC W A1 ys from P1.out.ext hW) hlt
        rw [ha] at ha'
        cases ha'
        exact h
      obtain ⟨ad, rfl, hx⟩ := HXC.out
      have HX := Lib.hid hx
      clear HXC hx
      generalize ys[k] = q at *
      obtain ⟨⟨x, y⟩, g⟩ := q
      dsimp only at HX
      obtain ⟨x0, x1, x2⟩ := HX.out _ E3.out
      cases d with
      | true =>
        have HON : Hid (TI (ys.take (k + 1)) (a, b) true (out ++ [((x, y), g)])) := by rw [HT.out]; exact HST.out.on _
        clear HST HT
        go_wp2_with (at_builtin; refine appN _ rfl (.tmp 55) (.tmp 60) 75 rfl 139 (.agg #[.int .i64 0, .int .i64 0, .int .i64 0]) 3 24 Try.underlying75 info_rk rfl (by decide) w2.heap.size A3 out.length c3 (out.flatMap rkC) rfl (some ⟨wr.heap.size, 0, none⟩) 1 1 (rkC ((x, y), g)) rfl (out.length + 1) (out.flatMap rkC ++ rkC ((x, y), g)) ?_ rfl rfl (O3.out.ext ((Ext.refl _).alloc _)) rfl (Arr.new _ _ _).rd (rk_one1 ((x, y), g)) (by omega) (by omega) (by have := E3.out.size; simp; omega); intro A8 c8 w8 h8 g8 b8; have O8 := Lib.hid h8; have E8 := Lib.hid ((E3.out.trans ((Ext.refl _).alloc _)).grown g8 (fun k hk => (O3.out.base_ k hk).1)); clear h8 g8 b8)
        go_roundw
        case rel => exact ⟨k + 1, A8, c8, out ++ [((x, y), g)], true, by omega, by go_num, by simp, rfl, by have := HOL.out; rw [List.length_append, List.length_singleton]; omega, HON.out, by simpa using O8.out, E8.out⟩
        case measure => simp [intOf]; omega
      | false =>
        have HNW : Hid (ltP (a, b) (x, y) → TI (ys.take (k + 1)) (a, b) true (out ++ [((a, b), 0)] ++ [((x, y), g)])) := fun h => by rw [HT.out]; exact HST.out.now h
        have HOF : Hid (¬ ltP (a, b) (x, y) → TI (ys.take (k + 1)) (a, b) false (out ++ [((x, y), g)])) := fun h => by rw [HT.out]; exact HST.out.off h
        clear HST HT
        by_cases h1 : a < x
        · have HNW2 := Lib.hid (HNW.out (.inl h1))
          clear HNW HOF
          go_wp2_with (first | (at_builtin; refine appN _ rfl (.tmp 49) (.tmp 53) 75 rfl 139 (.agg #[.int .i64 0, .int .i64 0, .int .i64 0]) 3 24 Try.underlying75 info_rk rfl (by decide) w2.heap.size A3 out.length c3 (out.flatMap rkC) rfl (some ⟨wr.heap.size, 0, none⟩) 1 1 (rkC ((a, b), 0)) rfl (out.length + 1) (out.flatMap rkC ++ rkC ((a, b), 0)) ?_ rfl rfl (O3.out.ext ((Ext.refl _).alloc _)) rfl (Arr.new _ _ _).rd (rk_one1 ((a, b), 0)) (by omega) (by omega) (by have := E3.out.size; simp; omega); intro A8 c8 w8 h8 g8 b8; have O8 := Lib.hid h8; have E8 := Lib.hid ((E3.out.trans ((Ext.refl _).alloc _)).grown g8 (fun k hk => (O3.out.base_ k hk).1)); clear h8 g8 b8; clear x0 x1 x2; obtain ⟨x0, x1, x2⟩ := HX.out _ E8.out) | (at_builtin; refine appN _ rfl (.tmp 55) (.tmp 60) 75 rfl 139 (.agg #[.int .i64 0, .int .i64 0, .int .i64 0]) 3 24 Try.underlying75 info_rk rfl (by decide) w2.heap.size A8 (out.length + 1) c8 (out.flatMap rkC ++ rkC ((a, b), 0)) rfl (some ⟨w8.heap.size, 0, none⟩) 1 1 (rkC ((x, y), g)) rfl (out.length + 2) (out.flatMap rkC ++ rkC ((a, b), 0) ++ rkC ((x, y), g)) ?_ rfl rfl (O8.out.ext ((Ext.refl _).alloc _)) rfl (Arr.new _ _ _).rd (rk_one1 ((x, y), g)) (by omega) (by omega) (by have := E8.out.size; simp; omega); intro A9 c9 w9 h9 g9 b9; have O9 := Lib.hid h9; have E9 := Lib.hid ((E8.out.trans ((Ext.refl _).alloc _)).grown g9 (fun k hk => (O8.out.base_ k hk).1)); clear h9 g9 b9))
          go_roundw
          case rel => exact ⟨k + 1, A9, c9, out ++ [((a, b), 0)] ++ [((x, y), g)], true, by omega, by go_num, by simp, rfl, by have := HOL.out; simp; omega, HNW2.out, by simpa using O9.out, E9.out⟩
          case measure => simp [intOf]; omega
        · by_cases h2 : x = a
          · subst h2
            by_cases h3 : b < y
            · have HNW2 := Lib.hid (HNW.out (.inr ⟨rfl, h3⟩))
              clear HNW HOF
              go_wp2_with (first | (at_builtin; refine appN _ rfl (.tmp 49) (.tmp 53) 75 rfl 139 (.agg #[.int .i64 0, .int .i64 0, .int .i64 0]) 3 24 Try.underlying75 info_rk rfl (by decide) w2.heap.size A3 out.length c3 (out.flatMap rkC) rfl (some ⟨wr.heap.size, 0, none⟩) 1 1 (rkC ((x, b), 0)) rfl (out.length + 1) (out.flatMap rkC ++ rkC ((x, b), 0)) ?_ rfl rfl (O3.out.ext ((Ext.refl _).alloc _)) rfl (Arr.new _ _ _).rd (rk_one1 ((x, b), 0)) (by omega) (by omega) (by have := E3.out.size; simp; omega); intro A8 c8 w8 h8 g8 b8; have O8 := Lib.hid h8; have E8 := Lib.hid ((E3.out.trans ((Ext.refl _).alloc _)).grown g8 (fun k hk => (O3.out.base_ k hk).1)); clear h8 g8 b8; clear x0 x1 x2; obtain ⟨x0, x1, x2⟩ := HX.out _ E8.out) | (at_builtin; refine appN _ rfl (.tmp 55) (.tmp 60) 75 rfl 139 (.agg #[.int .i64 0, .int .i64 0, .int .i64 0]) 3 24 Try.underlying75 info_rk rfl (by decide) w2.heap.size A8 (out.length + 1) c8 (out.flatMap rkC ++ rkC ((x, b), 0)) rfl (some ⟨w8.heap.size, 0, none⟩) 1 1 (rkC ((x, y), g)) rfl (out.length + 2) (out.flatMap rkC ++ rkC ((x, b), 0) ++ rkC ((x, y), g)) ?_ rfl rfl (O8.out.ext ((Ext.refl _).alloc _)) rfl (Arr.new _ _ _).rd (rk_one1 ((x, y), g)) (by omega) (by omega) (by have := E8.out.size; simp; omega); intro A9 c9 w9 h9 g9 b9; have O9 := Lib.hid h9; have E9 := Lib.hid ((E8.out.trans ((Ext.refl _).alloc _)).grown g9 (fun k hk => (O8.out.base_ k hk).1)); clear h9 g9 b9))
              go_roundw
              case rel => exact ⟨k + 1, A9, c9, out ++ [((x, b), 0)] ++ [((x, y), g)], true, by omega, by go_num, by simp, rfl, by have := HOL.out; simp; omega, HNW2.out, by simpa using O9.out, E9.out⟩
              case measure => simp [intOf]; omega
            · have HOF2 := Lib.hid (HOF.out (by unfold ltP; dsimp only; omega))
              clear HNW HOF
              go_wp2_with (at_builtin; refine appN _ rfl (.tmp 55) (.tmp 60) 75 rfl 139 (.agg #[.int .i64 0, .int .i64 0, .int .i64 0]) 3 24 Try.underlying75 info_rk rfl (by decide) w2.heap.size A3 out.length c3 (out.flatMap rkC) rfl (some ⟨wr.heap.size, 0, none⟩) 1 1 (rkC ((x, y), g)) rfl (out.length + 1) (out.flatMap rkC ++ rkC ((x, y), g)) ?_ rfl rfl (O3.out.ext ((Ext.refl _).alloc _)) rfl (Arr.new _ _ _).rd (rk_one1 ((x, y), g)) (by omega) (by omega) (by have := E3.out.size; simp; omega); intro A8 c8 w8 h8 g8 b8; have O8 := Lib.hid h8; have E8 := Lib.hid ((E3.out.trans ((Ext.refl _).alloc _)).grown g8 (fun k hk => (O3.out.base_ k hk).1)); clear h8 g8 b8)
              go_roundw
              case rel => exact ⟨k + 1, A8, c8, out ++ [((x, y), g)], false, by omega, by go_num, by simp, rfl, by have := HOL.out; rw [List.length_append, List.length_singleton]; omega, HOF2.out, by simpa using O8.out, E8.out⟩
              case measure => simp [intOf]; omega
          · have HOF2 := Lib.hid (HOF.out (by unfold ltP; dsimp only; omega))
            have e2 : (x == a) = false := by simpa using h2
            clear HNW HOF
            go_wp2_with (at_builtin; refine appN _ rfl (.tmp 55) (.tmp 60) 75 rfl 139 (.agg #[.int .i64 0, .int .i64 0, .int .i64 0]) 3 24 Try.underlying75 info_rk rfl (by decide) w2.heap.size A3 out.length c3 (out.flatMap rkC) rfl (some ⟨wr.heap.size, 0, none⟩) 1 1 (rkC ((x, y), g)) rfl (out.length + 1) (out.flatMap rkC ++ rkC ((x, y), g)) ?_ rfl rfl (O3.out.ext ((Ext.refl _).alloc _)) rfl (Arr.new _ _ _).rd (rk_one1 ((x, y), g)) (by omega) (by omega) (by have := E3.out.size; simp; omega); intro A8 c8 w8 h8 g8 b8; have O8 := Lib.hid h8; have E8 := Lib.hid ((E3.out.trans ((Ext.refl _).alloc _)).grown g8 (fun k hk => (O3.out.base_ k hk).1)); clear h8 g8 b8)
            go_roundw
            case rel => exact ⟨k + 1, A8, c8, out ++ [((x, y), g)], false, by omega, by go_num, by simp, rfl, by have := HOL.out; rw [List.length_append, List.length_singleton]; omega, HOF2.out, by simpa using O8.out, E8.out⟩
            case measure => simp [intOf]; omega
    · have k1 : ¬ (k : Int) < (ys.length : Int) := by omega
      cases d with
      | true =>
        have HE : Hid (out = zs) := by have := HST.out; rw [List.take_of_length_le (by omega)] at this; exact this.end1.trans HTP.out.symm
        go_wp2_with fail
        go_ret
        have he := HE.out
        subst he
        exact ⟨A3, c3, rfl, O3.out.lower E1.out.size, E1.out.trans E3.out⟩
      | false =>
        have HE : Hid (out ++ [((a, b), 0)] = zs) := by have := HST.out; rw [List.take_of_length_le (by omega)] at this; exact this.end2.trans HTP.out.symm
        go_wp2_with (at_builtin; refine appN _ rfl (.tmp 64) (.tmp 68) 75 rfl 139 (.agg #[.int .i64 0, .int .i64 0, .int .i64 0]) 3 24 Try.underlying75 info_rk rfl (by decide) w2.heap.size A3 out.length c3 (out.flatMap rkC) rfl (some ⟨wr.heap.size, 0, none⟩) 1 1 (rkC ((a, b), 0)) rfl (out.length + 1) (out.flatMap rkC ++ rkC ((a, b), 0)) ?_ rfl rfl (O3.out.ext ((Ext.refl _).alloc _)) rfl (Arr.new _ _ _).rd (rk_one1 ((a, b), 0)) (by omega) (by omega) (by have := E3.out.size; simp; omega); intro A8 c8 w8 h8 g8 b8; have O8 := Lib.hid h8; have E8 := Lib.hid ((E3.out.trans ((Ext.refl _).alloc _)).grown g8 (fun k hk => (O3.out.base_ k hk).1)); clear h8 g8 b8)
        go_ret
        have he := HE.out
        subst he
        exact ⟨A8, c8, by simp, by simpa using O8.out.lower E1.out.size, E1.out.trans E8.out⟩
end Go.Proofs.Ytlgngnkaiidbeaa
