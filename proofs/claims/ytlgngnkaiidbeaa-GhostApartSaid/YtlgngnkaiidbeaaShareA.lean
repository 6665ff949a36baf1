/- cmp.Compare[int], cmp.Or[int]. -/
import Derived.Test.YtlgngnkaiidbeaaMem
import Derived.Test.YtlgngnkaiidbeaaShelf
import Derived.Lib.Small

set_option maxRecDepth 100000
set_option linter.unusedVariables false
set_option linter.unusedSimpArgs false
namespace Go.Proofs.Ytlgngnkaiidbeaa
open Go.RowKit

theorem cmpI_calls (a b : Int) (w : World) : Calls Try.prog 96 #[.int .i64 a, .int .i64 b] w fun e w' => e = .returned (.int .i64 (Lib.compareInt a b)) ∧ w = w' := by
  by_cases h1 : a < b
  · have E : Hid (Lib.compareInt a b = -1) := by show _ = _; unfold Lib.compareInt; simp [h1]
    have o1 : (a != a) = false := by simp
    have o2 : (b != b) = false := by simp
    go_enter Try.func96, Try.ntmps96
    go_wp2
    go_ret
    exact ⟨congrArg (fun v => Ending.returned (.int .i64 v)) E.out.symm, rfl⟩
  · have o1 : (a != a) = false := by simp
    have o2 : (b != b) = false := by simp
    by_cases h2 : b < a
    · have E : Hid (Lib.compareInt a b = 1) := by show _ = _; unfold Lib.compareInt; simp [h1, h2]
      go_enter Try.func96, Try.ntmps96
      go_wp2
      go_ret
      exact ⟨congrArg (fun v => Ending.returned (.int .i64 v)) E.out.symm, rfl⟩
    · have E : Hid (Lib.compareInt a b = 0) := by show _ = _; unfold Lib.compareInt; simp [h1, h2]
      go_enter Try.func96, Try.ntmps96
      go_wp2
      go_ret
      exact ⟨congrArg (fun v => Ending.returned (.int .i64 v)) E.out.symm, rfl⟩

/-- the first that is not 0 -/
def orL : List Int → Int
  | [] => 0
  | x :: xs => if x = 0 then orL xs else x
def nv (x : Int) : Value := .int .i64 x
theorem orI_calls (zs : List Int) (A : Option Addr) (c : Nat) (w : World) (hl : zs.length ≤ 1000) (hc : zs.length ≤ c) (hR : Rd w A (zs.map nv)) : Calls Try.prog 95 #[.slice A zs.length c] w fun e w' => e = .returned (.int .i64 (orL zs)) ∧ w = w' := by
  have HR := Lib.hid hR
  clear hR
  go_enter Try.func95, Try.ntmps95
  go_wp2_with fail
  go_loop [8] (fun i => ∃ k : Nat, i = .int .i64 (k : Int) ∧ k ≤ zs.length ∧ orL (zs.drop k) = orL zs) (fun i => (zs.length - intOf i).toNat)
  case atStart => exact ⟨0, rfl, by omega, rfl⟩
  case round =>
    obtain ⟨k, rfl, hk, hor⟩ := hrel
    have HO := Lib.hid hor
    clear hor
    by_cases hlt : k < zs.length
    · obtain ⟨ad, rfl, hcell⟩ := HR.out.at_ (k := k) (by rw [List.length_map]; exact hlt)
      rw [List.getElem_map] at hcell
      replace hcell : w.cell? (ad.add k) = some (.int .i64 zs[k]) := hcell
      have HD : Hid (orL (zs.drop k) = if zs[k] = 0 then orL (zs.drop (k + 1)) else zs[k]) := by
        show _ = _
        rw [List.drop_eq_getElem_cons hlt]; rfl
      generalize zs[k] = z at *
      by_cases hz : z = 0
      · subst hz
        have HD2 := Lib.hid (HD.out.symm.trans HO.out)
        go_wp2_with fail
        go_round
        case rel => exact ⟨k + 1, by go_num, by omega, HD2.out⟩
        case measure => simp [intOf]; omega
      · have hzb : (z != 0) = true := by simpa using hz
        have HD2 := Lib.hid (HO.out.symm.trans (HD.out.trans (if_neg hz)))
        go_wp2_with fail
        go_ret
        rw [HD2.out]
        exact ⟨rfl, rfl⟩
    · have hk2 : k = zs.length := by omega
      subst hk2
      have HZ : Hid (orL zs = 0) := by
        have := HO.out
        rw [List.drop_length] at this
        exact this.symm
      go_wp2_with fail
      go_ret
      rw [HZ.out]
      exact ⟨rfl, rfl⟩
end Go.Proofs.Ytlgngnkaiidbeaa
