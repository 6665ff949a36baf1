/- ref29: Find, Without, Touch. -/
import Derived.Test.YtlgngnkaiidbeaaIdleD
import Derived.Test.YtlgngnkaiidbeaaPlainIdle2
set_option maxRecDepth 100000
set_option linter.unusedVariables false
set_option linter.unusedSimpArgs false
namespace Go.Proofs.Ytlgngnkaiidbeaa
open Go.RowKit Go.Shelf

/-- a key of the document, and how many ticks ago it was touched -/
abbrev PE := PK × Nat
def rkC (q : PE) : List Value := [nv q.1.1, nv q.1.2, nv (q.2 : Int)]
theorem rkC_len (q : PE) : (rkC q).length = 3 := rfl
theorem rk_one1 (q : PE) : ∀ u ∈ rkC q, u.oneCell' = true := by
  intro v hv
  simp [rkC] at hv
  rcases hv with rfl | rfl | rfl <;> rfl
theorem info_rk : (Try.prog.info? 139).map (fun i => (i.zero, i.size, i.bytes)) = some (some (.agg #[.int .i64 0, .int .i64 0, .int .i64 0]), 3, 24) := by kernel_rfl
theorem RdE.rk {w : World} {A : Option Addr} {xs : PL} (h : RdE rkC w A xs) {i : Nat} (hi : i < xs.length) : ∃ ad, A = some ad ∧ w.cell? (ad.add (i * 3)) = some (.int .i64 xs[i].1.1) ∧ w.cell? ⟨(ad.add (i * 3)).block, (ad.add (i * 3)).off + 1, none⟩ = some (.int .i64 xs[i].1.2) ∧ w.cell? ⟨(ad.add (i * 3)).block, (ad.add (i * 3)).off + 2, none⟩ = some (.int .i64 (xs[i].2 : Int)) := by
  obtain ⟨ad, ha, hc⟩ := RdE.at_ rkC_len h hi (by decide)
  refine ⟨ad, ha, hc 0 _ rfl, ?_, ?_⟩
  · rw [← add_off _ 1 (by decide)]; exact hc 1 _ rfl
  · rw [← add_off _ 2 (by decide)]; exact hc 2 _ rfl
theorem take1 {α : Type} {xs : List α} {k : Nat} (h : k < xs.length) : xs.take (k + 1) = xs.take k ++ [xs[k]] := List.take_succ_eq_append_getElem h
set_option maxHeartbeats 2000000 in
theorem rfindK_calls (A : Option Addr) (c : Nat) (xs : PL) (a b : Int) (w : World) (hb : RdE rkC w A xs) (hl : xs.length ≤ 100000) :
    Calls Try.prog 50 #[.slice A xs.length c, .int .i64 a, .int .i64 b] w fun e w' => ∃ z : Int, e = .returned (.int .i64 z) ∧ (0 ≤ z ↔ (a, b) ∈ keysP xs) ∧ w = w' := by
  have HB := Lib.hid hb
  clear hb
  go_enter Try.func50, Try.ntmps50
  go_wp2_with fail
  go_loopw [7] (fun i wr => ∃ k : Nat, k ≤ xs.length ∧ i = .int .i64 (k : Int) ∧ (a, b) ∉ keysP (xs.take k) ∧ w = wr) (fun i _ => xs.length - (intOf i).toNat)
  case atStart => exact ⟨0, by omega, rfl, by simp [keysP], rfl⟩
  case round =>
    obtain ⟨k, hk, rfl, hn, rfl⟩ := hrel
    have HN := Lib.hid hn
    clear hn
    by_cases hlt : k < xs.length
    · have k1 : (k : Int) < (xs.length : Int) := by omega
      have HT := Lib.hid (take1 hlt)
      have HM : Hid (xs[k].1 ∈ keysP xs) := List.mem_map_of_mem (f := Prod.fst) (List.getElem_mem hlt)
      obtain ⟨ad, rfl, x0, x1, x2⟩ := RdE.rk HB.out hlt
      generalize xs[k] = q at *
      obtain ⟨⟨x, y⟩, g⟩ := q
      dsimp only at x0 x1 x2
      have HG : Hid (¬ (x = a ∧ y = b) → (a, b) ∉ keysP (xs.take (k + 1))) := fun h => by
        rw [HT.out]
        exact find_snoc HN.out (fun e => h (by injection e with e1 e2; exact ⟨e1, e2⟩))
      by_cases h1 : x = a
      · by_cases h2 : y = b
        · subst h1 h2
          go_wp2_with fail
          go_ret
          exact ⟨(k : Int), rfl, ⟨fun _ => HM.out, fun _ => Int.natCast_nonneg k⟩, rfl⟩
        · have HG2 := Lib.hid (HG.out (fun h => h2 h.2))
          have e2 : (y == b) = false := by simpa using h2
          subst h1
          clear HG HM
          go_wp2_with fail
          go_roundw
          case rel => exact ⟨k + 1, by omega, by go_num, HG2.out, trivial⟩
          case measure => simp [intOf]; omega
      · have HG2 := Lib.hid (HG.out (fun h => h1 h.1))
        have e1 : (x == a) = false := by simpa using h1
        clear HG HM
        go_wp2_with fail
        go_roundw
        case rel => exact ⟨k + 1, by omega, by go_num, HG2.out, trivial⟩
        case measure => simp [intOf]; omega
    · have k1 : ¬ (k : Int) < (xs.length : Int) := by omega
      have HN2 : Hid ((a, b) ∉ keysP xs) := by have := HN.out; rwa [List.take_of_length_le (by omega)] at this
      go_wp2_with fail
      go_ret
      exact ⟨-1, rfl, ⟨fun h => absurd h (by decide), fun h => absurd h HN2.out⟩, rfl⟩
set_option maxHeartbeats 4000000 in
theorem rwithout_calls (A : Option Addr) (c : Nat) (xs : PL) (a b : Int) (w : World) (hb : RdE rkC w A xs) (hl : xs.length ≤ 100000) :
    Calls Try.prog 51 #[.slice A xs.length c, .int .i64 a, .int .i64 b] w fun e w' => ∃ A' c', e = .returned (.slice A' (withoutP xs (a, b)).length c') ∧ OwnV w' w.heap.size 139 3 A' (withoutP xs (a, b)).length c' ((withoutP xs (a, b)).flatMap rkC) ∧ Ext w w' := by
  have HB := Lib.hid hb
  clear hb
  go_enter Try.func51, Try.ntmps51
  go_wp2_with fail
  go_loopw [7, 8] (fun o i wr => ∃ k : Nat, ∃ A3 c3, ∃ out : PL, k ≤ xs.length ∧ i = .int .i64 (k : Int) ∧ o = .slice A3 out.length c3 ∧ out.length ≤ k ∧ out = withoutP (xs.take k) (a, b) ∧ OwnV wr w.heap.size 139 3 A3 out.length c3 (out.flatMap rkC) ∧ Ext w wr) (fun _ i _ => xs.length - (intOf i).toNat)
  case atStart => exact ⟨0, none, 0, [], by omega, rfl, rfl, Nat.le_refl _, rfl, OwnV.nil _ _ _ _, Ext.refl _⟩
  case round =>
    obtain ⟨k, A3, c3, out, hk, rfl, rfl, hol, hst, o3, e3⟩ := hrel
    have HST := Lib.hid hst
    have O3 := Lib.hid o3
    have E3 := Lib.hid e3
    have HOL := Lib.hid hol
    have hol : out.length ≤ 100000 := by omega
    clear hst o3 e3
    by_cases hlt : k < xs.length
    · have k1 : (k : Int) < (xs.length : Int) := by omega
      have HT := Lib.hid (take1 hlt)
      obtain ⟨ad, rfl, x0, x1, x2⟩ := RdE.rk (show RdE rkC wr A xs from HB.out.ext E3.out) hlt
      generalize xs[k] = q at *
      obtain ⟨⟨x, y⟩, g⟩ := q
      dsimp only at x0 x1 x2
      have HY : Hid (x = a ∧ y = b → out = withoutP (xs.take (k + 1)) (a, b)) := fun h => by
        rw [HT.out, (without_snoc _ _ _).1 (by rw [h.1, h.2]), HST.out]
      have HN : Hid (¬ (x = a ∧ y = b) → out ++ [((x, y), g)] = withoutP (xs.take (k + 1)) (a, b)) := fun h => by
        rw [HT.out, (without_snoc _ _ _).2 (fun e => h (by injection e with e1 e2; exact ⟨e1, e2⟩)), HST.out]
      by_cases h1 : x = a
      · by_cases h2 : y = b
        · have HY2 := Lib.hid (HY.out ⟨h1, h2⟩)
          clear HY HN HST HT
          subst h1 h2
          go_wp2_with fail
          go_roundw
          case rel => exact ⟨k + 1, A3, c3, out, by omega, by go_num, rfl, by have := HOL.out; omega, HY2.out, O3.out, E3.out⟩
          case measure => simp [intOf]; omega
        · have HN2 := Lib.hid (HN.out (fun h => h2 h.2))
          have e2 : (y == b) = false := by simpa using h2
          have e3 : (y != b) = true := by simpa using h2
          clear HY HN HST HT
          subst h1
          go_wp2_with ((with_reducible show wpList _ _ _ ({ dst := some 37, op := Op.call { callee := Callee.builtin Builtin.append, args := _, argTypes := _ }, type := _, pos := _, after := _, guard := _ } :: _) _ _); refine appN _ rfl (.tmp 31) (.tmp 36) 75 rfl 139 (.agg #[.int .i64 0, .int .i64 0, .int .i64 0]) 3 24 Try.underlying75 info_rk rfl (by decide) w.heap.size A3 out.length c3 (out.flatMap rkC) rfl (some ⟨wr.heap.size, 0, none⟩) 1 1 (rkC ((x, y), g)) rfl (out.length + 1) (out.flatMap rkC ++ rkC ((x, y), g)) ?_ rfl rfl (O3.out.ext ((Ext.refl _).alloc _)) rfl (Arr.new _ _ _).rd (rk_one1 ((x, y), g)) (by omega) (by omega) (by have := E3.out.size; simp; omega); intro A8 c8 w8 h8 g8 b8; have O8 := Lib.hid h8; have E8 := Lib.hid ((E3.out.trans ((Ext.refl _).alloc _)).grown g8 (fun k hk => (O3.out.base_ k hk).1)); clear h8 g8 b8)
          go_roundw
          case rel => exact ⟨k + 1, A8, c8, out ++ [((x, y), g)], by omega, by go_num, by simp, by have := HOL.out; rw [List.length_append, List.length_singleton]; omega, HN2.out, by simpa using O8.out, E8.out⟩
          case measure => simp [intOf]; omega
      · have HN2 := Lib.hid (HN.out (fun h => h1 h.1))
        have e2 : (x == a) = false := by simpa using h1
        have e3 : (x != a) = true := by simpa using h1
        clear HY HN HST HT
        go_wp2_with ((with_reducible show wpList _ _ _ ({ dst := some 37, op := Op.call { callee := Callee.builtin Builtin.append, args := _, argTypes := _ }, type := _, pos := _, after := _, guard := _ } :: _) _ _); refine appN _ rfl (.tmp 31) (.tmp 36) 75 rfl 139 (.agg #[.int .i64 0, .int .i64 0, .int .i64 0]) 3 24 Try.underlying75 info_rk rfl (by decide) w.heap.size A3 out.length c3 (out.flatMap rkC) rfl (some ⟨wr.heap.size, 0, none⟩) 1 1 (rkC ((x, y), g)) rfl (out.length + 1) (out.flatMap rkC ++ rkC ((x, y), g)) ?_ rfl rfl (O3.out.ext ((Ext.refl _).alloc _)) rfl (Arr.new _ _ _).rd (rk_one1 ((x, y), g)) (by omega) (by omega) (by have := E3.out.size; simp; omega); intro A8 c8 w8 h8 g8 b8; have O8 := Lib.hid h8; have E8 := Lib.hid ((E3.out.trans ((Ext.refl _).alloc _)).grown g8 (fun k hk => (O3.out.base_ k hk).1)); clear h8 g8 b8)
        go_roundw
        case rel => exact ⟨k + 1, A8, c8, out ++ [((x, y), g)], by omega, by go_num, by simp, by have := HOL.out; rw [List.length_append, List.length_singleton]; omega, HN2.out, by simpa using O8.out, E8.out⟩
        case measure => simp [intOf]; omega
    · have k1 : ¬ (k : Int) < (xs.length : Int) := by omega
      have HE : Hid (out = withoutP xs (a, b)) := by have := HST.out; rwa [List.take_of_length_le (by omega)] at this
      go_wp2_with fail
      go_ret
      have he := HE.out
      subst he
      exact ⟨A3, c3, rfl, O3.out, E3.out⟩
end Go.Proofs.Ytlgngnkaiidbeaa
