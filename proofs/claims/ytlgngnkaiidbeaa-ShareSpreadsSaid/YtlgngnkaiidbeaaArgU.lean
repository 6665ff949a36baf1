/- []uint64 that came in. -/
import Derived.Test.YtlgngnkaiidbeaaArgs
import Derived.Test.YtlgngnkaiidbeaaSpreadA
set_option linter.unusedVariables false
namespace Go.Proofs.Ytlgngnkaiidbeaa
open Go.RowKit

theorem row_u64s {w : World} {a : Option Addr} {len cap : Nat} {zs : List Int} (h : IsRowOf .u64 w a len cap zs) :
    ∃ xs : List Nat, xs.length = len ∧ Rd w a (xs.map uv) ∧ (∀ x ∈ xs, x < 18446744073709551616) ∧ len ≤ cap ∧ cap ≤ 9223372036854775807 := by
  rcases h with ⟨rfl, rfl, rfl, rfl⟩ | ⟨x, rfl, hl, hm, hz, hcell, hwf⟩
  · exact ⟨[], rfl, Rd.nil, fun x hx => by simp at hx, Nat.le_refl _, by omega⟩
  · refine ⟨(zs.take len).map Int.toNat, by rw [List.length_map, List.length_take]; omega, ?_, ?_, hl, by simpa only [maxLen] using hm⟩
    · intro j u hu
      rw [List.getElem?_map, List.getElem?_map] at hu
      by_cases hj : j < len
      · rw [List.getElem?_take_of_lt hj] at hu
        have hjz : j < zs.length := by omega
        rw [List.getElem?_eq_getElem hjz] at hu
        refine ⟨x, rfl, ?_⟩
        have h1 := hcell j hjz
        have e : zs.getD j 0 = zs[j] := by simp [List.getD_eq_getElem?_getD, hjz]
        rw [e] at h1
        obtain ⟨m, hm2, _⟩ := u64_nat (hwf zs[j] (List.getElem_mem hjz))
        have : u = uv zs[j].toNat := by simpa using hu.symm
        rw [this, h1]
        unfold uv
        rw [hm2]; rfl
      · rw [List.getElem?_eq_none (by rw [List.length_take]; omega)] at hu
        simp at hu
    · intro y hy
      rw [List.mem_map] at hy
      obtain ⟨z, hz1, rfl⟩ := hy
      obtain ⟨m, hm2, hm3⟩ := u64_nat (hwf z (List.mem_of_mem_take hz1))
      rw [hm2]; simpa using hm3
end Go.Proofs.Ytlgngnkaiidbeaa
