/- Blocks of 64 bytes that came in. -/
import Derived.Test.YtbbillankhofkaaDoorArgs2
set_option maxRecDepth 100000
namespace Go.Proofs.YtbbillankhofkaaDoor
open Go.RowKit Go.ChangeShapes Go.WideShapes Go.ChangeAt Go.Deep

/-- cells that read as an array of bytes -/
theorem cells_array8 {H : Type} {enc : TypeId × Value → H} {w : World} {t : TypeId} {n m : Nat} {cs : List Value} {x : DataW H × List MemPlace} (ht : Tryd.prog.underlying t = some (.array n 5)) (hc : Tryd.prog.cellsOf 5 = 1) (hC : Tryd.prog.cellsOf t = n)
    (h : DataW.trod enc Tryd.prog w 0 (fun _ => true) true m t cs = some x) : ∃ bs : List UInt8, cs = bs.map bv ∧ bs.length = n := by
  obtain ⟨xs, m', _, _, hl, hxl, hx⟩ := DataW.trod_array ht h
  rw [hc] at hx
  have hcell : ∀ i, i < n → ∃ z, cs[i]? = some (.int .u8 z) ∧ (Lit.int .u8 z).wf = true := by
    intro i hi
    have h1 := hx i hi
    rw [List.getElem?_eq_getElem (by omega), Nat.mul_one] at h1
    obtain ⟨z, hz, _, wz⟩ := DataW.trod_int Tryd.underlying5 h1
    refine ⟨z, ?_, wz⟩
    have := congrArg (·[0]?) hz
    simpa [List.getElem?_take, List.getElem?_drop] using this
  have hlen : cs.length = n := hl.trans hC
  refine ⟨cs.map (fun v => UInt8.ofNat (intOf v).toNat), ?_, by simpa using hlen⟩
  apply List.ext_getElem?
  intro i
  by_cases hi : i < n
  · obtain ⟨z, hz, wz⟩ := hcell i hi
    simp only [List.getElem?_map, hz]
    simp only [Option.map_some, intOf, bv]
    rw [← u8_byte wz]
  · rw [List.getElem?_eq_none (by omega), List.getElem?_eq_none (by simp; omega)]

theorem arg_blocks {H : Type} {enc : TypeId × Value → H} {w : World} {b0 : Nat} {v : Value} {d : DataW H} {p : List MemPlace} (h1 : Tryd.prog.cellsOf 5 = 1) (h2 : Tryd.prog.cellsOf 31 = 64)
    (o : Value.okWide Tryd.prog w .any b0 38 v) (h : DataW.Trod enc Tryd.prog w 0 (fun _ => true) true 38 v d p) :
    ∃ a cap, ∃ bks : List (List UInt8), v = .slice a bks.length cap ∧ RdB w a bks.flatten ∧ (∀ x ∈ bks, x.length = 64) ∧ bks.length ≤ cap ∧ cap ≤ 9223372036854775807 := by
  obtain ⟨a, len, cap, rfl, hl, hc, hx⟩ := arg_slice Tryd.underlying38 o h
  rw [h2] at hx
  obtain ⟨f, hf⟩ := choose_lt (α := List UInt8) (n := len) (p := fun i y => y.length = 64 ∧ ∃ ad, a = some ad ∧ ∀ j u, (y.map bv)[j]? = some u → w.cell? (ad.add (i * 64 + j)) = some u) (fun i hi => by
    obtain ⟨ad, cs', m, x', ha, hcs, ht⟩ := hx i hi
    obtain ⟨bs, rfl, hbl⟩ := cells_array8 Tryd.underlying31 h1 h2 ht
    obtain ⟨_, hcl, hcc⟩ := World.cells?_some hcs
    refine ⟨bs, hbl, ad, ha, fun j u hu => ?_⟩
    have hj : j < 64 := by
      rcases Nat.lt_or_ge j 64 with h | h
      · exact h
      · rw [List.getElem?_eq_none (by simp; omega)] at hu; cases hu
    have := hcc j hj
    rw [Proofs.YtbbillankhofkaaDoor.add_add] at this
    rw [this, hu])
  have hall : ∀ x ∈ (List.range len).map f, x.length = 64 := by
    intro x hx
    obtain ⟨i, hi, rfl⟩ := List.mem_map.1 hx
    exact (hf i (List.mem_range.1 hi)).1
  refine ⟨a, cap, (List.range len).map f, by simp, ?_, hall, by simpa using hl, hc⟩
  intro j u hu
  have key : ∀ n, n ≤ len → ∀ j u, ((((List.range n).map f).flatten).map bv)[j]? = some u → ∃ ad, a = some ad ∧ w.cell? (ad.add j) = some u := by
    intro n
    induction n with
    | zero => intro _ j u hu; simp at hu
    | succ n ih =>
      intro hn j u hu
      have hln : (((List.range n).map f).flatten).length = n * 64 := by
        clear ih hu
        induction n with
        | zero => rfl
        | succ n ih2 =>
          rw [List.range_succ, List.map_append, List.flatten_append, List.length_append, ih2 (by omega)]
          have := (hf n (by omega)).1
          simp
          omega
      rw [List.range_succ, List.map_append, List.flatten_append, List.map_append] at hu
      by_cases hj : j < n * 64
      · rw [List.getElem?_append_left (by rw [List.length_map, hln]; exact hj)] at hu
        exact ih (by omega) j u hu
      · rw [List.getElem?_append_right (by rw [List.length_map, hln]; omega), List.length_map, hln] at hu
        obtain ⟨_, ad, ha, hc⟩ := hf n (by omega)
        refine ⟨ad, ha, ?_⟩
        have := hc (j - n * 64) u (by simpa using hu)
        rwa [show n * 64 + (j - n * 64) = j by omega] at this
  exact key len (Nat.le_refl _) j u hu
end Go.Proofs.YtbbillankhofkaaDoor
