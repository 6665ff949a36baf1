/- Accounts and records that came in by value. -/
import Derived.Test.YtkbjnlbbfapgdaaDoorArgs2
import Derived.Test.YtkbjnlbbfapgdaaDoorAcctH
set_option maxRecDepth 100000
set_option linter.unusedVariables false
set_option linter.unusedSimpArgs false
namespace Go.Proofs.YtkbjnlbbfapgdaaDoor
open Go.RowKit Go.ChangeShapes Go.WideShapes Go.ChangeAt Go.Deep

theorem c_u64 : Tryd.prog.cellsOf 22 = 1 := by kernel_rfl
theorem c_int : Tryd.prog.cellsOf 3 = 1 := by kernel_rfl
theorem c_str : Tryd.prog.cellsOf 9 = 1 := by kernel_rfl
theorem c_rec : Tryd.prog.cellsOf 28 = 6 := by kernel_rfl
theorem c_lease : Tryd.prog.cellsOf 64 = 2 := by kernel_rfl
theorem c_stmt : Tryd.prog.cellsOf 70 = 6 := by kernel_rfl
theorem c_acct : Tryd.prog.cellsOf 26 = 7 := by kernel_rfl
theorem c_lsl : Tryd.prog.cellsOf 23 = 1 := by kernel_rfl
theorem c_stl : Tryd.prog.cellsOf 24 = 1 := by kernel_rfl

section gen
variable {H : Type} {enc : TypeId × Value → H} {w : World}
theorem flat_rd {α : Type} {f : α → List Value} {k : Nat} (hk : ∀ x, (f x).length = k) (h0 : 0 < k) {A : Option Addr} {ys : List α} (h : ∀ i (hi : i < ys.length), ∃ ad, A = some ad ∧ ∀ r u, (f ys[i])[r]? = some u → w.cell? (ad.add (i * k + r)) = some u) : RdE f w A ys := by
  intro j u hu
  have hj : j < ys.length * k := by
    rcases Nat.lt_or_ge j (ys.length * k) with h | h
    · exact h
    · rw [List.getElem?_eq_none (by rw [flat_length hk]; exact h)] at hu; cases hu
  have hi : j / k < ys.length := Nat.div_lt_of_lt_mul (by rwa [Nat.mul_comm])
  have hr : j % k < k := Nat.mod_lt _ h0
  have hjj : j / k * k + j % k = j := by rw [Nat.mul_comm]; exact Nat.div_add_mod j k
  rw [← hjj, flat_get hk ys _ _ hi hr] at hu
  obtain ⟨ad, ha, hc⟩ := h _ hi
  exact ⟨ad, ha, by rw [← hjj]; exact hc _ _ hu⟩
/-- a slice of elements of several cells, among cells -/
theorem cells_elems {α : Type} [Inhabited α] (f : α → List Value) (ok : α → Prop) {t e : TypeId} {k n : Nat} {cs : List Value} {x : DataW H × List MemPlace} (hk : ∀ x, (f x).length = k) (h0 : 0 < k) (ht : Tryd.prog.underlying t = some (.slice e)) (hc : Tryd.prog.cellsOf e = k)
    (he : ∀ m cs x, cs.length = k → DataW.trod enc Tryd.prog w 0 (fun _ => true) true m e cs = some x → ∃ y, cs = f y ∧ ok y)
    (h : DataW.trod enc Tryd.prog w 0 (fun _ => true) true n t cs = some x) :
    ∃ A c, ∃ ys : List α, cs = [.slice A ys.length c] ∧ RdE f w A ys ∧ (∀ y ∈ ys, ok y) ∧ ys.length ≤ c ∧ c ≤ 9223372036854775807 ∧ (A = none → c = 0) := by
  rcases open_slice ht h with ⟨hcs, _⟩ | ⟨ad, len, cap, m, n, D, Pl, hcs, _, hl, hm, hmm, _, hx⟩
  · exact ⟨none, 0, [], by simpa using hcs, RdE.nil, by simp, Nat.le_refl _, by omega, fun _ => rfl⟩
  · rw [hc] at hx
    obtain ⟨g, hg⟩ := choose_lt (α := α) (n := len) (p := fun i y => ok y ∧ ∀ r u, (f y)[r]? = some u → w.cell? (ad.add (i * k + r)) = some u) (fun i hi => by
      obtain ⟨cs', h1, h2⟩ := hx i (by rw [hmm]; simp; omega)
      obtain ⟨_, hcl, hcc⟩ := World.cells?_some h1
      obtain ⟨y, rfl, hy⟩ := he _ _ _ hcl h2
      refine ⟨y, hy, fun r u hu => ?_⟩
      have hr : r < k := by
        rcases Nat.lt_or_ge r k with h | h
        · exact h
        · rw [List.getElem?_eq_none (by rw [hk]; exact h)] at hu; cases hu
      have := hcc r hr
      rw [Proofs.YtkbjnlbbfapgdaaDoor.add_add] at this
      rw [this, hu])
    refine ⟨some ad, cap, (List.range len).map g, by simpa using hcs, flat_rd hk h0 (fun i hi => ⟨ad, rfl, ?_⟩), ?_, by simpa using hl, by unfold maxLen at hm; omega, fun h => by cases h⟩
    · simp only [List.length_map, List.length_range] at hi
      intro r u hu
      simp only [List.getElem_map, List.getElem_range] at hu
      exact (hg i hi).2 r u hu
    · intro y hy
      obtain ⟨i, hi, rfl⟩ := List.mem_map.1 hy
      exact (hg i (List.mem_range.1 hi)).1
end gen
instance : Inhabited Lz := ⟨⟨0, 0⟩⟩
instance : Inhabited St := ⟨⟨ByteArray.empty, 0, 0, 0, 0, 0⟩⟩

section lz
variable {H : Type} {enc : TypeId × Value → H} {w : World}
theorem cells_lz (m : Nat) (cs : List Value) (x : DataW H × List MemPlace) (hl : cs.length = 2) (h : DataW.trod enc Tryd.prog w 0 (fun _ => true) true m 64 cs = some x) : ∃ y : Lz, cs = y.cs ∧ y.ok := by
  obtain ⟨xs, m, _, _, _, hxl, hx⟩ := DataW.trod_struct Tryd.underlying64 h
  have hxl' : xs.length = 2 := hxl
  match cs, hl with
  | [a0, a1], _ =>
    have g0 := hx 0 _ rfl
    have g1 := hx 1 _ rfl
    simp only [List.getElem_toArray, List.getElem_cons_zero, List.getElem_cons_succ, c_u64, List.drop_zero, List.drop_succ_cons, List.take_succ_cons, List.take_zero] at g0 g1
    rw [List.getElem?_eq_getElem (by omega)] at g0 g1
    obtain ⟨z0, e0, _, w0⟩ := DataW.trod_int Tryd.underlying22 g0
    obtain ⟨z1, e1, _, w1⟩ := DataW.trod_int Tryd.underlying22 g1
    simp only [List.cons.injEq, and_true] at e0 e1
    subst e0 e1
    obtain ⟨n0, rfl, h0⟩ := u64_nat w0
    obtain ⟨n1, rfl, h1⟩ := u64_nat w1
    exact ⟨⟨n0, n1⟩, rfl, h0, h1⟩
theorem cells_st (m : Nat) (cs : List Value) (x : DataW H × List MemPlace) (hl : cs.length = 6) (h : DataW.trod enc Tryd.prog w 0 (fun _ => true) true m 70 cs = some x) : ∃ y : St, cs = y.cs ∧ y.ok := by
  obtain ⟨xs, m, _, _, _, hxl, hx⟩ := DataW.trod_struct Tryd.underlying70 h
  have hxl' : xs.length = 6 := hxl
  match cs, hl with
  | [a0, a1, a2, a3, a4, a5], _ =>
    have g0 := hx 0 _ rfl
    have g1 := hx 1 _ rfl
    have g2 := hx 2 _ rfl
    have g3 := hx 3 _ rfl
    have g4 := hx 4 _ rfl
    have g5 := hx 5 _ rfl
    simp only [List.getElem_toArray, List.getElem_cons_zero, List.getElem_cons_succ, c_u64, c_str, List.drop_zero, List.drop_succ_cons, List.take_succ_cons, List.take_zero] at g0 g1 g2 g3 g4 g5
    rw [List.getElem?_eq_getElem (by omega)] at g0 g1 g2 g3 g4 g5
    obtain ⟨ten, e0, _, w0⟩ := DataW.trod_string Tryd.underlying9 g0
    obtain ⟨z1, e1, _, w1⟩ := DataW.trod_int Tryd.underlying22 g1
    obtain ⟨z2, e2, _, w2⟩ := DataW.trod_int Tryd.underlying22 g2
    obtain ⟨z3, e3, _, w3⟩ := DataW.trod_int Tryd.underlying22 g3
    obtain ⟨z4, e4, _, w4⟩ := DataW.trod_int Tryd.underlying22 g4
    obtain ⟨z5, e5, _, w5⟩ := DataW.trod_int Tryd.underlying22 g5
    simp only [List.cons.injEq, and_true] at e0 e1 e2 e3 e4 e5
    subst e0 e1 e2 e3 e4 e5
    obtain ⟨n1, rfl, h1⟩ := u64_nat w1
    obtain ⟨n2, rfl, h2⟩ := u64_nat w2
    obtain ⟨n3, rfl, h3⟩ := u64_nat w3
    obtain ⟨n4, rfl, h4⟩ := u64_nat w4
    obtain ⟨n5, rfl, h5⟩ := u64_nat w5
    exact ⟨⟨ten, n1, n2, n3, n4, n5⟩, rfl, h1, h2, h3, h4, h5, by simpa [maxLen] using w0⟩

/-- of an account that came in all is known but how much -/
structure AcIn (w : World) (a : Ac) (AL : Option Addr) (cL : Nat) (AC : Option Addr) (cC : Nat) : Prop where
  rd : RdA w a AL AC
  nl : AL = none → cL = 0
  nc : AC = none → cC = 0
  ll : a.ls.length ≤ cL
  lc : a.cl.length ≤ cC
  ml : cL ≤ 9223372036854775807
  mc : cC ≤ 9223372036854775807
  lok : ∀ l ∈ a.ls, l.ok
  cok : ∀ s ∈ a.cl, s.ok
  ten : a.ten.size ≤ 9223372036854775807
  cap : a.cap < 18446744073709551616
  used : a.used < 18446744073709551616
  bits : a.bits < 18446744073709551616
  per : a.per < 18446744073709551616
theorem cells_ac (m : Nat) (cs : List Value) (x : DataW H × List MemPlace) (hl : cs.length = 7) (h : DataW.trod enc Tryd.prog w 0 (fun _ => true) true m 26 cs = some x) : ∃ a AL cL AC cC, cs = (acV a AL cL AC cC).toList ∧ AcIn w a AL cL AC cC := by
  obtain ⟨xs, m, _, _, _, hxl, hx⟩ := DataW.trod_struct Tryd.underlying26 h
  have hxl' : xs.length = 7 := hxl
  match cs, hl with
  | [a0, a1, a2, a3, a4, a5, a6], _ =>
    have g0 := hx 0 _ rfl
    have g1 := hx 1 _ rfl
    have g2 := hx 2 _ rfl
    have g3 := hx 3 _ rfl
    have g4 := hx 4 _ rfl
    have g5 := hx 5 _ rfl
    have g6 := hx 6 _ rfl
    simp only [List.getElem_toArray, List.getElem_cons_zero, List.getElem_cons_succ, c_u64, c_str, c_lsl, c_stl, List.drop_zero, List.drop_succ_cons, List.take_succ_cons, List.take_zero] at g0 g1 g2 g3 g4 g5 g6
    rw [List.getElem?_eq_getElem (by omega)] at g0 g1 g2 g3 g4 g5 g6
    obtain ⟨ten, e0, _, w0⟩ := DataW.trod_string Tryd.underlying9 g0
    obtain ⟨z1, e1, _, w1⟩ := DataW.trod_int Tryd.underlying22 g1
    obtain ⟨z2, e2, _, w2⟩ := DataW.trod_int Tryd.underlying22 g2
    obtain ⟨z3, e3, _, w3⟩ := DataW.trod_int Tryd.underlying22 g3
    obtain ⟨z4, e4, _, w4⟩ := DataW.trod_int Tryd.underlying22 g4
    obtain ⟨AL, cL, ls, e5, r1, r2, r3, r4, r5⟩ := cells_elems Lz.cs Lz.ok Lz.cs_len (by decide) Tryd.underlying23 c_lease cells_lz g5
    obtain ⟨AC, cC, cl, e6, s1, s2, s3, s4, s5⟩ := cells_elems St.cs St.ok St.cs_len (by decide) Tryd.underlying24 c_stmt cells_st g6
    simp only [List.cons.injEq, and_true] at e0 e1 e2 e3 e4 e5 e6
    subst e0 e1 e2 e3 e4 e5 e6
    obtain ⟨n1, rfl, h1⟩ := u64_nat w1
    obtain ⟨n2, rfl, h2⟩ := u64_nat w2
    obtain ⟨n3, rfl, h3⟩ := u64_nat w3
    obtain ⟨n4, rfl, h4⟩ := u64_nat w4
    exact ⟨⟨ten, n1, n2, n3, n4, ls, cl⟩, AL, cL, AC, cC, rfl, ⟨r1, s1⟩, r5, s5, r3, s3, r4, s4, r2, s2, by simpa [maxLen] using w0, h1, h2, h3, h4⟩
theorem cells_rc (m : Nat) (cs : List Value) (x : DataW H × List MemPlace) (hl : cs.length = 6) (h : DataW.trod enc Tryd.prog w 0 (fun _ => true) true m 28 cs = some x) : ∃ r : Rc, cs = (rcV r).toList ∧ r.ok ∧ r.ten.size ≤ 9223372036854775807 := by
  obtain ⟨xs, m, _, _, _, hxl, hx⟩ := DataW.trod_struct Tryd.underlying28 h
  have hxl' : xs.length = 6 := hxl
  match cs, hl with
  | [a0, a1, a2, a3, a4, a5], _ =>
    have g0 := hx 0 _ rfl
    have g1 := hx 1 _ rfl
    have g2 := hx 2 _ rfl
    have g3 := hx 3 _ rfl
    have g4 := hx 4 _ rfl
    have g5 := hx 5 _ rfl
    simp only [List.getElem_toArray, List.getElem_cons_zero, List.getElem_cons_succ, c_u64, c_int, c_str, List.drop_zero, List.drop_succ_cons, List.take_succ_cons, List.take_zero] at g0 g1 g2 g3 g4 g5
    rw [List.getElem?_eq_getElem (by omega)] at g0 g1 g2 g3 g4 g5
    obtain ⟨z0, e0, _, w0⟩ := DataW.trod_int Tryd.underlying22 g0
    obtain ⟨z1, e1, _, w1⟩ := DataW.trod_int Tryd.underlying3 g1
    obtain ⟨ten, e2, _, w2⟩ := DataW.trod_string Tryd.underlying9 g2
    obtain ⟨z3, e3, _, w3⟩ := DataW.trod_int Tryd.underlying22 g3
    obtain ⟨z4, e4, _, w4⟩ := DataW.trod_int Tryd.underlying22 g4
    obtain ⟨z5, e5, _, w5⟩ := DataW.trod_int Tryd.underlying22 g5
    simp only [List.cons.injEq, and_true] at e0 e1 e2 e3 e4 e5
    subst e0 e1 e2 e3 e4 e5
    obtain ⟨n0, rfl, h0⟩ := u64_nat w0
    obtain ⟨n3, rfl, h3⟩ := u64_nat w3
    obtain ⟨n4, rfl, h4⟩ := u64_nat w4
    obtain ⟨n5, rfl, h5⟩ := u64_nat w5
    exact ⟨⟨n0, z1, ten, n3, n4, n5⟩, rfl, ⟨h0, h3, h4, h5, (i64_rng w1).1, (i64_rng w1).2⟩, by simpa [maxLen] using w2⟩

variable {b0 : Nat} {v : Value} {d : DataW H} {p : List MemPlace}
theorem arg_ac (o : Value.okWide Tryd.prog w .any b0 26 v) (h : DataW.Trod enc Tryd.prog w 0 (fun _ => true) true 26 v d p) : ∃ a AL cL AC cC, v = acA a AL cL AC cC ∧ AcIn w a AL cL AC cC := by
  obtain ⟨cs, rfl, hsz⟩ := okWide_struct Tryd.underlying26 o
  obtain ⟨fuel, hf⟩ := h
  obtain ⟨a, AL, cL, AC, cC, hcs, r⟩ := cells_ac _ _ _ (by have := hsz.trans c_acct; simpa [Value.cells] using this) hf
  refine ⟨a, AL, cL, AC, cC, ?_, r⟩
  unfold acA
  congr 1
  apply Array.toList_inj.1
  simpa [Value.cells] using hcs
theorem arg_rc (o : Value.okWide Tryd.prog w .any b0 28 v) (h : DataW.Trod enc Tryd.prog w 0 (fun _ => true) true 28 v d p) : ∃ r : Rc, v = rcA r ∧ r.ok ∧ r.ten.size ≤ 9223372036854775807 := by
  obtain ⟨cs, rfl, hsz⟩ := okWide_struct Tryd.underlying28 o
  obtain ⟨fuel, hf⟩ := h
  obtain ⟨r, hcs, hr⟩ := cells_rc _ _ _ (by have := hsz.trans c_rec; simpa [Value.cells] using this) hf
  refine ⟨r, ?_, hr⟩
  unfold rcA
  congr 1
  apply Array.toList_inj.1
  simpa [Value.cells] using hcs
end lz
end Go.Proofs.YtkbjnlbbfapgdaaDoor
