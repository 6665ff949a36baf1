/- Accounts in memory: leases, statements; slices.Clone and slices.Equal of them. -/
import Derived.Test.YtkbjnlbbfapgdaaDoorMemV
import Derived.Test.YtkbjnlbbfapgdaaDoorArr
import Derived.Deep.RegionHeld3
set_option maxRecDepth 100000
set_option linter.unusedVariables false
set_option linter.unusedSimpArgs false
namespace Go.Proofs.YtkbjnlbbfapgdaaDoor
open Go.RowKit

structure Lz where
  id : Nat
  sz : Nat
structure St where
  ten : ByteArray
  per : Nat
  used : Nat
  cap : Nat
  bits : Nat
  due : Nat
theorem Lz.eq_iff (a b : Lz) : a = b ↔ a.id = b.id ∧ a.sz = b.sz := by cases a; cases b; simp
theorem St.eq_iff (a b : St) : a = b ↔ a.ten = b.ten ∧ a.per = b.per ∧ a.used = b.used ∧ a.cap = b.cap ∧ a.bits = b.bits ∧ a.due = b.due := by cases a; cases b; simp
instance : DecidableEq Lz := fun a b => decidable_of_iff _ (Lz.eq_iff a b).symm
instance : DecidableEq St := fun a b => decidable_of_iff _ (St.eq_iff a b).symm
def Lz.cs (l : Lz) : List Value := [.int .u64 l.id, .int .u64 l.sz]
def St.cs (s : St) : List Value := [.string s.ten, .int .u64 s.per, .int .u64 s.used, .int .u64 s.cap, .int .u64 s.bits, .int .u64 s.due]
def Lz.ok (l : Lz) : Prop := l.id < 18446744073709551616 ∧ l.sz < 18446744073709551616
def St.ok (s : St) : Prop := s.per < 18446744073709551616 ∧ s.used < 18446744073709551616 ∧ s.cap < 18446744073709551616 ∧ s.bits < 18446744073709551616 ∧ s.due < 18446744073709551616 ∧ s.ten.size ≤ 9223372036854775807
theorem Lz.cs_len (l : Lz) : l.cs.length = 2 := rfl
theorem St.cs_len (s : St) : s.cs.length = 6 := rfl

/-- elements of several cells each -/
def RdE {α : Type} (cs : α → List Value) (w : World) (A : Option Addr) (xs : List α) : Prop := Rd w A (xs.flatMap cs)
section rde
variable {α : Type} {cs : α → List Value} {w w1 : World} {A : Option Addr} {xs : List α} {k : Nat}
theorem flat_get (hk : ∀ x, (cs x).length = k) (xs : List α) (i j : Nat) (hi : i < xs.length) (hj : j < k) : (xs.flatMap cs)[i * k + j]? = (cs xs[i])[j]? := by
  induction xs generalizing i with
  | nil => simp at hi
  | cons a l ih =>
    rw [List.flatMap_cons]
    cases i with
    | zero => rw [Nat.zero_mul, Nat.zero_add, List.getElem?_append_left (by rw [hk]; exact hj)]; rfl
    | succ i =>
      rw [List.getElem?_append_right (by rw [hk, Nat.succ_mul]; omega), hk, show (i + 1) * k + j - k = i * k + j by rw [Nat.succ_mul]; omega]
      exact ih i (by simpa using hi)
theorem flat_length (hk : ∀ x, (cs x).length = k) (xs : List α) : (xs.flatMap cs).length = xs.length * k := by
  induction xs with
  | nil => simp
  | cons a l ih => rw [List.flatMap_cons, List.length_append, ih, hk, List.length_cons, Nat.succ_mul]; omega
theorem RdE.nil : RdE cs w A [] := Rd.nil
theorem RdE.ext (h : RdE cs w A xs) (he : Ext w w1) : RdE cs w1 A xs := Rd.ext h he
theorem RdE.at_ (hk : ∀ x, (cs x).length = k) (h : RdE cs w A xs) {i : Nat} (hi : i < xs.length) (hk0 : 0 < k) : ∃ ad, A = some ad ∧ ∀ j v, (cs xs[i])[j]? = some v → w.cell? ((ad.add (i * k)).add j) = some v := by
  have key : ∀ j v, (cs xs[i])[j]? = some v → ∃ ad, A = some ad ∧ w.cell? (ad.add (i * k + j)) = some v := by
    intro j v hv
    have hj : j < k := by
      rcases Nat.lt_or_ge j k with h | h
      · exact h
      · rw [List.getElem?_eq_none (by rw [hk]; exact h)] at hv; cases hv
    exact h (i * k + j) v (by rw [flat_get hk xs i j hi hj]; exact hv)
  have h0 : 0 < (cs xs[i]).length := by rw [hk]; exact hk0
  obtain ⟨v, hv⟩ : ∃ v, (cs xs[i])[0]? = some v := ⟨_, List.getElem?_eq_getElem h0⟩
  obtain ⟨ad, ha, _⟩ := key 0 v hv
  refine ⟨ad, ha, fun j u hu => ?_⟩
  obtain ⟨ad', ha', hc⟩ := key j u hu
  rw [ha] at ha'
  cases ha'
  rw [add_add]
  exact hc
theorem RdE.grown {row : Option Nat} (h : RdE cs w A xs) (hg : w.grownBy w1 row) (hr : ∀ ad, A = some ad → some ad.block ≠ row) : RdE cs w1 A xs := Rd.grown h hg hr
end rde
/-- an address, one further -/
theorem add_off (ad : Addr) (j : Nat) (hj : j ≠ 0) : ad.add j = ⟨ad.block, ad.off + j, none⟩ := by unfold Addr.add; rw [if_neg hj]

theorem info_lease : (Tryd.prog.info? 64).map (fun i => (i.zero, i.size, i.bytes)) = some (some (.agg #[.int .u64 0, .int .u64 0]), 2, 16) := by kernel_rfl
theorem info_stmt : (Tryd.prog.info? 70).map (fun i => (i.zero, i.size, i.bytes)) = some (some (.agg #[.string ByteArray.empty, .int .u64 0, .int .u64 0, .int .u64 0, .int .u64 0, .int .u64 0]), 6, 56) := by kernel_rfl

theorem OwnV.empty (w : World) (e : TypeId) (size : Nat) : OwnV (w.alloc (.cells #[] e)) w.heap.size e size (some ⟨w.heap.size, 0, none⟩) 0 0 [] :=
  ⟨by simp, .inr ⟨w.heap.size, 0, #[], rfl, Nat.le_refl _, heap_alloc_new w _, Nat.le_refl _, by simp [maxLen], by simp, by simp⟩⟩
theorem lz_one (l : List Lz) : ∀ u ∈ l.flatMap Lz.cs, u.oneCell' = true := by
  intro u hu
  obtain ⟨x, _, hx⟩ := List.mem_flatMap.1 hu
  simp [Lz.cs] at hx
  rcases hx with rfl | rfl <;> rfl
theorem st_one (l : List St) : ∀ u ∈ l.flatMap St.cs, u.oneCell' = true := by
  intro u hu
  obtain ⟨x, _, hx⟩ := List.mem_flatMap.1 hu
  simp [St.cs] at hx
  rcases hx with rfl | rfl | rfl | rfl | rfl | rfl <;> rfl
end Go.Proofs.YtkbjnlbbfapgdaaDoor
