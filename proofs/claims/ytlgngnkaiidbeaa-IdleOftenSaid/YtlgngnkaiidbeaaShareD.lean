/- Turns in memory; slices.Clone of them (written by a program out of AcctM and AcctC). -/
import Derived.Test.YtlgngnkaiidbeaaMemV
import Derived.Test.YtlgngnkaiidbeaaArr
import Derived.Test.YtlgngnkaiidbeaaShareC
import Derived.Deep.RegionHeld3
set_option maxRecDepth 100000
set_option linter.unusedVariables false
set_option linter.unusedSimpArgs false
namespace Go.Proofs.Ytlgngnkaiidbeaa
open Go.RowKit

structure Tn where
  a : Int
  b : Int
  c : Int
  deriving DecidableEq, Inhabited
def Tn.cs (l : Tn) : List Value := [nv l.a, nv l.b, nv l.c]
theorem Tn.cs_len (l : Tn) : l.cs.length = 3 := rfl

/-- elements of several cells each -/
def RdE {α : Type} (cs : α → List Value) (w : World) (A : Option Addr) (xs : List α) : Prop := Rd w A (xs.flatMap cs)
section rde
variable {α : Type} {cs : α → List Value} {w w1 : World} {A : Option Addr} {xs : List α} {k : Nat}
theorem flat_get (hk : ∀ x, (cs x).length = k) (xs : List α) (i j : Nat) (hi : i < xs.length) (hj : j < k) : (xs.flatMap cs)[i * k + j]? = (cs xs[i])[j]? := by
  induction xs generalizing i with
  | nil => simp at hi
  | cons a l ih =>
    rw [List.flatMap_cons]
    cases i with
    | zero => rw [Nat.zero_mul, Nat.zero_add, List.getElem?_append_left (by rw [hk]; exact hj)]; rfl
    | succ i =>
      rw [List.getElem?_append_right (by rw [hk, Nat.succ_mul]; omega), hk, show (i + 1) * k + j - k = i * k + j by rw [Nat.succ_mul]; omega]
      exact ih i (by simpa using hi)
theorem flat_length (hk : ∀ x, (cs x).length = k) (xs : List α) : (xs.flatMap cs).length = xs.length * k := by
  induction xs with
  | nil => simp
  | cons a l ih => rw [List.flatMap_cons, List.length_append, ih, hk, List.length_cons, Nat.succ_mul]; omega
theorem RdE.nil : RdE cs w A [] := Rd.nil
theorem RdE.ext (h : RdE cs w A xs) (he : Ext w w1) : RdE cs w1 A xs := Rd.ext h he
theorem RdE.at_ (hk : ∀ x, (cs x).length = k) (h : RdE cs w A xs) {i : Nat} (hi : i < xs.length) (hk0 : 0 < k) : ∃ ad, A = some ad ∧ ∀ j v, (cs xs[i])[j]? = some v → w.cell? ((ad.add (i * k)).add j) = some v := by
  have key : ∀ j v, (cs xs[i])[j]? = some v → ∃ ad, A = some ad ∧ w.cell? (ad.add (i * k + j)) = some v := by
    intro j v hv
    have hj : j < k := by
      rcases Nat.lt_or_ge j k with h | h
      · exact h
      · rw [List.getElem?_eq_none (by rw [hk]; exact h)] at hv; cases hv
    exact h (i * k + j) v (by rw [flat_get hk xs i j hi hj]; exact hv)
  have h0 : 0 < (cs xs[i]).length := by rw [hk]; exact hk0
  obtain ⟨v, hv⟩ : ∃ v, (cs xs[i])[0]? = some v := ⟨_, List.getElem?_eq_getElem h0⟩
  obtain ⟨ad, ha, _⟩ := key 0 v hv
  refine ⟨ad, ha, fun j u hu => ?_⟩
  obtain ⟨ad', ha', hc⟩ := key j u hu
  rw [ha] at ha'
  cases ha'
  rw [add_add]
  exact hc
theorem RdE.grown {row : Option Nat} (h : RdE cs w A xs) (hg : w.grownBy w1 row) (hr : ∀ ad, A = some ad → some ad.block ≠ row) : RdE cs w1 A xs := Rd.grown h hg hr
end rde
/-- an address, one further -/
theorem add_off (ad : Addr) (j : Nat) (hj : j ≠ 0) : ad.add j = ⟨ad.block, ad.off + j, none⟩ := by unfold Addr.add; rw [if_neg hj]

theorem info_turn : (Try.prog.info? 93).map (fun i => (i.zero, i.size, i.bytes)) = some (some (.agg #[.int .i64 0, .int .i64 0, .int .i64 0]), 3, 24) := by kernel_rfl
theorem OwnV.empty (w : World) (e : TypeId) (size : Nat) : OwnV (w.alloc (.cells #[] e)) w.heap.size e size (some ⟨w.heap.size, 0, none⟩) 0 0 [] :=
  ⟨by simp, .inr ⟨w.heap.size, 0, #[], rfl, Nat.le_refl _, heap_alloc_new w _, Nat.le_refl _, by simp [maxLen], by simp, by simp⟩⟩
theorem tn_one (l : List Tn) : ∀ u ∈ l.flatMap Tn.cs, u.oneCell' = true := by
  intro u hu
  obtain ⟨x, _, hx⟩ := List.mem_flatMap.1 hu
  simp [Tn.cs] at hx
  rcases hx with rfl | rfl | rfl <;> rfl
theorem nnTn (w : World) : (binOp .eql 91 (.slice none 0 0) (.slice none 0 0)).run Try.prog w = .ok (.bool true) w := by kernel_rfl
theorem nsTn (w : World) (ad : Addr) (n c : Nat) : (binOp .eql 91 (.slice (some ad) n c) (.slice none 0 0)).run Try.prog w = .ok (.bool false) w := by kernel_rfl
set_option maxHeartbeats 1000000 in
theorem cloneTn (A : Option Addr) (c : Nat) (ls : List Tn) (w : World) (hb : RdE Tn.cs w A ls) (hl : ls.length ≤ 100000) (hn0 : A = none → c = 0) :
    Calls Try.prog 92 #[.slice A ls.length c] w fun e w' => ∃ A' c', e = .returned (.slice A' ls.length c') ∧ OwnV w' w.heap.size 93 3 A' ls.length c' (ls.flatMap Tn.cs) ∧ Ext w w' := by
  have Hb := Lib.hid hb
  clear hb
  cases A with
  | none =>
    obtain rfl := hn0 rfl
    clear hn0
    have hn : ls = [] := by
      cases ls with
      | nil => rfl
      | cons y l => obtain ⟨ad, h, _⟩ := RdE.at_ Tn.cs_len Hb.out (i := 0) (by simp) (by decide); cases h
    subst hn
    have hnn := nnTn
    go_enter Try.func92, Try.ntmps92
    go_wp2_with fail
    go_ret
    exact ⟨none, 0, rfl, OwnV.nil _ _ _ _, Ext.refl _⟩
  | some ad =>
    clear hn0
    have hns := nsTn
    have HW : Hid (∀ j u, (ls.flatMap Tn.cs)[j]? = some u → (w.alloc (.cells #[] 93)).cell? (ad.add j) = some u) := by
      intro j u hu
      obtain ⟨ad', h1, h2⟩ := Hb.out j u hu
      cases h1
      exact ((Ext.refl w).alloc _).cell h2
    go_enter Try.func92, Try.ntmps92
    go_wp2_with (at_builtin; refine appV _ rfl (.tmp 5) (.tmp 6) 91 rfl 93 (.agg #[.int .i64 0, .int .i64 0, .int .i64 0]) 3 24 Try.underlying91 info_turn rfl (by decide) w.heap.size (some ⟨w.heap.size, 0, none⟩) 0 0 [] rfl ad ls.length c (ls.flatMap Tn.cs) rfl ?_ (OwnV.empty w _ _) (flat_length Tn.cs_len ls) HW.out (tn_one ls) (by omega) (by omega) (by simp); intro A1 c1 w1 h1 g1 k1; have H1 := Lib.hid h1; have E1 := Lib.hid (((Ext.refl w).alloc (.cells #[] 93)).grown g1 (fun k hk => by simp [blk] at hk; omega)); clear h1 g1 k1)
    go_ret
    exact ⟨A1, c1, by simp, by simpa using H1.out, E1.out⟩

end Go.Proofs.Ytlgngnkaiidbeaa
