/- Tenants in memory; slices.IndexFunc by a name; auth.Find, ref23.Find. -/
import Derived.Test.YtlgngnkaiidbeaaDoorRdEl
import Derived.Test.YtlgngnkaiidbeaaDoorBClone
import Derived.Test.YtlgngnkaiidbeaaDoorStepW
import Derived.WalkMore
import Derived.Shelf.Abstract
set_option maxRecDepth 100000
set_option linter.unusedVariables false
set_option linter.unusedSimpArgs false
namespace Go.Proofs.YtlgngnkaiidbeaaDoor
open Go.RowKit Go.Shelf

/-- a tenant: its name, where its key lies, its key -/
structure Te where
  n : ByteArray
  A : Option Addr
  c : Nat
  d : List UInt8
def Te.cs (t : Te) : List Value := [.string t.n, .slice t.A t.d.length t.c]
theorem Te.cs_len (t : Te) : t.cs.length = 2 := rfl
def teV (t : Te) : Array Value := #[.string t.n, .slice t.A t.d.length t.c]
theorem teV_one (t : Te) : ∀ v ∈ teV t, v.oneCell' = true := by
  intro v hv
  simp [teV] at hv
  rcases hv with rfl | rfl <;> rfl
def Te.ok (w : World) (t : Te) : Prop := RdB w t.A t.d ∧ t.d.length ≤ t.c ∧ t.c ≤ 9223372036854775807 ∧ (t.A = none → t.c = 0)
theorem Te.ok.ext {w w1 : World} {t : Te} (h : t.ok w) (e : Ext w w1) : t.ok w1 := ⟨h.1.ext e, h.2⟩
/-- tenants that read so -/
def TeIn (w : World) (A : Option Addr) (xs : List Te) : Prop := RdE Te.cs w A xs ∧ ∀ t ∈ xs, t.ok w
theorem TeIn.ext {w w1 : World} {A : Option Addr} {xs : List Te} (h : TeIn w A xs) (e : Ext w w1) : TeIn w1 A xs := ⟨RdE.ext h.1 e, fun t ht => (h.2 t ht).ext e⟩
theorem RdE.te {w : World} {A : Option Addr} {xs : List Te} (h : RdE Te.cs w A xs) {i : Nat} (hi : i < xs.length) : ∃ ad, A = some ad ∧ w.cell? (ad.add (i * 2)) = some (.string xs[i].n) ∧ w.cell? ⟨(ad.add (i * 2)).block, (ad.add (i * 2)).off + 1, none⟩ = some (.slice xs[i].A xs[i].d.length xs[i].c) := by
  obtain ⟨ad, ha, hc⟩ := RdE.at_ Te.cs_len h hi (by decide)
  refine ⟨ad, ha, hc 0 _ rfl, ?_⟩
  rw [← add_off _ 1 (by decide)]; exact hc 1 _ rfl
theorem zero_te : (Tryd.prog.info? 24).map (fun i => (i.zero, i.size)) = some (some (.agg #[.string ByteArray.empty, .slice none 0 0]), 2) := by kernel_rfl
theorem size_te : (Tryd.prog.info? 24).map (·.size) = some 2 := by kernel_rfl
/-- the place of a name; below 0: there is none -/
def isN (s : ByteArray) (t : Te) : Bool := t.n.toList == s.toList
def idxT (ls : List Te) (p : Te → Bool) : Int := if ls.any p = true then (ls.findIdx p : Int) else -1
theorem idxT_hit {ls : List Te} {p : Te → Bool} {k : Nat} (h : k < ls.length) (hp : p ls[k] = true) (hb : ∀ (j : Nat) (hj : j < ls.length), j < k → p ls[j] = false) : idxT ls p = (k : Int) := by
  unfold idxT
  rw [if_pos (List.any_eq_true.2 ⟨ls[k], List.getElem_mem h, hp⟩)]
  have : ls.findIdx p = k := by
    rw [List.findIdx_eq h]
    exact ⟨hp, fun j hj => by simpa using hb j (by omega) hj⟩
  rw [this]
theorem idxT_miss {ls : List Te} {p : Te → Bool} (hb : ∀ (j : Nat) (hj : j < ls.length), p ls[j] = false) : idxT ls p = -1 := by
  unfold idxT
  rw [if_neg]
  intro h
  obtain ⟨x, hx, hp⟩ := List.any_eq_true.1 h
  obtain ⟨j, hj, rfl⟩ := List.mem_iff_getElem.1 hx
  rw [hb j hj] at hp; cases hp
theorem idxT_cases (ls : List Te) (p : Te → Bool) : (idxT ls p = -1 ∧ ∀ t ∈ ls, p t = false) ∨ (∃ k, ∃ h : k < ls.length, idxT ls p = (k : Int) ∧ p ls[k] = true ∧ ∀ (j : Nat) (hj : j < ls.length), j < k → p ls[j] = false) := by
  unfold idxT
  by_cases h : ls.any p = true
  · right
    rw [if_pos h]
    obtain ⟨x, hx, hp⟩ := List.any_eq_true.1 h
    have hlt : ls.findIdx p < ls.length := List.findIdx_lt_length_of_exists ⟨x, hx, hp⟩
    refine ⟨ls.findIdx p, hlt, rfl, List.findIdx_getElem (w := hlt), fun j hj hjk => ?_⟩
    simpa using List.not_of_lt_findIdx hjk
  · left
    rw [if_neg h]
    refine ⟨rfl, fun t ht => ?_⟩
    cases hq : p t with
    | false => rfl
    | true => exact absurd (List.any_eq_true.2 ⟨t, ht, hq⟩) h
/-- what is asked of a predicate on tenants -/
def PredT (g : Nat) (lb : Array Value) (p : Te → Bool) (w : World) : Prop := ∀ (W : World) (x : Te), Ext w W → Calls Tryd.prog g (#[.agg #[.string x.n, .slice x.A x.d.length x.c]] ++ lb) W (RetV W (.bool (p x)))
set_option maxHeartbeats 4000000 in
theorem indexT_calls (g : Nat) (lb : Array Value) (p : Te → Bool) (eg : ∀ args w, (callFunc g args).run Tryd.prog w = .ok (.enter g args) w) (A : Option Addr) (c : Nat) (ls : List Te) (w : World) (hb : RdE Te.cs w A ls) (hl : ls.length ≤ 100000) (hp : PredT g lb p w) :
    Calls Tryd.prog 26 #[.slice A ls.length c, .func (.func g) #[] lb] w (RetV w (.int .i64 (idxT ls p))) := by
  have HA := Lib.hid hb
  have HP := Lib.hid hp
  clear hb hp
  go_enter Tryd.func26, Tryd.ntmps26
  go_wp2_with fail
  go_loopw [8] (fun i wr => ∃ k : Nat, k ≤ ls.length ∧ i = .int .i64 k ∧ Ext w wr ∧ ∀ (j : Nat) (hj : j < ls.length), j < k → p ls[j] = false) (fun i _ => ls.length - (intOf i).toNat)
  case atStart => exact ⟨0, by omega, rfl, Ext.refl _, fun j hj h => absurd h (Nat.not_lt_zero _)⟩
  case round =>
    obtain ⟨k, hk, rfl, hE, hr⟩ := hrel
    have Hr := Lib.hid hr
    have E0 := Lib.hid hE
    clear hr hE
    by_cases hlt : k < ls.length
    · obtain ⟨ad, rfl, x0, x1⟩ := RdE.te (show RdE Te.cs wr A ls from HA.out.ext E0.out) hlt
      have k1 : (k : Int) < (ls.length : Int) := by omega
      have HX : Hid (∀ b, p ls[k] = b → (b = true → idxT ls p = (k : Int)) ∧ (b = false → ∀ (j : Nat) (hj : j < ls.length), j < k + 1 → p ls[j] = false)) := fun b hb => ⟨fun h => idxT_hit hlt (hb.trans h) Hr.out, fun h j hj hjk => by
        by_cases e : j = k
        · subst e; exact hb.trans h
        · exact Hr.out j hj (by omega)⟩
      generalize ls[k] = x at *
      have HC : Hid (Calls Tryd.prog g (#[.agg #[.string x.n, .slice x.A x.d.length x.c]] ++ lb) wr (RetV wr (.bool (p x)))) := HP.out wr x E0.out
      cases hq : p x with
      | true =>
        rw [hq] at HC
        have HF := Lib.hid ((HX.out true hq).1 rfl)
        clear HX hq
        go_wp2_with fail
        refine HC.out.mono ?_
        rintro e w2 ⟨rfl, e2⟩
        have E2 := Lib.hid (E0.out.trans e2)
        clear e2 x0 x1
        go_wp2_with fail
        go_ret
        rw [HF.out]
        exact ⟨rfl, E2.out⟩
      | false =>
        rw [hq] at HC
        have HF := Lib.hid ((HX.out false hq).2 rfl)
        clear HX hq
        go_wp2_with fail
        refine HC.out.mono ?_
        rintro e w2 ⟨rfl, e2⟩
        have E2 := Lib.hid (E0.out.trans e2)
        clear e2 x0 x1
        go_wp2_with fail
        go_roundw
        case rel => exact ⟨k + 1, by omega, by go_num, E2.out, HF.out⟩
        case measure => simp [intOf]; omega
    · have HF : Hid (idxT ls p = -1) := idxT_miss (fun j hj => Hr.out j hj (by omega))
      go_wp2_with fail
      go_ret
      rw [HF.out]
      exact ⟨rfl, E0.out⟩
theorem containsT_calls (g : Nat) (lb : Array Value) (p : Te → Bool) (eg : ∀ args w, (callFunc g args).run Tryd.prog w = .ok (.enter g args) w) (A : Option Addr) (c : Nat) (ls : List Te) (w : World) (hb : RdE Te.cs w A ls) (hl : ls.length ≤ 100000) (hp : PredT g lb p w) :
    Calls Tryd.prog 30 #[.slice A ls.length c, .func (.func g) #[] lb] w (RetV w (.bool (decide (0 ≤ idxT ls p)))) := by
  have HC := Lib.hid (indexT_calls g lb p eg A c ls w hb hl hp)
  clear hb hp
  go_enter Tryd.func30, Tryd.ntmps30
  go_wp2_with fail
  refine HC.out.mono ?_
  rintro e w2 ⟨rfl, e2⟩
  have E2 := Lib.hid e2
  clear e2
  go_wp2_with fail
  go_ret
  exact ⟨by first | rfl | simp, E2.out⟩
theorem called_calls (s : ByteArray) (w : World) :
    Calls Tryd.prog 27 #[.string s] w fun e w' => ∃ gb, e = .returned (.func (.func 46) #[] #[.pointer (some ⟨gb, 0, none⟩)]) ∧ w'.cell? ⟨gb, 0, none⟩ = some (.string s) ∧ Ext w w' := by
  have H1 := Lib.hid (Arr.new w 9 #[.string s])
  have E1 := Lib.hid ((Ext.refl w).alloc (.cells #[.string s] 9))
  go_enter Tryd.func27, Tryd.ntmps27
  go_wp2_with fail
  go_ret
  exact ⟨w.heap.size, rfl, H1.out.cell_some rfl, E1.out⟩
theorem eg_called1 : ∀ args w, (callFunc 46 args).run Tryd.prog w = .ok (.enter 46 args) w := enters_of Tryd.func46 (by kernel_rfl) rfl
theorem called1_pred (gb : Nat) (s : ByteArray) (w : World) (h0 : w.cell? ⟨gb, 0, none⟩ = some (.string s)) : PredT 46 #[.pointer (some ⟨gb, 0, none⟩)] (isN s) w := by
  intro W x hW
  have c0 := (hW.alloc (.cells #[.string x.n, .slice x.A x.d.length x.c] 24)).cell h0
  have E1 := Lib.hid ((Ext.refl W).alloc (.cells #[.string x.n, .slice x.A x.d.length x.c] 24))
  obtain ⟨sn, A, c, d⟩ := x
  show Calls Tryd.prog 46 #[.agg #[.string sn, .slice A d.length c], .pointer (some ⟨gb, 0, none⟩)] W _
  dsimp only at c0 E1
  clear h0
  go_enter Tryd.func46, Tryd.ntmps46
  go_wp2_with fail
  go_ret
  exact ⟨rfl, E1.out⟩
end Go.Proofs.YtlgngnkaiidbeaaDoor
