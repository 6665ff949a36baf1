/- slices.IndexFunc of leases; find, numbered, without. -/
import Derived.Test.YtkbjnlbbfapgdaaDoorAcctW
import Derived.WalkMore
set_option maxRecDepth 100000
set_option linter.unusedVariables false
set_option linter.unusedSimpArgs false
namespace Go.Proofs.YtkbjnlbbfapgdaaDoor
open Go.RowKit

def idxZ (ls : List Lz) (p : Lz → Bool) : Int := if ls.any p = true then (ls.findIdx p : Int) else -1
/-- what is asked of a predicate on leases: it makes memory, and changes none -/
def PredL (g : Nat) (lb : Array Value) (p : Lz → Bool) (w : World) : Prop := ∀ W x, Ext w W → x.ok → Calls Tryd.prog g (#[.agg #[.int .u64 x.id, .int .u64 x.sz]] ++ lb) W (RetV W (.bool (p x)))

theorem idxZ_hit {ls : List Lz} {p : Lz → Bool} {k : Nat} (h : k < ls.length) (hp : p ls[k] = true) (hb : ∀ (j : Nat) (hj : j < ls.length), j < k → p ls[j] = false) : idxZ ls p = (k : Int) := by
  unfold idxZ
  rw [if_pos (List.any_eq_true.2 ⟨ls[k], List.getElem_mem h, hp⟩)]
  have : ls.findIdx p = k := by
    rw [List.findIdx_eq h]
    exact ⟨hp, fun j hj => by simpa using hb j (by omega) hj⟩
  rw [this]
theorem idxZ_miss {ls : List Lz} {p : Lz → Bool} (hb : ∀ (j : Nat) (hj : j < ls.length), p ls[j] = false) : idxZ ls p = -1 := by
  unfold idxZ
  rw [if_neg]
  intro h
  obtain ⟨x, hx, hp⟩ := List.any_eq_true.1 h
  obtain ⟨j, hj, rfl⟩ := List.mem_iff_getElem.1 hx
  rw [hb j hj] at hp; cases hp

set_option maxHeartbeats 4000000 in
theorem indexLz (g : Nat) (lb : Array Value) (p : Lz → Bool) (eg : ∀ args w, (callFunc g args).run Tryd.prog w = .ok (.enter g args) w) (A : Option Addr) (c : Nat) (ls : List Lz) (w : World) (hb : RdE Lz.cs w A ls) (hok : ∀ l ∈ ls, l.ok) (hl : ls.length ≤ 100000) (hp : PredL g lb p w) :
    Calls Tryd.prog 98 #[.slice A ls.length c, .func (.func g) #[] lb] w (RetV w (.int .i64 (idxZ ls p))) := by
  have HA := Lib.hid hb
  have OK := Lib.hid hok
  have HP := Lib.hid hp
  clear hb hok hp
  go_enter Tryd.func98, Tryd.ntmps98
  go_wp2_with fail
  go_loopw [8] (fun i wr => ∃ k : Nat, k ≤ ls.length ∧ i = .int .i64 k ∧ Ext w wr ∧ ∀ (j : Nat) (hj : j < ls.length), j < k → p ls[j] = false) (fun i _ => ls.length - (intOf i).toNat)
  case atStart => exact ⟨0, by omega, rfl, Ext.refl _, fun j hj h => absurd h (Nat.not_lt_zero _)⟩
  case round =>
    obtain ⟨k, hk, rfl, hE, hr⟩ := hrel
    have Hr := Lib.hid hr
    have E0 := Lib.hid hE
    clear hr hE
    by_cases hlt : k < ls.length
    · obtain ⟨ad, rfl, x0, x1⟩ := (HA.out.ext E0.out).two hlt
      have hx := OK.out _ (List.getElem_mem hlt)
      have k1 : (k : Int) < (ls.length : Int) := by omega
      have HX : Hid (∀ b, p ls[k] = b → (b = true → idxZ ls p = (k : Int)) ∧ (b = false → ∀ (j : Nat) (hj : j < ls.length), j < k + 1 → p ls[j] = false)) := fun b hb => ⟨fun h => idxZ_hit hlt (hb.trans h) Hr.out, fun h j hj hjk => by
        by_cases e : j = k
        · subst e; exact hb.trans h
        · exact Hr.out j hj (by omega)⟩
      generalize ls[k] = x at *
      have HC : Hid (Calls Tryd.prog g (#[.agg #[.int .u64 x.id, .int .u64 x.sz]] ++ lb) wr (RetV wr (.bool (p x)))) := HP.out wr x E0.out hx
      clear hx
      cases hq : p x with
      | true =>
        rw [hq] at HC
        have HF := Lib.hid ((HX.out true hq).1 rfl)
        clear HX hq
        go_wp2_with (go_at_fn g; refine HC.out.mono ?_; rintro e w2 ⟨rfl, e2⟩; have E2 := Lib.hid (E0.out.trans e2); clear e2)
        go_ret
        rw [HF.out]
        exact ⟨rfl, E2.out⟩
      | false =>
        rw [hq] at HC
        have HF := Lib.hid ((HX.out false hq).2 rfl)
        clear HX hq
        go_wp2_with (go_at_fn g; refine HC.out.mono ?_; rintro e w2 ⟨rfl, e2⟩; have E2 := Lib.hid (E0.out.trans e2); clear e2)
        go_roundw
        case rel => exact ⟨k + 1, by omega, by go_num, E2.out, HF.out⟩
        case measure => simp [intOf]; omega
    · have HF : Hid (idxZ ls p = -1) := idxZ_miss (fun j hj => Hr.out j hj (by omega))
      go_wp2_with fail
      go_ret
      rw [HF.out]
      exact ⟨rfl, E0.out⟩

theorem afind_calls (g : Nat) (lb : Array Value) (p : Lz → Bool) (eg : ∀ args w, (callFunc g args).run Tryd.prog w = .ok (.enter g args) w) (A : Option Addr) (c : Nat) (ls : List Lz) (w : World) (hb : RdE Lz.cs w A ls) (hok : ∀ l ∈ ls, l.ok) (hl : ls.length ≤ 100000) (hp : PredL g lb p w) :
    Calls Tryd.prog 55 #[.slice A ls.length c, .func (.func g) #[] lb] w (RetV w (.int .i64 (idxZ ls p))) := by
  have HC := Lib.hid (indexLz g lb p eg A c ls w hb hok hl hp)
  clear hb hok hp
  go_enter Tryd.func55, Tryd.ntmps55
  go_wp2_with fail
  refine HC.out.mono ?_
  rintro e w2 ⟨rfl, e2⟩
  go_wp2_with fail
  go_ret
  exact ⟨rfl, e2⟩

theorem numbered_calls (id : Nat) (w : World) : Calls Tryd.prog 56 #[.int .u64 id] w fun e w' => e = .returned (.func (.func 99) #[] #[.pointer (some ⟨w.heap.size, 0, none⟩)]) ∧ w' = w.alloc (.cells #[.int .u64 id] 22) := by
  go_enter Tryd.func56, Tryd.ntmps56
  go_wp2_with fail
  go_ret
  exact ⟨rfl, rfl⟩

theorem eg_num : ∀ args w, (callFunc 99 args).run Tryd.prog w = .ok (.enter 99 args) w := enters_of Tryd.func99 (by kernel_rfl) rfl
theorem eg_chk : ∀ args w, (callFunc 97 args).run Tryd.prog w = .ok (.enter 97 args) w := enters_of Tryd.func97 (by kernel_rfl) rfl
theorem pred_num (id B : Nat) (w : World) (hc : w.cell? ⟨B, 0, none⟩ = some (.int .u64 id)) : PredL 99 #[.pointer (some ⟨B, 0, none⟩)] (fun l => decide (l.id = id)) w := by
  intro W x hW hx
  have c1 := hW.cell hc
  clear hc
  show Calls Tryd.prog 99 #[.agg #[.int .u64 x.id, .int .u64 x.sz], .pointer (some ⟨B, 0, none⟩)] W _
  go_enter Tryd.func99, Tryd.ntmps99
  go_wp2_with (first
    | ((with_reducible show wpList _ _ _ ({ dst := some 2, op := Op.box 64 _, type := _, pos := _, after := _, guard := _ } :: _) _ _); refine bxA _ rfl 64 _ rfl _ rfl ?_; intro g1 w1 hg hs1 k1 e1; have E1 := Lib.hid e1; obtain ⟨x0, x1⟩ := lz_cells k1; have c2 := e1.cell c1; clear hg hs1 k1 e1 c1))
  go_ret
  exact ⟨ret_boolA (by rw [Bool.eq_iff_iff]; simp; omega), E1.out⟩
theorem pred_chk (le B : Nat) (w : World) (hc : w.cell? ⟨B, 3, none⟩ = some (.int .u64 le)) : PredL 97 #[.pointer (some ⟨B, 0, none⟩)] (fun l => decide (le ≤ l.id)) w := by
  intro W x hW hx
  have c1 := hW.cell hc
  clear hc
  show Calls Tryd.prog 97 #[.agg #[.int .u64 x.id, .int .u64 x.sz], .pointer (some ⟨B, 0, none⟩)] W _
  go_enter Tryd.func97, Tryd.ntmps97
  go_wp2_with (first
    | ((with_reducible show wpList _ _ _ ({ dst := some 2, op := Op.box 64 _, type := _, pos := _, after := _, guard := _ } :: _) _ _); refine bxA _ rfl 64 _ rfl _ rfl ?_; intro g1 w1 hg hs1 k1 e1; have E1 := Lib.hid e1; obtain ⟨x0, x1⟩ := lz_cells k1; have c2 := e1.cell c1; clear hg hs1 k1 e1 c1))
  go_ret
  exact ⟨rfl, E1.out⟩
end Go.Proofs.YtkbjnlbbfapgdaaDoor
