/- The walk of PriceRises. -/
import Derived.Test.YtnndacflpmhlkaaDoorPriceB
import Derived.Deep.RegionHeld3
set_option maxRecDepth 100000
set_option exponentiation.threshold 3000
namespace Go.Proofs.YtnndacflpmhlkaaDoor
open Go.RowKit

theorem canonN_lt {x : Nat} (hx : x < 18446744073709551616) : canonN x < 18446744073709551616 := by unfold canonN; split <;> (try split) <;> omega
theorem pcE_cases (x : Nat) : (prB x = true ∧ pcE x = 0) ∨ (prB x = false ∧ pcE x = 13) := by
  cases h : prB x
  · exact .inr ⟨rfl, pcE_bad h⟩
  · exact .inl ⟨rfl, pcE_ok h⟩
theorem aw06 {w W : World} (hL : Laid W) (e : Ext w W) : Calls Tryd.prog 10 #[] W fun e' w' => e' = .returned (.bool true) ∧ Ext w w' :=
  (awake06 W hL).mono fun _ _ h => ⟨h.1, e.trans h.2⟩

set_option maxHeartbeats 1000000 in
theorem priceRises_walk (a b x y : Nat) (w : World) (ha : a < 18446744073709551616) (hb : b < 18446744073709551616) (hx : x < 18446744073709551616) (hy : y < 18446744073709551616) (hL : Laid w) :
    Calls Tryd.prog 4 #[.int .u64 a, .int .u64 b, .agg #[.int .u64 x, .int .u64 y]] w (RetV w (.bool true)) := by
  have HL1 : Hid (Laid (w.alloc (.cells #[.int .u64 x, .int .u64 y] 32))) := hL.ext ((Ext.refl w).alloc _)
  have E1 : Hid (Ext w (w.alloc (.cells #[.int .u64 x, .int .u64 y] 32))) := (Ext.refl w).alloc _
  have HR : Hid (prB x = true → prB y = true → lessN (canonN y) (canonN x) = false → dueV (min a b) x ≤ dueV (max a b) y) := by
    intro h1 h2 h3
    unfold dueV
    rw [if_pos h1, if_pos h2]
    exact rises hx hy h1 h2 (by omega) h3
  have HZ : Hid (dueV 0 x = 0) := by show _ = _; unfold dueV; rw [due_zero]; split <;> rfl
  have hmin : (min (a : Int) b) = ((min a b : Nat) : Int) := by omega
  have hmax : (max (a : Int) b) = ((max a b : Nat) : Int) := by omega
  have hmi : min a b < 18446744073709551616 := by omega
  have hma : max a b < 18446744073709551616 := by omega
  have hcx := canonN_lt hx
  have hcy := canonN_lt hy
  have HPX := Lib.hid (pcE_cases x)
  have HPY := Lib.hid (pcE_cases y)
  clear hL
  generalize min a b = lo at *
  generalize max a b = hi at *
  go_enter Tryd.func4, Tryd.ntmps4
  go_wp2_with fail
  refine (due_calls lo x _ hmi hx HL1.out).mono ?_
  rintro e w' ⟨rfl, rfl⟩
  go_wp2_with fail
  refine (due_calls hi y _ hma hy HL1.out).mono ?_
  rintro e w' ⟨rfl, rfl⟩
  go_wp2_with fail
  refine (due_calls 0 x _ (by decide) hx HL1.out).mono ?_
  rintro e w' ⟨rfl, rfl⟩
  rw [HZ.out]
  generalize dueV lo x = p at *
  generalize dueV hi y = q at *
  rcases HPX.out with ⟨hbx, hex⟩ | ⟨hbx, hex⟩
  · rw [hex]
    rcases HPY.out with ⟨hby, hey⟩ | ⟨hby, hey⟩
    · rw [hey]
      have HLS := Lib.hid (HR.out hbx hby)
      clear hbx hby hex hey
      go_wp2_with fail
      generalize hW : w.alloc (.cells #[.int .u64 x, .int .u64 y] 32) = W at *
      have hblk : W.heap[w.heap.size]? = some (.cells #[.int .u64 x, .int .u64 y] 32) := by rw [← hW]; exact heap_new w _
      have KS : Hid (∀ w', Ext W w' → Ext W w' ∧ w'.cell? ⟨w.heap.size, 0, none⟩ = some (.int .u64 x) ∧ w'.cell? ⟨w.heap.size, 1, none⟩ = some (.int .u64 y)) := by
        intro w' e
        have h2 := e.block hblk
        refine ⟨e, ?_, ?_⟩ <;> (simp only [World.cell?, h2]; rfl)
      clear hblk hW
      go_region_held3 (fun w' => Ext W w' ∧ w'.cell? ⟨w.heap.size, 0, none⟩ = some (.int .u64 x) ∧ w'.cell? ⟨w.heap.size, 1, none⟩ = some (.int .u64 y)) (first | exact KS.out _ (Ext.refl _).drew | exact KS.out _ (by assumption))
        (first | (go_at_call 11; refine (rcanon_calls _ _ (by assumption)).mono ?_; rintro e w5 ⟨rfl, rfl⟩) | (go_at_call 12; refine (rless_calls _ _ _ hcy hcx).mono ?_; rintro e w5 ⟨rfl, rfl⟩))
      have HL2 : Hid (Laid W.drew) := HL1.out.ext (Ext.refl _).drew
      have E3 : Hid (Ext w W.drew) := E1.out.drew
      generalize W.drew = W2 at *
      generalize lessN (canonN y) (canonN x) = B at *
      cases B
      · have hpq := HLS.out rfl
        have hpq' : decide ((p : Int) ≤ (q : Int)) = true := by simp; omega
        clear HLS HR KS HL1 E1
        go_wp2_with fail
        refine (aw06 HL2.out E3.out).mono ?_
        rintro e w1 ⟨rfl, e1⟩
        have E2 := Lib.hid e1
        clear e1
        go_wp2_with fail
        go_ret
        exact ⟨rfl, E2.out⟩
      · clear HLS HR KS HL1 E1
        go_wp2_with fail
        refine (aw06 HL2.out E3.out).mono ?_
        rintro e w1 ⟨rfl, e1⟩
        have E2 := Lib.hid e1
        clear e1
        go_wp2_with fail
        go_ret
        exact ⟨rfl, E2.out⟩
    · rw [hey]
      clear hbx hby hex hey
      go_wp2_with fail
      refine (aw06 HL1.out E1.out).mono ?_
      rintro e w1 ⟨rfl, e1⟩
      have E2 := Lib.hid e1
      clear e1
      go_wp2_with fail
      go_ret
      exact ⟨rfl, E2.out⟩
  · rw [hex]
    clear hbx hex
    go_wp2_with fail
    refine (aw06 HL1.out E1.out).mono ?_
    rintro e w1 ⟨rfl, e1⟩
    have E2 := Lib.hid e1
    clear e1
    go_wp2_with fail
    go_ret
    exact ⟨rfl, E2.out⟩
end Go.Proofs.YtnndacflpmhlkaaDoor
