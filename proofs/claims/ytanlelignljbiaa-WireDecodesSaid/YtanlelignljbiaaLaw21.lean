/- ref21.Same of frames that are the same, ref21.Large of one frame, law21.awake. -/
import Derived.Test.YtanlelignljbiaaWRef
set_option maxRecDepth 100000
namespace Go.Proofs.Ytanlelignljbiaa
open Go.RowKit

set_option maxHeartbeats 1000000 in
theorem rwsame_eq (k s n : Int) (t : ByteArray) (A B : Option Addr) (c c' : Nat) (d : List UInt8) (w : World) (ha : RdB w A d) (hb : RdB w B d) (hl : d.length ≤ 1000000) :
    Calls Try.prog 25 #[fraA k s n t A d.length c, fraA k s n t B d.length c'] w (RetV w (.bool true)) := by
  have HA := Lib.hid ha
  have HB := Lib.hid hb
  clear ha hb
  have HSM : Hid (∀ W, Ext w W → Calls Try.prog 17 #[.slice A d.length c, .slice B d.length c'] W (RetV W (.bool true))) := by
    intro W e
    have h := sameE A B c c' d d W (HA.out.ext e) (HB.out.ext e) hl hl
    rw [decide_eq_true (rfl : d = d)] at h
    exact h
  unfold fraA
  go_enter Try.func25, Try.ntmps25
  go_wp2_with fail
  refine (HSM.out _ (((Ext.refl w).alloc _).alloc _)).mono ?_
  rintro e w1 ⟨rfl, e1⟩
  have E1 := Lib.hid ((((Ext.refl w).alloc _).alloc _).trans e1)
  clear e1
  go_wp2_with fail
  go_ret
  exact ⟨rfl, E1.out⟩

def bigF (t : ByteArray) (dl : Nat) : Bool := decide (100 < t.size) || decide (200 < dl)
set_option maxHeartbeats 1000000 in
theorem rlarge_one (g : Nat) (t : ByteArray) (A : Option Addr) (dl c : Nat) (w : World) (h3 : w.cell? ⟨g, 3, none⟩ = some (.string t)) (h4 : w.cell? ⟨g, 4, none⟩ = some (.slice A dl c)) :
    Calls Try.prog 19 #[.slice (some ⟨g, 0, none⟩) 1 1] w fun e w' => e = .returned (.bool (bigF t dl)) ∧ w = w' := by
  go_enter Try.func19, Try.ntmps19
  go_wp2_with fail
  go_loopw [3] (fun i wr => wr = w ∧ (i = .int .i64 0 ∨ i = .int .i64 1 ∧ bigF t dl = false)) (fun i _ => 1 - (intOf i).toNat)
  case atStart => exact ⟨rfl, .inl rfl⟩
  case round =>
    obtain ⟨rfl, rfl | ⟨rfl, hb⟩⟩ := hrel
    · by_cases h1 : 100 < t.size
      · have HB : Hid (bigF t dl = true) := by simp [Hid, bigF, h1]
        go_wp2_with fail
        go_ret
        rw [HB.out]
        exact ⟨rfl, rfl⟩
      by_cases h2 : 200 < dl
      · have HB : Hid (bigF t dl = true) := by simp [Hid, bigF, h2]
        go_wp2_with fail
        go_ret
        rw [HB.out]
        exact ⟨rfl, rfl⟩
      have HB : Hid (bigF t dl = false) := by simp [Hid, bigF, h1, h2]
      go_wp2_with fail
      go_roundw
      case rel => exact ⟨trivial, .inr ⟨rfl, HB.out⟩⟩
      case measure => simp [intOf]
    · have HB := Lib.hid hb
      clear hb
      go_wp2_with fail
      go_ret
      rw [HB.out]
      exact ⟨rfl, rfl⟩

theorem OwnB.cellAt {w : World} {base : Nat} {A : Option Addr} {c : Nat} {bs : List UInt8} (h : OwnB w base A c bs) (hne : 0 < bs.length) : ∃ g, A = some ⟨g, 0, none⟩ ∧ ∀ k v, bs[k]? = some v → w.cell? ⟨g, k, none⟩ = some (.int .u8 (v.toNat : Int)) := by
  rcases h.2 with ⟨hv, hn⟩ | ⟨g, cap, cur, hv, _⟩
  · omega
  · injection hv with hA _ _
    subst hA
    refine ⟨g, rfl, fun k v hk => ?_⟩
    obtain ⟨hk2, rfl⟩ := List.getElem?_eq_some_iff.1 hk
    obtain ⟨ad, e, hc⟩ := h.rd.at_ hk2
    cases e
    rw [add_mk, Nat.zero_add] at hc
    exact hc
theorem enc_example : wireB 7 3 0 (⟨#[]⟩ : ByteArray).data.toList [] = [2, 0, 7, 3] := by decide +kernel
theorem fra_example : wErr ((7 : Nat) : Int) ((3 : Nat) : Int) ((0 : Nat) : Int) (⟨#[]⟩ : ByteArray).data.toList ([] : List UInt8).length = 0 := by decide +kernel

set_option maxHeartbeats 1000000 in
theorem awake21 (w : World) : Calls Try.prog 20 #[] w (RetV w (.bool true)) := by
  have HE := Lib.hid (fun W => wencode_ok 7 3 0 ⟨#[]⟩ none 0 [] W fra_example (by decide) (by decide) (by decide) (by decide) (by decide) RdB.nil)
  unfold fraA at HE
  go_enter Try.func20, Try.ntmps20
  go_wp2_with fail
  refine (HE.out _).mono ?_
  rintro e w1 ⟨A1, c1, rfl, o1, e1⟩
  rw [enc_example] at o1 ⊢
  obtain ⟨g, rfl, hc⟩ := o1.cellAt (by decide)
  have c0 := hc 0 2 rfl
  have c2 := hc 2 7 rfl
  have c3 := hc 3 3 rfl
  have E1 := Lib.hid e1
  clear o1 e1 hc HE
  go_wp2_with fail
  go_ret
  exact ⟨rfl, E1.out⟩
end Go.Proofs.Ytanlelignljbiaa
