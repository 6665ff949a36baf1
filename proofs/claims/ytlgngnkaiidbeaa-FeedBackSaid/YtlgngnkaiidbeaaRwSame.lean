/- ref21.Same of frames that are the same (as in Law21, for seats without law21). -/
import Derived.Test.YtlgngnkaiidbeaaWRef
set_option maxRecDepth 100000
set_option linter.unusedVariables false
set_option linter.unusedSimpArgs false
namespace Go.Proofs.Ytlgngnkaiidbeaa
open Go.RowKit

set_option maxHeartbeats 1000000 in
theorem rwsame_eq (k s n : Int) (t : ByteArray) (A B : Option Addr) (c c' : Nat) (d : List UInt8) (w : World) (ha : RdB w A d) (hb : RdB w B d) (hl : d.length ≤ 1000000) :
    Calls Try.prog 81 #[fraA k s n t A d.length c, fraA k s n t B d.length c'] w (RetV w (.bool true)) := by
  have HA := Lib.hid ha
  have HB := Lib.hid hb
  clear ha hb
  have HSM : Hid (∀ W, Ext w W → Calls Try.prog 22 #[.slice A d.length c, .slice B d.length c'] W (RetV W (.bool true))) := by
    intro W e
    have h := sameE A B c c' d d W (HA.out.ext e) (HB.out.ext e) hl hl
    rw [decide_eq_true (rfl : d = d)] at h
    exact h
  unfold fraA
  go_enter Try.func81, Try.ntmps81
  go_wp2_with fail
  refine (HSM.out _ (((Ext.refl w).alloc _).alloc _)).mono ?_
  rintro e w1 ⟨rfl, e1⟩
  have E1 := Lib.hid ((((Ext.refl w).alloc _).alloc _).trans e1)
  clear e1
  go_wp2_with fail
  go_ret
  exact ⟨rfl, E1.out⟩

end Go.Proofs.Ytlgngnkaiidbeaa
