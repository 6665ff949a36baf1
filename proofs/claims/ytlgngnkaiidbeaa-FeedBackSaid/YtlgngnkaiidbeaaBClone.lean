/- bytes.Clone (lines of WDec2, for seats without wire.Decode). -/
import Derived.Test.YtlgngnkaiidbeaaMemV
import Derived.Test.YtlgngnkaiidbeaaArr
set_option maxRecDepth 100000
set_option linter.unusedVariables false
set_option linter.unusedSimpArgs false
namespace Go.Proofs.Ytlgngnkaiidbeaa
open Go.RowKit

theorem nil_nil (w : World) : (binOp .eql 27 (.slice none 0 0) (.slice none 0 0)).run Try.prog w = .ok (.bool true) w := by kernel_rfl
theorem nil_some (w : World) (ad : Addr) (n c : Nat) : (binOp .eql 27 (.slice (some ad) n c) (.slice none 0 0)).run Try.prog w = .ok (.bool false) w := by kernel_rfl
theorem own_zero {w : World} {base : Nat} {A : Option Addr} {c : Nat} {bs : List UInt8} (h : OwnB w base A c bs) : A = none → c = 0 := by
  rintro rfl
  rcases h.2 with ⟨hv, _⟩ | ⟨g, cap, cur, hv, _⟩
  · injection hv
  · injection hv with h1; cases h1
theorem bclone_calls (A : Option Addr) (c : Nat) (bs : List UInt8) (w : World) (hb : RdB w A bs) (hl : bs.length ≤ 1000000) (hn0 : A = none → c = 0) :
    Calls Try.prog 65 #[.slice A bs.length c] w (RetB w bs) := by
  have Hb := Lib.hid hb
  clear hb
  cases A with
  | none =>
    obtain rfl := hn0 rfl
    clear hn0
    have hn : bs = [] := by
      cases bs with
      | nil => rfl
      | cons y l => obtain ⟨ad, h, _⟩ := Hb.out 0 (bv y) (by simp); cases h
    subst hn
    have hnn := nil_nil
    go_enter Try.func65, Try.ntmps65
    go_wp2_with fail
    go_ret
    exact ⟨none, 0, rfl, OwnB.nil _ _, Ext.refl _⟩
  | some ad =>
    clear hn0
    have hns := nil_some
    go_enter Try.func65, Try.ntmps65
    go_wp2_with (at_builtin; refine cpyE w rfl (.tmp 5) (.tmp 6) rfl rfl (some ad) c bs rfl ?_ Hb.out ?c2; intro A1 c1 w1 h1 e1; have H1 := Lib.hid h1; have E1 := Lib.hid e1; clear h1 e1)
    case c2 => omega
    go_ret
    exact ⟨A1, c1, rfl, H1.out, E1.out⟩
end Go.Proofs.Ytlgngnkaiidbeaa
