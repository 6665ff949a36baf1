/- bytes as a string (lines of Cursor2). -/
import Derived.Test.YtlgngnkaiidbeaaMem
import Derived.Laws.IdiomStrings
import Derived.Laws.BytesArg
set_option maxRecDepth 100000
set_option linter.unusedVariables false
set_option linter.unusedSimpArgs false
namespace Go.Proofs.Ytlgngnkaiidbeaa
open Go.RowKit

theorem run_str (w : World) (A : Option Addr) (c : Nat) (l : List UInt8) (h : RdB w A l) : (convert 27 9 (.slice A l.length c)).run Try.prog w = .ok (.string ⟨l.toArray⟩) w := by
  cases A with
  | none =>
    have hn : l = [] := by
      cases l with
      | nil => rfl
      | cons y l => obtain ⟨ad, h, _⟩ := h 0 (bv y) (by simp); cases h
    subst hn
    exact run_convert_bytes_nil w _ _ Try.underlying27 Try.underlying5 0 c _ Try.underlying9
  | some a =>
    refine run_convert_bytes_back w _ _ _ a c l Try.underlying27 Try.underlying5 Try.underlying9 ?_
    intro j hj
    obtain ⟨ad, hh, hq⟩ := h.at_ hj
    cases hh
    exact hq

end Go.Proofs.Ytlgngnkaiidbeaa
