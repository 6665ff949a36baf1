/- The contract of wire.Encode. -/
import Derived.Test.YtlgngnkaiidbeaaWEnc
set_option maxRecDepth 100000
set_option linter.unusedVariables false
set_option linter.unusedSimpArgs false
namespace Go.Proofs.Ytlgngnkaiidbeaa
open Go.RowKit

def wBody (k s n : Nat) (t d : List UInt8) : List UInt8 := addW (fT k) (addW (fN k) (addW (fS k) (putW [] 1 k) 1 s) 2 n) 1 t.length ++ t ++ d
def wireB (k s n : Nat) (t d : List UInt8) : List UInt8 := putW [] 2 (wBody k s n t d).length ++ wBody k s n t d

def RetB2' (w : World) (bs : List UInt8) (x : Value) (e : Ending) (w' : World) : Prop :=
  ∃ A c, e = .returned (.tuple #[.slice A bs.length c, x]) ∧ OwnB w' w.heap.size A c bs ∧ Ext w w'
theorem RetB2'_mk (w w' : World) (bs : List UInt8) (x : Value) (A : Option Addr) (c : Nat) (h : OwnB w' w.heap.size A c bs) (e : Ext w w') : RetB2' w bs x (.returned (.tuple #[.slice A bs.length c, x])) w' := ⟨A, c, rfl, h, e⟩

theorem addW_len (has : Bool) (bs : List UInt8) (x : Nat) (width : Int) (hw : width = 1 ∨ width = 2) : (addW has bs width x).length ≤ bs.length + 2 := by
  unfold addW
  split
  · rcases hw with rfl | rfl
    · rw [show putW bs 1 x = bs ++ leB 1 x from rfl, List.length_append, leB_length]; omega
    · rw [show putW bs 2 x = bs ++ leB 2 x from rfl, List.length_append, leB_length]; omega
  · omega

end Go.Proofs.Ytlgngnkaiidbeaa
