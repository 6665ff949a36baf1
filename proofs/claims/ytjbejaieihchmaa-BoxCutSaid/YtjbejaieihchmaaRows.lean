/-
  No cell of these rows narrows 'for every input' (looked for: loops, veiled, ifaces, maps, wideKeys, modest, calm, conditions, laid).
  DERIVED. THE GIVEN ROWS OF THIS SEAT. 11 by the template 'for every input the law returns true; each argument reads behind the call as it read before'; 0 by the template 'total and deterministic' (their statements: YtjbejaieihchmaaTotals.lean).
  GIVEN WITH THE SEED: the statements are not yours to turn. If you find one false, say at which input.
  Laid BY PROGRAM, IN A SANDBOX (cutbox-rows.mjs): the forced cells as the released guide's own fill.sh prints them over the translation cc5bfee48394f430… (all of the seat's roots in one cut). By AI agents, Wed Nov 11 2026. No macro, syntax, notation, axiom, sorry.
-/
import Derived.Test.YtjbejaieihchmaaChecked
import GoSem.Claim
import GoSem.ClaimJoined
import GoSem.ClaimMapViews
import Derived.JoinedTies
import Derived.KernelRfl
namespace Go.Proofs.Ytjbejaieihchmaa
/- THE CELL 'sum', in the pinned program and in every row, IS THE sha256 OF THE DUMP (.gsa) THAT YtjbejaieihchmaaProg.lean LOADS. Nothing in Lean hashes anything: it is a label: what it is worth is what the hold of that sum in a sandbox is worth. -/
noncomputable def Try.pinned : Pinned := { name := "ytjbejaieihchmaa", sum := "cc5bfee48394f430a06f18aa956ff0a337681c0c796bbd5443e9cc04dec80198", checked := Try.checked }
namespace Rows
def none {H : Type} : Left H := { results := [], args := [] }

/-- 'taximeterlaw01.OctetPuts': WHATEVER THE INPUT: true; the input reads as it did. -/
def octetPutsSpec : ChangeSpec := { name := "octetPuts", fn := fun _ => fun
  | [d1, d2, d3] => { results := [.lit (.bool true)], args := [d1, d2, d3] }
  | _ => none }
def octetPutsRow : OpenClaim := { program := "ytjbejaieihchmaa", sum := "cc5bfee48394f430a06f18aa956ff0a337681c0c796bbd5443e9cc04dec80198", func := "taximeter/taximeterlaw01.OctetPuts", spec := "octetPuts", apart := false }
def OctetPutsSaid : Prop := octetPutsRow.holds Try.pinned (OpenSpec.ofChange octetPutsSpec)

/-- ITS FALSE NEIGHBOUR: 'it returns false'. Refute it at one input. -/
def octetPutsWrong : ChangeSpec := { name := "octetPuts", fn := fun _ => fun
  | [d1, d2, d3] => { results := [.lit (.bool false)], args := [d1, d2, d3] }
  | _ => none }
def OctetPutsWrongFalsely : Prop := octetPutsRow.holds Try.pinned (OpenSpec.ofChange octetPutsWrong)

/-- 'taximeterlaw02.CrcSums': WHATEVER THE INPUT: true; the input reads as it did. -/
def crcSumsSpec : ChangeSpec := { name := "crcSums", fn := fun _ => fun
  | [d1, d2] => { results := [.lit (.bool true)], args := [d1, d2] }
  | _ => none }
def crcSumsRow : OpenClaim := { program := "ytjbejaieihchmaa", sum := "cc5bfee48394f430a06f18aa956ff0a337681c0c796bbd5443e9cc04dec80198", func := "taximeter/taximeterlaw02.CrcSums", spec := "crcSums", apart := false }
def CrcSumsSaid : Prop := crcSumsRow.holds Try.pinned (OpenSpec.ofChange crcSumsSpec)

/-- ITS FALSE NEIGHBOUR: 'it returns false'. Refute it at one input. -/
def crcSumsWrong : ChangeSpec := { name := "crcSums", fn := fun _ => fun
  | [d1, d2] => { results := [.lit (.bool false)], args := [d1, d2] }
  | _ => none }
def CrcSumsWrongFalsely : Prop := crcSumsRow.holds Try.pinned (OpenSpec.ofChange crcSumsWrong)

/-- 'taximeterlaw12.BoxPuts': WHATEVER THE INPUT: true; the input reads as it did. -/
def boxPutsSpec : ChangeSpec := { name := "boxPuts", fn := fun _ => fun
  | [d1, d2] => { results := [.lit (.bool true)], args := [d1, d2] }
  | _ => none }
def boxPutsRow : OpenClaim := { program := "ytjbejaieihchmaa", sum := "cc5bfee48394f430a06f18aa956ff0a337681c0c796bbd5443e9cc04dec80198", func := "taximeter/taximeterlaw12.BoxPuts", spec := "boxPuts", apart := false }
def BoxPutsSaid : Prop := boxPutsRow.holds Try.pinned (OpenSpec.ofChange boxPutsSpec)

/-- ITS FALSE NEIGHBOUR: 'it returns false'. Refute it at one input. -/
def boxPutsWrong : ChangeSpec := { name := "boxPuts", fn := fun _ => fun
  | [d1, d2] => { results := [.lit (.bool false)], args := [d1, d2] }
  | _ => none }
def BoxPutsWrongFalsely : Prop := boxPutsRow.holds Try.pinned (OpenSpec.ofChange boxPutsWrong)

/-- 'taximeterlaw02.CrcSeals': WHATEVER THE INPUT: true; the input reads as it did. -/
def crcSealsSpec : ChangeSpec := { name := "crcSeals", fn := fun _ => fun
  | [d] => { results := [.lit (.bool true)], args := [d] }
  | _ => none }
def crcSealsRow : OpenClaim := { program := "ytjbejaieihchmaa", sum := "cc5bfee48394f430a06f18aa956ff0a337681c0c796bbd5443e9cc04dec80198", func := "taximeter/taximeterlaw02.CrcSeals", spec := "crcSeals", apart := false }
def CrcSealsSaid : Prop := crcSealsRow.holds Try.pinned (OpenSpec.ofChange crcSealsSpec)

/-- ITS FALSE NEIGHBOUR: 'it returns false'. Refute it at one input. -/
def crcSealsWrong : ChangeSpec := { name := "crcSeals", fn := fun _ => fun
  | [d] => { results := [.lit (.bool false)], args := [d] }
  | _ => none }
def CrcSealsWrongFalsely : Prop := crcSealsRow.holds Try.pinned (OpenSpec.ofChange crcSealsWrong)

/-- 'taximeterlaw02.CrcSpoilt': WHATEVER THE INPUT: true; the input reads as it did. -/
def crcSpoiltSpec : ChangeSpec := { name := "crcSpoilt", fn := fun _ => fun
  | [d1, d2, d3] => { results := [.lit (.bool true)], args := [d1, d2, d3] }
  | _ => none }
def crcSpoiltRow : OpenClaim := { program := "ytjbejaieihchmaa", sum := "cc5bfee48394f430a06f18aa956ff0a337681c0c796bbd5443e9cc04dec80198", func := "taximeter/taximeterlaw02.CrcSpoilt", spec := "crcSpoilt", apart := false }
def CrcSpoiltSaid : Prop := crcSpoiltRow.holds Try.pinned (OpenSpec.ofChange crcSpoiltSpec)

/-- ITS FALSE NEIGHBOUR: 'it returns false'. Refute it at one input. -/
def crcSpoiltWrong : ChangeSpec := { name := "crcSpoilt", fn := fun _ => fun
  | [d1, d2, d3] => { results := [.lit (.bool false)], args := [d1, d2, d3] }
  | _ => none }
def CrcSpoiltWrongFalsely : Prop := crcSpoiltRow.holds Try.pinned (OpenSpec.ofChange crcSpoiltWrong)

/-- 'taximeterlaw01.OctetTexts': WHATEVER THE INPUT: true; the input reads as it did. -/
def octetTextsSpec : ChangeSpec := { name := "octetTexts", fn := fun _ => fun
  | [d1, d2, d3] => { results := [.lit (.bool true)], args := [d1, d2, d3] }
  | _ => none }
def octetTextsRow : OpenClaim := { program := "ytjbejaieihchmaa", sum := "cc5bfee48394f430a06f18aa956ff0a337681c0c796bbd5443e9cc04dec80198", func := "taximeter/taximeterlaw01.OctetTexts", spec := "octetTexts", apart := false }
def OctetTextsSaid : Prop := octetTextsRow.holds Try.pinned (OpenSpec.ofChange octetTextsSpec)

/-- ITS FALSE NEIGHBOUR: 'it returns false'. Refute it at one input. -/
def octetTextsWrong : ChangeSpec := { name := "octetTexts", fn := fun _ => fun
  | [d1, d2, d3] => { results := [.lit (.bool false)], args := [d1, d2, d3] }
  | _ => none }
def OctetTextsWrongFalsely : Prop := octetTextsRow.holds Try.pinned (OpenSpec.ofChange octetTextsWrong)

/-- 'taximeterlaw01.OctetReads': WHATEVER THE INPUT: true; the input reads as it did. -/
def octetReadsSpec : ChangeSpec := { name := "octetReads", fn := fun _ => fun
  | [d1, d2] => { results := [.lit (.bool true)], args := [d1, d2] }
  | _ => none }
def octetReadsRow : OpenClaim := { program := "ytjbejaieihchmaa", sum := "cc5bfee48394f430a06f18aa956ff0a337681c0c796bbd5443e9cc04dec80198", func := "taximeter/taximeterlaw01.OctetReads", spec := "octetReads", apart := false }
def OctetReadsSaid : Prop := octetReadsRow.holds Try.pinned (OpenSpec.ofChange octetReadsSpec)

/-- ITS FALSE NEIGHBOUR: 'it returns false'. Refute it at one input. -/
def octetReadsWrong : ChangeSpec := { name := "octetReads", fn := fun _ => fun
  | [d1, d2] => { results := [.lit (.bool false)], args := [d1, d2] }
  | _ => none }
def OctetReadsWrongFalsely : Prop := octetReadsRow.holds Try.pinned (OpenSpec.ofChange octetReadsWrong)

/-- 'taximeterlaw01.OctetBack': WHATEVER THE INPUT: true; the input reads as it did. -/
def octetBackSpec : ChangeSpec := { name := "octetBack", fn := fun _ => fun
  | [d1, d2, d3] => { results := [.lit (.bool true)], args := [d1, d2, d3] }
  | _ => none }
def octetBackRow : OpenClaim := { program := "ytjbejaieihchmaa", sum := "cc5bfee48394f430a06f18aa956ff0a337681c0c796bbd5443e9cc04dec80198", func := "taximeter/taximeterlaw01.OctetBack", spec := "octetBack", apart := false }
def OctetBackSaid : Prop := octetBackRow.holds Try.pinned (OpenSpec.ofChange octetBackSpec)

/-- ITS FALSE NEIGHBOUR: 'it returns false'. Refute it at one input. -/
def octetBackWrong : ChangeSpec := { name := "octetBack", fn := fun _ => fun
  | [d1, d2, d3] => { results := [.lit (.bool false)], args := [d1, d2, d3] }
  | _ => none }
def OctetBackWrongFalsely : Prop := octetBackRow.holds Try.pinned (OpenSpec.ofChange octetBackWrong)

/-- 'taximeterlaw12.BoxSpoilt': WHATEVER THE INPUT: true; the input reads as it did. -/
def boxSpoiltSpec : ChangeSpec := { name := "boxSpoilt", fn := fun _ => fun
  | [d1, d2, d3] => { results := [.lit (.bool true)], args := [d1, d2, d3] }
  | _ => none }
def boxSpoiltRow : OpenClaim := { program := "ytjbejaieihchmaa", sum := "cc5bfee48394f430a06f18aa956ff0a337681c0c796bbd5443e9cc04dec80198", func := "taximeter/taximeterlaw12.BoxSpoilt", spec := "boxSpoilt", apart := false }
def BoxSpoiltSaid : Prop := boxSpoiltRow.holds Try.pinned (OpenSpec.ofChange boxSpoiltSpec)

/-- ITS FALSE NEIGHBOUR: 'it returns false'. Refute it at one input. -/
def boxSpoiltWrong : ChangeSpec := { name := "boxSpoilt", fn := fun _ => fun
  | [d1, d2, d3] => { results := [.lit (.bool false)], args := [d1, d2, d3] }
  | _ => none }
def BoxSpoiltWrongFalsely : Prop := boxSpoiltRow.holds Try.pinned (OpenSpec.ofChange boxSpoiltWrong)

/-- 'taximeterlaw12.BoxNexts': WHATEVER THE INPUT: true; the input reads as it did. -/
def boxNextsSpec : ChangeSpec := { name := "boxNexts", fn := fun _ => fun
  | [d1, d2] => { results := [.lit (.bool true)], args := [d1, d2] }
  | _ => none }
def boxNextsRow : OpenClaim := { program := "ytjbejaieihchmaa", sum := "cc5bfee48394f430a06f18aa956ff0a337681c0c796bbd5443e9cc04dec80198", func := "taximeter/taximeterlaw12.BoxNexts", spec := "boxNexts", unfollowed := true, recurses := true, apart := false }
def BoxNextsSaid : Prop := boxNextsRow.holds Try.pinned (OpenSpec.ofChange boxNextsSpec)

/-- ITS FALSE NEIGHBOUR: 'it returns false'. Refute it at one input. -/
def boxNextsWrong : ChangeSpec := { name := "boxNexts", fn := fun _ => fun
  | [d1, d2] => { results := [.lit (.bool false)], args := [d1, d2] }
  | _ => none }
def BoxNextsWrongFalsely : Prop := boxNextsRow.holds Try.pinned (OpenSpec.ofChange boxNextsWrong)

/-- 'taximeterlaw12.BoxCut': WHATEVER THE INPUT: true; the input reads as it did. -/
def boxCutSpec : ChangeSpec := { name := "boxCut", fn := fun _ => fun
  | [d1, d2] => { results := [.lit (.bool true)], args := [d1, d2] }
  | _ => none }
def boxCutRow : OpenClaim := { program := "ytjbejaieihchmaa", sum := "cc5bfee48394f430a06f18aa956ff0a337681c0c796bbd5443e9cc04dec80198", func := "taximeter/taximeterlaw12.BoxCut", spec := "boxCut", unfollowed := true, recurses := true, apart := false }
def BoxCutSaid : Prop := boxCutRow.holds Try.pinned (OpenSpec.ofChange boxCutSpec)

/-- ITS FALSE NEIGHBOUR: 'it returns false'. Refute it at one input. -/
def boxCutWrong : ChangeSpec := { name := "boxCut", fn := fun _ => fun
  | [d1, d2] => { results := [.lit (.bool false)], args := [d1, d2] }
  | _ => none }
def BoxCutWrongFalsely : Prop := boxCutRow.holds Try.pinned (OpenSpec.ofChange boxCutWrong)

/- THE SECOND FORM. 'bulk': how many values and letters a reading holds, each counted each time it is reached (what is shared counts as often as it is met; a slice's spare places count too). A statement '..UptoSaid' is the law's where the arguments, and the package variables that the reading takes, are together of bulk at most 1048576: NARROWER than '..Said'. Prove '..Said' where nothing that the law and all that it calls make is longer than what came in: it says more and counts as full. Else prove '..UptoSaid'. A law counts once. -/
mutual
def uptoBulk {H : Type} : DataW H → Nat
  | .lit (.string bytes) => bytes.length + 1
  | .lit _ => 1
  | .nil => 1
  | .ptr d => uptoBulk d + 1
  | .slice elems spare => uptoBulkAll elems + uptoBulkAll spare + 1
  | .agg parts => uptoBulkAll parts + 1
  | .iface _ d => uptoBulk d + 1
  | .map entries => uptoBulkEntries entries + 1
  | .held _ => 1
def uptoBulkAll {H : Type} : List (DataW H) → Nat
  | [] => 0
  | d :: r => uptoBulk d + uptoBulkAll r
def uptoBulkEntries {H : Type} : List (Lit × DataW H) → Nat
  | [] => 0
  | x :: r => uptoBulkEntry x + uptoBulkEntries r
def uptoBulkEntry {H : Type} : Lit × DataW H → Nat
  | (.string bytes, d) => bytes.length + uptoBulk d + 1
  | (_, d) => uptoBulk d + 1
 end
def uptoSmall : (H : Type) → List (DataW H) → Bool := fun _ ds => decide (uptoBulkAll ds ≤ 1048576)
def OpenSpec.upto (s : _root_.Go.ChangeSpec) : _root_.Go.OpenSpec := { _root_.Go.OpenSpec.ofChange s with cond := some uptoSmall }

/-- 'taximeterlaw01.OctetPuts', WHERE WHAT IT READS IS OF BULK AT MOST 1048576: true; the input reads as it did. -/
def octetPutsUptoRow : OpenClaim := { program := "ytjbejaieihchmaa", sum := "cc5bfee48394f430a06f18aa956ff0a337681c0c796bbd5443e9cc04dec80198", func := "taximeter/taximeterlaw01.OctetPuts", spec := "octetPuts", apart := false, narrowed := true }
def OctetPutsUptoSaid : Prop := octetPutsUptoRow.holds Try.pinned (OpenSpec.upto octetPutsSpec)

/-- 'taximeterlaw02.CrcSums', WHERE WHAT IT READS IS OF BULK AT MOST 1048576: true; the input reads as it did. -/
def crcSumsUptoRow : OpenClaim := { program := "ytjbejaieihchmaa", sum := "cc5bfee48394f430a06f18aa956ff0a337681c0c796bbd5443e9cc04dec80198", func := "taximeter/taximeterlaw02.CrcSums", spec := "crcSums", apart := false, narrowed := true }
def CrcSumsUptoSaid : Prop := crcSumsUptoRow.holds Try.pinned (OpenSpec.upto crcSumsSpec)

/-- 'taximeterlaw12.BoxPuts', WHERE WHAT IT READS IS OF BULK AT MOST 1048576: true; the input reads as it did. -/
def boxPutsUptoRow : OpenClaim := { program := "ytjbejaieihchmaa", sum := "cc5bfee48394f430a06f18aa956ff0a337681c0c796bbd5443e9cc04dec80198", func := "taximeter/taximeterlaw12.BoxPuts", spec := "boxPuts", apart := false, narrowed := true }
def BoxPutsUptoSaid : Prop := boxPutsUptoRow.holds Try.pinned (OpenSpec.upto boxPutsSpec)

/-- 'taximeterlaw02.CrcSeals', WHERE WHAT IT READS IS OF BULK AT MOST 1048576: true; the input reads as it did. -/
def crcSealsUptoRow : OpenClaim := { program := "ytjbejaieihchmaa", sum := "cc5bfee48394f430a06f18aa956ff0a337681c0c796bbd5443e9cc04dec80198", func := "taximeter/taximeterlaw02.CrcSeals", spec := "crcSeals", apart := false, narrowed := true }
def CrcSealsUptoSaid : Prop := crcSealsUptoRow.holds Try.pinned (OpenSpec.upto crcSealsSpec)

/-- 'taximeterlaw02.CrcSpoilt', WHERE WHAT IT READS IS OF BULK AT MOST 1048576: true; the input reads as it did. -/
def crcSpoiltUptoRow : OpenClaim := { program := "ytjbejaieihchmaa", sum := "cc5bfee48394f430a06f18aa956ff0a337681c0c796bbd5443e9cc04dec80198", func := "taximeter/taximeterlaw02.CrcSpoilt", spec := "crcSpoilt", apart := false, narrowed := true }
def CrcSpoiltUptoSaid : Prop := crcSpoiltUptoRow.holds Try.pinned (OpenSpec.upto crcSpoiltSpec)

/-- 'taximeterlaw01.OctetTexts', WHERE WHAT IT READS IS OF BULK AT MOST 1048576: true; the input reads as it did. -/
def octetTextsUptoRow : OpenClaim := { program := "ytjbejaieihchmaa", sum := "cc5bfee48394f430a06f18aa956ff0a337681c0c796bbd5443e9cc04dec80198", func := "taximeter/taximeterlaw01.OctetTexts", spec := "octetTexts", apart := false, narrowed := true }
def OctetTextsUptoSaid : Prop := octetTextsUptoRow.holds Try.pinned (OpenSpec.upto octetTextsSpec)

/-- 'taximeterlaw01.OctetReads', WHERE WHAT IT READS IS OF BULK AT MOST 1048576: true; the input reads as it did. -/
def octetReadsUptoRow : OpenClaim := { program := "ytjbejaieihchmaa", sum := "cc5bfee48394f430a06f18aa956ff0a337681c0c796bbd5443e9cc04dec80198", func := "taximeter/taximeterlaw01.OctetReads", spec := "octetReads", apart := false, narrowed := true }
def OctetReadsUptoSaid : Prop := octetReadsUptoRow.holds Try.pinned (OpenSpec.upto octetReadsSpec)

/-- 'taximeterlaw01.OctetBack', WHERE WHAT IT READS IS OF BULK AT MOST 1048576: true; the input reads as it did. -/
def octetBackUptoRow : OpenClaim := { program := "ytjbejaieihchmaa", sum := "cc5bfee48394f430a06f18aa956ff0a337681c0c796bbd5443e9cc04dec80198", func := "taximeter/taximeterlaw01.OctetBack", spec := "octetBack", apart := false, narrowed := true }
def OctetBackUptoSaid : Prop := octetBackUptoRow.holds Try.pinned (OpenSpec.upto octetBackSpec)

/-- 'taximeterlaw12.BoxSpoilt', WHERE WHAT IT READS IS OF BULK AT MOST 1048576: true; the input reads as it did. -/
def boxSpoiltUptoRow : OpenClaim := { program := "ytjbejaieihchmaa", sum := "cc5bfee48394f430a06f18aa956ff0a337681c0c796bbd5443e9cc04dec80198", func := "taximeter/taximeterlaw12.BoxSpoilt", spec := "boxSpoilt", apart := false, narrowed := true }
def BoxSpoiltUptoSaid : Prop := boxSpoiltUptoRow.holds Try.pinned (OpenSpec.upto boxSpoiltSpec)

/-- 'taximeterlaw12.BoxNexts', WHERE WHAT IT READS IS OF BULK AT MOST 1048576: true; the input reads as it did. -/
def boxNextsUptoRow : OpenClaim := { program := "ytjbejaieihchmaa", sum := "cc5bfee48394f430a06f18aa956ff0a337681c0c796bbd5443e9cc04dec80198", func := "taximeter/taximeterlaw12.BoxNexts", spec := "boxNexts", unfollowed := true, recurses := true, apart := false, narrowed := true }
def BoxNextsUptoSaid : Prop := boxNextsUptoRow.holds Try.pinned (OpenSpec.upto boxNextsSpec)

/-- 'taximeterlaw12.BoxCut', WHERE WHAT IT READS IS OF BULK AT MOST 1048576: true; the input reads as it did. -/
def boxCutUptoRow : OpenClaim := { program := "ytjbejaieihchmaa", sum := "cc5bfee48394f430a06f18aa956ff0a337681c0c796bbd5443e9cc04dec80198", func := "taximeter/taximeterlaw12.BoxCut", spec := "boxCut", unfollowed := true, recurses := true, apart := false, narrowed := true }
def BoxCutUptoSaid : Prop := boxCutUptoRow.holds Try.pinned (OpenSpec.upto boxCutSpec)

end Rows
end Go.Proofs.Ytjbejaieihchmaa
