/-
  NARROWER THAN 'FOR EVERY INPUT', by the rows' own cells (each row's printed sentence says how): ShaSums: laid · ShaBlocks: laid · ShaPads: laid · ShaGoesOn: laid · HmacKeys: laid · HmacSame: laid · HmacTags: laid · AuthHellos: laid · AuthRosters: laid.
  DERIVED. THE GIVEN ROWS OF THIS SEAT. 9 by the template 'for every input the law returns true; each argument reads behind the call as it read before'; 0 by the template 'total and deterministic' (their statements: YtbbillankhofkaaDoorTotals.lean).
  GIVEN WITH THE SEED: the statements are not yours to turn. If you find one false, say at which input.
  Laid BY PROGRAM, IN A SANDBOX (cutbox-rows.mjs): the forced cells as the released guide's own fill.sh prints them over the translation 599f49e7c3a7223b… (all of the seat's roots in one cut). By AI agents, Wed Nov 11 2026. No macro, syntax, notation, axiom, sorry.
-/
import Derived.Test.YtbbillankhofkaaDoorChecked
import GoSem.Claim
import GoSem.ClaimJoined
import GoSem.ClaimMapViews
import Derived.JoinedTies
import Derived.KernelRfl
namespace Go.Proofs.YtbbillankhofkaaDoor
/- THE CELL 'sum', in the pinned program and in every row, IS THE sha256 OF THE DUMP (.gsa) THAT YtbbillankhofkaaDoorProg.lean LOADS. Nothing in Lean hashes anything: it is a label: what it is worth is what the hold of that sum in a sandbox is worth. -/
noncomputable def Tryd.pinned : Pinned := { name := "ytbbillankhofkaadoor", sum := "599f49e7c3a7223b3c1099812f9388216a454bd11f49c81aebe3ac7217b2b859", checked := Tryd.checked }
namespace Rows
def none {H : Type} : Left H := { results := [], args := [] }

/- WHAT THE LISTED PACKAGE-LEVEL VARIABLES READ AS WHEN THE CALL BEGINS. Each datum BY PROGRAM (the guide's laid-datum.mjs) off the statement by which the dump's own 'gosem.cut.vars' lays the variable. In a bare row this is a premise. The card (YtbbillankhofkaaDoorCards.lean) ties it to the program's text. -/
def laid_taximeter_sha_constants {H : Type} : DataW H := .agg [.lit (.int .u32 1116352408), .lit (.int .u32 1899447441), .lit (.int .u32 3049323471), .lit (.int .u32 3921009573), .lit (.int .u32 961987163), .lit (.int .u32 1508970993), .lit (.int .u32 2453635748), .lit (.int .u32 2870763221), .lit (.int .u32 3624381080), .lit (.int .u32 310598401), .lit (.int .u32 607225278), .lit (.int .u32 1426881987), .lit (.int .u32 1925078388), .lit (.int .u32 2162078206), .lit (.int .u32 2614888103), .lit (.int .u32 3248222580), .lit (.int .u32 3835390401), .lit (.int .u32 4022224774), .lit (.int .u32 264347078), .lit (.int .u32 604807628), .lit (.int .u32 770255983), .lit (.int .u32 1249150122), .lit (.int .u32 1555081692), .lit (.int .u32 1996064986), .lit (.int .u32 2554220882), .lit (.int .u32 2821834349), .lit (.int .u32 2952996808), .lit (.int .u32 3210313671), .lit (.int .u32 3336571891), .lit (.int .u32 3584528711), .lit (.int .u32 113926993), .lit (.int .u32 338241895), .lit (.int .u32 666307205), .lit (.int .u32 773529912), .lit (.int .u32 1294757372), .lit (.int .u32 1396182291), .lit (.int .u32 1695183700), .lit (.int .u32 1986661051), .lit (.int .u32 2177026350), .lit (.int .u32 2456956037), .lit (.int .u32 2730485921), .lit (.int .u32 2820302411), .lit (.int .u32 3259730800), .lit (.int .u32 3345764771), .lit (.int .u32 3516065817), .lit (.int .u32 3600352804), .lit (.int .u32 4094571909), .lit (.int .u32 275423344), .lit (.int .u32 430227734), .lit (.int .u32 506948616), .lit (.int .u32 659060556), .lit (.int .u32 883997877), .lit (.int .u32 958139571), .lit (.int .u32 1322822218), .lit (.int .u32 1537002063), .lit (.int .u32 1747873779), .lit (.int .u32 1955562222), .lit (.int .u32 2024104815), .lit (.int .u32 2227730452), .lit (.int .u32 2361852424), .lit (.int .u32 2428436474), .lit (.int .u32 2756734187), .lit (.int .u32 3204031479), .lit (.int .u32 3329325298)]

/-- 'taximeterlaw03.ShaSums': WHATEVER THE INPUT: true; the input reads as it did. -/
def shaSumsSpec : ChangeSpec := { name := "shaSums", fn := fun _ => fun
  | [d] => { results := [.lit (.bool true)], args := [d] }
  | _ => none }
def shaSumsRow : OpenClaim := { program := "ytbbillankhofkaadoor", sum := "599f49e7c3a7223b3c1099812f9388216a454bd11f49c81aebe3ac7217b2b859", func := "taximeter/taximeterlaw03.ShaSums", spec := "shaSums", named := ["taximeter/sha.constants"], apart := false, laid := [("taximeter/sha.constants", laid_taximeter_sha_constants)] }
def ShaSumsSaid : Prop := shaSumsRow.holds Tryd.pinned (OpenSpec.ofChange shaSumsSpec)

/-- ITS FALSE NEIGHBOUR: 'it returns false'. Refute it at one input. -/
def shaSumsWrong : ChangeSpec := { name := "shaSums", fn := fun _ => fun
  | [d] => { results := [.lit (.bool false)], args := [d] }
  | _ => none }
def ShaSumsWrongFalsely : Prop := shaSumsRow.holds Tryd.pinned (OpenSpec.ofChange shaSumsWrong)

/-- 'taximeterlaw03.ShaBlocks': WHATEVER THE INPUT: true; the input reads as it did. -/
def shaBlocksSpec : ChangeSpec := { name := "shaBlocks", fn := fun _ => fun
  | [d1, d2] => { results := [.lit (.bool true)], args := [d1, d2] }
  | _ => none }
def shaBlocksRow : OpenClaim := { program := "ytbbillankhofkaadoor", sum := "599f49e7c3a7223b3c1099812f9388216a454bd11f49c81aebe3ac7217b2b859", func := "taximeter/taximeterlaw03.ShaBlocks", spec := "shaBlocks", named := ["taximeter/sha.constants"], apart := false, laid := [("taximeter/sha.constants", laid_taximeter_sha_constants)] }
def ShaBlocksSaid : Prop := shaBlocksRow.holds Tryd.pinned (OpenSpec.ofChange shaBlocksSpec)

/-- ITS FALSE NEIGHBOUR: 'it returns false'. Refute it at one input. -/
def shaBlocksWrong : ChangeSpec := { name := "shaBlocks", fn := fun _ => fun
  | [d1, d2] => { results := [.lit (.bool false)], args := [d1, d2] }
  | _ => none }
def ShaBlocksWrongFalsely : Prop := shaBlocksRow.holds Tryd.pinned (OpenSpec.ofChange shaBlocksWrong)

/-- 'taximeterlaw03.ShaPads': WHATEVER THE INPUT: true; the input reads as it did. -/
def shaPadsSpec : ChangeSpec := { name := "shaPads", fn := fun _ => fun
  | [d] => { results := [.lit (.bool true)], args := [d] }
  | _ => none }
def shaPadsRow : OpenClaim := { program := "ytbbillankhofkaadoor", sum := "599f49e7c3a7223b3c1099812f9388216a454bd11f49c81aebe3ac7217b2b859", func := "taximeter/taximeterlaw03.ShaPads", spec := "shaPads", named := ["taximeter/sha.constants"], apart := false, laid := [("taximeter/sha.constants", laid_taximeter_sha_constants)] }
def ShaPadsSaid : Prop := shaPadsRow.holds Tryd.pinned (OpenSpec.ofChange shaPadsSpec)

/-- ITS FALSE NEIGHBOUR: 'it returns false'. Refute it at one input. -/
def shaPadsWrong : ChangeSpec := { name := "shaPads", fn := fun _ => fun
  | [d] => { results := [.lit (.bool false)], args := [d] }
  | _ => none }
def ShaPadsWrongFalsely : Prop := shaPadsRow.holds Tryd.pinned (OpenSpec.ofChange shaPadsWrong)

/-- 'taximeterlaw03.ShaGoesOn': WHATEVER THE INPUT: true; the input reads as it did. -/
def shaGoesOnSpec : ChangeSpec := { name := "shaGoesOn", fn := fun _ => fun
  | [d1, d2] => { results := [.lit (.bool true)], args := [d1, d2] }
  | _ => none }
def shaGoesOnRow : OpenClaim := { program := "ytbbillankhofkaadoor", sum := "599f49e7c3a7223b3c1099812f9388216a454bd11f49c81aebe3ac7217b2b859", func := "taximeter/taximeterlaw03.ShaGoesOn", spec := "shaGoesOn", named := ["taximeter/sha.constants"], apart := false, laid := [("taximeter/sha.constants", laid_taximeter_sha_constants)] }
def ShaGoesOnSaid : Prop := shaGoesOnRow.holds Tryd.pinned (OpenSpec.ofChange shaGoesOnSpec)

/-- ITS FALSE NEIGHBOUR: 'it returns false'. Refute it at one input. -/
def shaGoesOnWrong : ChangeSpec := { name := "shaGoesOn", fn := fun _ => fun
  | [d1, d2] => { results := [.lit (.bool false)], args := [d1, d2] }
  | _ => none }
def ShaGoesOnWrongFalsely : Prop := shaGoesOnRow.holds Tryd.pinned (OpenSpec.ofChange shaGoesOnWrong)

/-- 'taximeterlaw04.HmacKeys': WHATEVER THE INPUT: true; the input reads as it did. -/
def hmacKeysSpec : ChangeSpec := { name := "hmacKeys", fn := fun _ => fun
  | [d1, d2, d3] => { results := [.lit (.bool true)], args := [d1, d2, d3] }
  | _ => none }
def hmacKeysRow : OpenClaim := { program := "ytbbillankhofkaadoor", sum := "599f49e7c3a7223b3c1099812f9388216a454bd11f49c81aebe3ac7217b2b859", func := "taximeter/taximeterlaw04.HmacKeys", spec := "hmacKeys", unfollowed := true, recurses := true, named := ["taximeter/sha.constants"], apart := false, laid := [("taximeter/sha.constants", laid_taximeter_sha_constants)] }
def HmacKeysSaid : Prop := hmacKeysRow.holds Tryd.pinned (OpenSpec.ofChange hmacKeysSpec)

/-- ITS FALSE NEIGHBOUR: 'it returns false'. Refute it at one input. -/
def hmacKeysWrong : ChangeSpec := { name := "hmacKeys", fn := fun _ => fun
  | [d1, d2, d3] => { results := [.lit (.bool false)], args := [d1, d2, d3] }
  | _ => none }
def HmacKeysWrongFalsely : Prop := hmacKeysRow.holds Tryd.pinned (OpenSpec.ofChange hmacKeysWrong)

/-- 'taximeterlaw04.HmacSame': WHATEVER THE INPUT: true; the input reads as it did. -/
def hmacSameSpec : ChangeSpec := { name := "hmacSame", fn := fun _ => fun
  | [d1, d2] => { results := [.lit (.bool true)], args := [d1, d2] }
  | _ => none }
def hmacSameRow : OpenClaim := { program := "ytbbillankhofkaadoor", sum := "599f49e7c3a7223b3c1099812f9388216a454bd11f49c81aebe3ac7217b2b859", func := "taximeter/taximeterlaw04.HmacSame", spec := "hmacSame", unfollowed := true, recurses := true, named := ["taximeter/sha.constants"], apart := false, laid := [("taximeter/sha.constants", laid_taximeter_sha_constants)] }
def HmacSameSaid : Prop := hmacSameRow.holds Tryd.pinned (OpenSpec.ofChange hmacSameSpec)

/-- ITS FALSE NEIGHBOUR: 'it returns false'. Refute it at one input. -/
def hmacSameWrong : ChangeSpec := { name := "hmacSame", fn := fun _ => fun
  | [d1, d2] => { results := [.lit (.bool false)], args := [d1, d2] }
  | _ => none }
def HmacSameWrongFalsely : Prop := hmacSameRow.holds Tryd.pinned (OpenSpec.ofChange hmacSameWrong)

/-- 'taximeterlaw04.HmacTags': WHATEVER THE INPUT: true; the input reads as it did. -/
def hmacTagsSpec : ChangeSpec := { name := "hmacTags", fn := fun _ => fun
  | [d1, d2, d3] => { results := [.lit (.bool true)], args := [d1, d2, d3] }
  | _ => none }
def hmacTagsRow : OpenClaim := { program := "ytbbillankhofkaadoor", sum := "599f49e7c3a7223b3c1099812f9388216a454bd11f49c81aebe3ac7217b2b859", func := "taximeter/taximeterlaw04.HmacTags", spec := "hmacTags", unfollowed := true, recurses := true, named := ["taximeter/sha.constants"], apart := false, laid := [("taximeter/sha.constants", laid_taximeter_sha_constants)] }
def HmacTagsSaid : Prop := hmacTagsRow.holds Tryd.pinned (OpenSpec.ofChange hmacTagsSpec)

/-- ITS FALSE NEIGHBOUR: 'it returns false'. Refute it at one input. -/
def hmacTagsWrong : ChangeSpec := { name := "hmacTags", fn := fun _ => fun
  | [d1, d2, d3] => { results := [.lit (.bool false)], args := [d1, d2, d3] }
  | _ => none }
def HmacTagsWrongFalsely : Prop := hmacTagsRow.holds Tryd.pinned (OpenSpec.ofChange hmacTagsWrong)

/-- 'taximeterlaw23.AuthHellos': WHATEVER THE INPUT: true; the input reads as it did. -/
def authHellosSpec : ChangeSpec := { name := "authHellos", fn := fun _ => fun
  | [d1, d2, d3] => { results := [.lit (.bool true)], args := [d1, d2, d3] }
  | _ => none }
def authHellosRow : OpenClaim := { program := "ytbbillankhofkaadoor", sum := "599f49e7c3a7223b3c1099812f9388216a454bd11f49c81aebe3ac7217b2b859", func := "taximeter/taximeterlaw23.AuthHellos", spec := "authHellos", unfollowed := true, recurses := true, named := ["taximeter/sha.constants"], apart := false, laid := [("taximeter/sha.constants", laid_taximeter_sha_constants)] }
def AuthHellosSaid : Prop := authHellosRow.holds Tryd.pinned (OpenSpec.ofChange authHellosSpec)

/-- ITS FALSE NEIGHBOUR: 'it returns false'. Refute it at one input. -/
def authHellosWrong : ChangeSpec := { name := "authHellos", fn := fun _ => fun
  | [d1, d2, d3] => { results := [.lit (.bool false)], args := [d1, d2, d3] }
  | _ => none }
def AuthHellosWrongFalsely : Prop := authHellosRow.holds Tryd.pinned (OpenSpec.ofChange authHellosWrong)

/-- 'taximeterlaw23.AuthRosters': WHATEVER THE INPUT: true; the input reads as it did. -/
def authRostersSpec : ChangeSpec := { name := "authRosters", fn := fun _ => fun
  | [d1, d2, d3] => { results := [.lit (.bool true)], args := [d1, d2, d3] }
  | _ => none }
def authRostersRow : OpenClaim := { program := "ytbbillankhofkaadoor", sum := "599f49e7c3a7223b3c1099812f9388216a454bd11f49c81aebe3ac7217b2b859", func := "taximeter/taximeterlaw23.AuthRosters", spec := "authRosters", unfollowed := true, recurses := true, named := ["taximeter/sha.constants"], apart := false, laid := [("taximeter/sha.constants", laid_taximeter_sha_constants)] }
def AuthRostersSaid : Prop := authRostersRow.holds Tryd.pinned (OpenSpec.ofChange authRostersSpec)

/-- ITS FALSE NEIGHBOUR: 'it returns false'. Refute it at one input. -/
def authRostersWrong : ChangeSpec := { name := "authRosters", fn := fun _ => fun
  | [d1, d2, d3] => { results := [.lit (.bool false)], args := [d1, d2, d3] }
  | _ => none }
def AuthRostersWrongFalsely : Prop := authRostersRow.holds Tryd.pinned (OpenSpec.ofChange authRostersWrong)

/- THE SECOND FORM. 'bulk': how many values and letters a reading holds, each counted each time it is reached (what is shared counts as often as it is met; a slice's spare places count too). A statement '..UptoSaid' is the law's where the arguments, and the package variables that the reading takes, are together of bulk at most 1048576: NARROWER than '..Said'. Prove '..Said' where nothing that the law and all that it calls make is longer than what came in: it says more and counts as full. Else prove '..UptoSaid'. A law counts once. -/
mutual
def uptoBulk {H : Type} : DataW H → Nat
  | .lit (.string bytes) => bytes.length + 1
  | .lit _ => 1
  | .nil => 1
  | .ptr d => uptoBulk d + 1
  | .slice elems spare => uptoBulkAll elems + uptoBulkAll spare + 1
  | .agg parts => uptoBulkAll parts + 1
  | .iface _ d => uptoBulk d + 1
  | .map entries => uptoBulkEntries entries + 1
  | .held _ => 1
def uptoBulkAll {H : Type} : List (DataW H) → Nat
  | [] => 0
  | d :: r => uptoBulk d + uptoBulkAll r
def uptoBulkEntries {H : Type} : List (Lit × DataW H) → Nat
  | [] => 0
  | x :: r => uptoBulkEntry x + uptoBulkEntries r
def uptoBulkEntry {H : Type} : Lit × DataW H → Nat
  | (.string bytes, d) => bytes.length + uptoBulk d + 1
  | (_, d) => uptoBulk d + 1
 end
def uptoSmall : (H : Type) → List (DataW H) → Bool := fun _ ds => decide (uptoBulkAll ds ≤ 1048576)
def OpenSpec.upto (s : _root_.Go.ChangeSpec) : _root_.Go.OpenSpec := { _root_.Go.OpenSpec.ofChange s with cond := some uptoSmall }

/-- 'taximeterlaw03.ShaSums', WHERE WHAT IT READS IS OF BULK AT MOST 1048576: true; the input reads as it did. -/
def shaSumsUptoRow : OpenClaim := { program := "ytbbillankhofkaadoor", sum := "599f49e7c3a7223b3c1099812f9388216a454bd11f49c81aebe3ac7217b2b859", func := "taximeter/taximeterlaw03.ShaSums", spec := "shaSums", named := ["taximeter/sha.constants"], apart := false, laid := [("taximeter/sha.constants", laid_taximeter_sha_constants)], narrowed := true }
def ShaSumsUptoSaid : Prop := shaSumsUptoRow.holds Tryd.pinned (OpenSpec.upto shaSumsSpec)

/-- 'taximeterlaw03.ShaBlocks', WHERE WHAT IT READS IS OF BULK AT MOST 1048576: true; the input reads as it did. -/
def shaBlocksUptoRow : OpenClaim := { program := "ytbbillankhofkaadoor", sum := "599f49e7c3a7223b3c1099812f9388216a454bd11f49c81aebe3ac7217b2b859", func := "taximeter/taximeterlaw03.ShaBlocks", spec := "shaBlocks", named := ["taximeter/sha.constants"], apart := false, laid := [("taximeter/sha.constants", laid_taximeter_sha_constants)], narrowed := true }
def ShaBlocksUptoSaid : Prop := shaBlocksUptoRow.holds Tryd.pinned (OpenSpec.upto shaBlocksSpec)

/-- 'taximeterlaw03.ShaPads', WHERE WHAT IT READS IS OF BULK AT MOST 1048576: true; the input reads as it did. -/
def shaPadsUptoRow : OpenClaim := { program := "ytbbillankhofkaadoor", sum := "599f49e7c3a7223b3c1099812f9388216a454bd11f49c81aebe3ac7217b2b859", func := "taximeter/taximeterlaw03.ShaPads", spec := "shaPads", named := ["taximeter/sha.constants"], apart := false, laid := [("taximeter/sha.constants", laid_taximeter_sha_constants)], narrowed := true }
def ShaPadsUptoSaid : Prop := shaPadsUptoRow.holds Tryd.pinned (OpenSpec.upto shaPadsSpec)

/-- 'taximeterlaw03.ShaGoesOn', WHERE WHAT IT READS IS OF BULK AT MOST 1048576: true; the input reads as it did. -/
def shaGoesOnUptoRow : OpenClaim := { program := "ytbbillankhofkaadoor", sum := "599f49e7c3a7223b3c1099812f9388216a454bd11f49c81aebe3ac7217b2b859", func := "taximeter/taximeterlaw03.ShaGoesOn", spec := "shaGoesOn", named := ["taximeter/sha.constants"], apart := false, laid := [("taximeter/sha.constants", laid_taximeter_sha_constants)], narrowed := true }
def ShaGoesOnUptoSaid : Prop := shaGoesOnUptoRow.holds Tryd.pinned (OpenSpec.upto shaGoesOnSpec)

/-- 'taximeterlaw04.HmacKeys', WHERE WHAT IT READS IS OF BULK AT MOST 1048576: true; the input reads as it did. -/
def hmacKeysUptoRow : OpenClaim := { program := "ytbbillankhofkaadoor", sum := "599f49e7c3a7223b3c1099812f9388216a454bd11f49c81aebe3ac7217b2b859", func := "taximeter/taximeterlaw04.HmacKeys", spec := "hmacKeys", unfollowed := true, recurses := true, named := ["taximeter/sha.constants"], apart := false, laid := [("taximeter/sha.constants", laid_taximeter_sha_constants)], narrowed := true }
def HmacKeysUptoSaid : Prop := hmacKeysUptoRow.holds Tryd.pinned (OpenSpec.upto hmacKeysSpec)

/-- 'taximeterlaw04.HmacSame', WHERE WHAT IT READS IS OF BULK AT MOST 1048576: true; the input reads as it did. -/
def hmacSameUptoRow : OpenClaim := { program := "ytbbillankhofkaadoor", sum := "599f49e7c3a7223b3c1099812f9388216a454bd11f49c81aebe3ac7217b2b859", func := "taximeter/taximeterlaw04.HmacSame", spec := "hmacSame", unfollowed := true, recurses := true, named := ["taximeter/sha.constants"], apart := false, laid := [("taximeter/sha.constants", laid_taximeter_sha_constants)], narrowed := true }
def HmacSameUptoSaid : Prop := hmacSameUptoRow.holds Tryd.pinned (OpenSpec.upto hmacSameSpec)

/-- 'taximeterlaw04.HmacTags', WHERE WHAT IT READS IS OF BULK AT MOST 1048576: true; the input reads as it did. -/
def hmacTagsUptoRow : OpenClaim := { program := "ytbbillankhofkaadoor", sum := "599f49e7c3a7223b3c1099812f9388216a454bd11f49c81aebe3ac7217b2b859", func := "taximeter/taximeterlaw04.HmacTags", spec := "hmacTags", unfollowed := true, recurses := true, named := ["taximeter/sha.constants"], apart := false, laid := [("taximeter/sha.constants", laid_taximeter_sha_constants)], narrowed := true }
def HmacTagsUptoSaid : Prop := hmacTagsUptoRow.holds Tryd.pinned (OpenSpec.upto hmacTagsSpec)

/-- 'taximeterlaw23.AuthHellos', WHERE WHAT IT READS IS OF BULK AT MOST 1048576: true; the input reads as it did. -/
def authHellosUptoRow : OpenClaim := { program := "ytbbillankhofkaadoor", sum := "599f49e7c3a7223b3c1099812f9388216a454bd11f49c81aebe3ac7217b2b859", func := "taximeter/taximeterlaw23.AuthHellos", spec := "authHellos", unfollowed := true, recurses := true, named := ["taximeter/sha.constants"], apart := false, laid := [("taximeter/sha.constants", laid_taximeter_sha_constants)], narrowed := true }
def AuthHellosUptoSaid : Prop := authHellosUptoRow.holds Tryd.pinned (OpenSpec.upto authHellosSpec)

/-- 'taximeterlaw23.AuthRosters', WHERE WHAT IT READS IS OF BULK AT MOST 1048576: true; the input reads as it did. -/
def authRostersUptoRow : OpenClaim := { program := "ytbbillankhofkaadoor", sum := "599f49e7c3a7223b3c1099812f9388216a454bd11f49c81aebe3ac7217b2b859", func := "taximeter/taximeterlaw23.AuthRosters", spec := "authRosters", unfollowed := true, recurses := true, named := ["taximeter/sha.constants"], apart := false, laid := [("taximeter/sha.constants", laid_taximeter_sha_constants)], narrowed := true }
def AuthRostersUptoSaid : Prop := authRostersUptoRow.holds Tryd.pinned (OpenSpec.upto authRostersSpec)

end Rows
end Go.Proofs.YtbbillankhofkaaDoor
