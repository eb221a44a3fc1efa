/-
  NARROWER THAN 'FOR EVERY INPUT', by the rows' own cells (each row's printed sentence says how): LamportSigns: laid · LamportReads: laid · LamportHalves: laid · LamportKeys: laid · LamportTwo: laid · MerkleMakes: laid · MerkleProves: laid · MerkleChecks: laid · MerkleParts: laid.
  DERIVED. THE GIVEN ROWS OF THIS SEAT. 9 by the template 'for every input the law returns true; each argument reads behind the call as it read before'; 0 by the template 'total and deterministic' (their statements: YtnkogpfmfmjhoaaDoorTotals.lean).
  GIVEN WITH THE SEED: the statements are not yours to turn. If you find one false, say at which input.
  Laid BY PROGRAM, IN A SANDBOX (cutbox-rows.mjs): the forced cells as the released guide's own fill.sh prints them over the translation e10346ee6ce40663… (all of the seat's roots in one cut). By AI agents, Wed Nov 11 2026. No macro, syntax, notation, axiom, sorry.
-/
import Derived.Test.YtnkogpfmfmjhoaaDoorChecked
import GoSem.Claim
import GoSem.ClaimJoined
import GoSem.ClaimMapViews
import Derived.JoinedTies
import Derived.KernelRfl
namespace Go.Proofs.YtnkogpfmfmjhoaaDoor
/- THE CELL 'sum', in the pinned program and in every row, IS THE sha256 OF THE DUMP (.gsa) THAT YtnkogpfmfmjhoaaDoorProg.lean LOADS. Nothing in Lean hashes anything: it is a label: what it is worth is what the hold of that sum in a sandbox is worth. -/
noncomputable def Tryd.pinned : Pinned := { name := "ytnkogpfmfmjhoaadoor", sum := "e10346ee6ce406639c7e6d11872a7c45419b172c3978a6a33b3dbed5dcc590aa", checked := Tryd.checked }
namespace Rows
def none {H : Type} : Left H := { results := [], args := [] }

/- WHAT THE LISTED PACKAGE-LEVEL VARIABLES READ AS WHEN THE CALL BEGINS. Each datum BY PROGRAM (the guide's laid-datum.mjs) off the statement by which the dump's own 'gosem.cut.vars' lays the variable. In a bare row this is a premise. The card (YtnkogpfmfmjhoaaDoorCards.lean) ties it to the program's text. -/
def laid_drawbridge_hash_steps {H : Type} : DataW H := .agg [.lit (.int .u32 1116352408), .lit (.int .u32 1899447441), .lit (.int .u32 3049323471), .lit (.int .u32 3921009573), .lit (.int .u32 961987163), .lit (.int .u32 1508970993), .lit (.int .u32 2453635748), .lit (.int .u32 2870763221), .lit (.int .u32 3624381080), .lit (.int .u32 310598401), .lit (.int .u32 607225278), .lit (.int .u32 1426881987), .lit (.int .u32 1925078388), .lit (.int .u32 2162078206), .lit (.int .u32 2614888103), .lit (.int .u32 3248222580), .lit (.int .u32 3835390401), .lit (.int .u32 4022224774), .lit (.int .u32 264347078), .lit (.int .u32 604807628), .lit (.int .u32 770255983), .lit (.int .u32 1249150122), .lit (.int .u32 1555081692), .lit (.int .u32 1996064986), .lit (.int .u32 2554220882), .lit (.int .u32 2821834349), .lit (.int .u32 2952996808), .lit (.int .u32 3210313671), .lit (.int .u32 3336571891), .lit (.int .u32 3584528711), .lit (.int .u32 113926993), .lit (.int .u32 338241895), .lit (.int .u32 666307205), .lit (.int .u32 773529912), .lit (.int .u32 1294757372), .lit (.int .u32 1396182291), .lit (.int .u32 1695183700), .lit (.int .u32 1986661051), .lit (.int .u32 2177026350), .lit (.int .u32 2456956037), .lit (.int .u32 2730485921), .lit (.int .u32 2820302411), .lit (.int .u32 3259730800), .lit (.int .u32 3345764771), .lit (.int .u32 3516065817), .lit (.int .u32 3600352804), .lit (.int .u32 4094571909), .lit (.int .u32 275423344), .lit (.int .u32 430227734), .lit (.int .u32 506948616), .lit (.int .u32 659060556), .lit (.int .u32 883997877), .lit (.int .u32 958139571), .lit (.int .u32 1322822218), .lit (.int .u32 1537002063), .lit (.int .u32 1747873779), .lit (.int .u32 1955562222), .lit (.int .u32 2024104815), .lit (.int .u32 2227730452), .lit (.int .u32 2361852424), .lit (.int .u32 2428436474), .lit (.int .u32 2756734187), .lit (.int .u32 3204031479), .lit (.int .u32 3329325298)]

/-- 'drawbridgelaw7.LamportSigns': WHATEVER THE INPUT: true; the input reads as it did. -/
def lamportSignsSpec : ChangeSpec := { name := "lamportSigns", fn := fun _ => fun
  | [d1, d2, d3] => { results := [.lit (.bool true)], args := [d1, d2, d3] }
  | _ => none }
def lamportSignsRow : OpenClaim := { program := "ytnkogpfmfmjhoaadoor", sum := "e10346ee6ce406639c7e6d11872a7c45419b172c3978a6a33b3dbed5dcc590aa", func := "drawbridge/drawbridgelaw7.LamportSigns", spec := "lamportSigns", named := ["drawbridge/hash.steps"], apart := false, laid := [("drawbridge/hash.steps", laid_drawbridge_hash_steps)] }
def LamportSignsSaid : Prop := lamportSignsRow.holds Tryd.pinned (OpenSpec.ofChange lamportSignsSpec)

/-- ITS FALSE NEIGHBOUR: 'it returns false'. Refute it at one input. -/
def lamportSignsWrong : ChangeSpec := { name := "lamportSigns", fn := fun _ => fun
  | [d1, d2, d3] => { results := [.lit (.bool false)], args := [d1, d2, d3] }
  | _ => none }
def LamportSignsWrongFalsely : Prop := lamportSignsRow.holds Tryd.pinned (OpenSpec.ofChange lamportSignsWrong)

/-- 'drawbridgelaw7.LamportReads': WHATEVER THE INPUT: true; the input reads as it did. -/
def lamportReadsSpec : ChangeSpec := { name := "lamportReads", fn := fun _ => fun
  | [d1, d2, d3] => { results := [.lit (.bool true)], args := [d1, d2, d3] }
  | _ => none }
def lamportReadsRow : OpenClaim := { program := "ytnkogpfmfmjhoaadoor", sum := "e10346ee6ce406639c7e6d11872a7c45419b172c3978a6a33b3dbed5dcc590aa", func := "drawbridge/drawbridgelaw7.LamportReads", spec := "lamportReads", named := ["drawbridge/hash.steps"], apart := false, laid := [("drawbridge/hash.steps", laid_drawbridge_hash_steps)] }
def LamportReadsSaid : Prop := lamportReadsRow.holds Tryd.pinned (OpenSpec.ofChange lamportReadsSpec)

/-- ITS FALSE NEIGHBOUR: 'it returns false'. Refute it at one input. -/
def lamportReadsWrong : ChangeSpec := { name := "lamportReads", fn := fun _ => fun
  | [d1, d2, d3] => { results := [.lit (.bool false)], args := [d1, d2, d3] }
  | _ => none }
def LamportReadsWrongFalsely : Prop := lamportReadsRow.holds Tryd.pinned (OpenSpec.ofChange lamportReadsWrong)

/-- 'drawbridgelaw7.LamportHalves': WHATEVER THE INPUT: true; the input reads as it did. -/
def lamportHalvesSpec : ChangeSpec := { name := "lamportHalves", fn := fun _ => fun
  | [d1, d2, d3] => { results := [.lit (.bool true)], args := [d1, d2, d3] }
  | _ => none }
def lamportHalvesRow : OpenClaim := { program := "ytnkogpfmfmjhoaadoor", sum := "e10346ee6ce406639c7e6d11872a7c45419b172c3978a6a33b3dbed5dcc590aa", func := "drawbridge/drawbridgelaw7.LamportHalves", spec := "lamportHalves", named := ["drawbridge/hash.steps"], apart := false, laid := [("drawbridge/hash.steps", laid_drawbridge_hash_steps)] }
def LamportHalvesSaid : Prop := lamportHalvesRow.holds Tryd.pinned (OpenSpec.ofChange lamportHalvesSpec)

/-- ITS FALSE NEIGHBOUR: 'it returns false'. Refute it at one input. -/
def lamportHalvesWrong : ChangeSpec := { name := "lamportHalves", fn := fun _ => fun
  | [d1, d2, d3] => { results := [.lit (.bool false)], args := [d1, d2, d3] }
  | _ => none }
def LamportHalvesWrongFalsely : Prop := lamportHalvesRow.holds Tryd.pinned (OpenSpec.ofChange lamportHalvesWrong)

/-- 'drawbridgelaw7.LamportKeys': WHATEVER THE INPUT: true; the input reads as it did. -/
def lamportKeysSpec : ChangeSpec := { name := "lamportKeys", fn := fun _ => fun
  | [d1, d2] => { results := [.lit (.bool true)], args := [d1, d2] }
  | _ => none }
def lamportKeysRow : OpenClaim := { program := "ytnkogpfmfmjhoaadoor", sum := "e10346ee6ce406639c7e6d11872a7c45419b172c3978a6a33b3dbed5dcc590aa", func := "drawbridge/drawbridgelaw7.LamportKeys", spec := "lamportKeys", named := ["drawbridge/hash.steps"], apart := false, laid := [("drawbridge/hash.steps", laid_drawbridge_hash_steps)] }
def LamportKeysSaid : Prop := lamportKeysRow.holds Tryd.pinned (OpenSpec.ofChange lamportKeysSpec)

/-- ITS FALSE NEIGHBOUR: 'it returns false'. Refute it at one input. -/
def lamportKeysWrong : ChangeSpec := { name := "lamportKeys", fn := fun _ => fun
  | [d1, d2] => { results := [.lit (.bool false)], args := [d1, d2] }
  | _ => none }
def LamportKeysWrongFalsely : Prop := lamportKeysRow.holds Tryd.pinned (OpenSpec.ofChange lamportKeysWrong)

/-- 'drawbridgelaw7.LamportTwo': WHATEVER THE INPUT: true; the input reads as it did. -/
def lamportTwoSpec : ChangeSpec := { name := "lamportTwo", fn := fun _ => fun
  | [d1, d2, d3] => { results := [.lit (.bool true)], args := [d1, d2, d3] }
  | _ => none }
def lamportTwoRow : OpenClaim := { program := "ytnkogpfmfmjhoaadoor", sum := "e10346ee6ce406639c7e6d11872a7c45419b172c3978a6a33b3dbed5dcc590aa", func := "drawbridge/drawbridgelaw7.LamportTwo", spec := "lamportTwo", named := ["drawbridge/hash.steps"], apart := false, laid := [("drawbridge/hash.steps", laid_drawbridge_hash_steps)] }
def LamportTwoSaid : Prop := lamportTwoRow.holds Tryd.pinned (OpenSpec.ofChange lamportTwoSpec)

/-- ITS FALSE NEIGHBOUR: 'it returns false'. Refute it at one input. -/
def lamportTwoWrong : ChangeSpec := { name := "lamportTwo", fn := fun _ => fun
  | [d1, d2, d3] => { results := [.lit (.bool false)], args := [d1, d2, d3] }
  | _ => none }
def LamportTwoWrongFalsely : Prop := lamportTwoRow.holds Tryd.pinned (OpenSpec.ofChange lamportTwoWrong)

/-- 'drawbridgelaw5.MerkleMakes': WHATEVER THE INPUT: true; the input reads as it did. -/
def merkleMakesSpec : ChangeSpec := { name := "merkleMakes", fn := fun _ => fun
  | [d1, d2] => { results := [.lit (.bool true)], args := [d1, d2] }
  | _ => none }
def merkleMakesRow : OpenClaim := { program := "ytnkogpfmfmjhoaadoor", sum := "e10346ee6ce406639c7e6d11872a7c45419b172c3978a6a33b3dbed5dcc590aa", func := "drawbridge/drawbridgelaw5.MerkleMakes", spec := "merkleMakes", recurses := true, named := ["drawbridge/hash.steps"], apart := false, laid := [("drawbridge/hash.steps", laid_drawbridge_hash_steps)] }
def MerkleMakesSaid : Prop := merkleMakesRow.holds Tryd.pinned (OpenSpec.ofChange merkleMakesSpec)

/-- ITS FALSE NEIGHBOUR: 'it returns false'. Refute it at one input. -/
def merkleMakesWrong : ChangeSpec := { name := "merkleMakes", fn := fun _ => fun
  | [d1, d2] => { results := [.lit (.bool false)], args := [d1, d2] }
  | _ => none }
def MerkleMakesWrongFalsely : Prop := merkleMakesRow.holds Tryd.pinned (OpenSpec.ofChange merkleMakesWrong)

/-- 'drawbridgelaw5.MerkleProves': WHATEVER THE INPUT: true; the input reads as it did. -/
def merkleProvesSpec : ChangeSpec := { name := "merkleProves", fn := fun _ => fun
  | [d1, d2] => { results := [.lit (.bool true)], args := [d1, d2] }
  | _ => none }
def merkleProvesRow : OpenClaim := { program := "ytnkogpfmfmjhoaadoor", sum := "e10346ee6ce406639c7e6d11872a7c45419b172c3978a6a33b3dbed5dcc590aa", func := "drawbridge/drawbridgelaw5.MerkleProves", spec := "merkleProves", recurses := true, named := ["drawbridge/hash.steps"], apart := false, laid := [("drawbridge/hash.steps", laid_drawbridge_hash_steps)] }
def MerkleProvesSaid : Prop := merkleProvesRow.holds Tryd.pinned (OpenSpec.ofChange merkleProvesSpec)

/-- ITS FALSE NEIGHBOUR: 'it returns false'. Refute it at one input. -/
def merkleProvesWrong : ChangeSpec := { name := "merkleProves", fn := fun _ => fun
  | [d1, d2] => { results := [.lit (.bool false)], args := [d1, d2] }
  | _ => none }
def MerkleProvesWrongFalsely : Prop := merkleProvesRow.holds Tryd.pinned (OpenSpec.ofChange merkleProvesWrong)

/-- 'drawbridgelaw5.MerkleChecks': WHATEVER THE INPUT: true; the input reads as it did. -/
def merkleChecksSpec : ChangeSpec := { name := "merkleChecks", fn := fun _ => fun
  | [d1, d2, d3] => { results := [.lit (.bool true)], args := [d1, d2, d3] }
  | _ => none }
def merkleChecksRow : OpenClaim := { program := "ytnkogpfmfmjhoaadoor", sum := "e10346ee6ce406639c7e6d11872a7c45419b172c3978a6a33b3dbed5dcc590aa", func := "drawbridge/drawbridgelaw5.MerkleChecks", spec := "merkleChecks", recurses := true, named := ["drawbridge/hash.steps"], apart := false, laid := [("drawbridge/hash.steps", laid_drawbridge_hash_steps)] }
def MerkleChecksSaid : Prop := merkleChecksRow.holds Tryd.pinned (OpenSpec.ofChange merkleChecksSpec)

/-- ITS FALSE NEIGHBOUR: 'it returns false'. Refute it at one input. -/
def merkleChecksWrong : ChangeSpec := { name := "merkleChecks", fn := fun _ => fun
  | [d1, d2, d3] => { results := [.lit (.bool false)], args := [d1, d2, d3] }
  | _ => none }
def MerkleChecksWrongFalsely : Prop := merkleChecksRow.holds Tryd.pinned (OpenSpec.ofChange merkleChecksWrong)

/-- 'drawbridgelaw5.MerkleParts': WHATEVER THE INPUT: true; the input reads as it did. -/
def merklePartsSpec : ChangeSpec := { name := "merkleParts", fn := fun _ => fun
  | [d] => { results := [.lit (.bool true)], args := [d] }
  | _ => none }
def merklePartsRow : OpenClaim := { program := "ytnkogpfmfmjhoaadoor", sum := "e10346ee6ce406639c7e6d11872a7c45419b172c3978a6a33b3dbed5dcc590aa", func := "drawbridge/drawbridgelaw5.MerkleParts", spec := "merkleParts", recurses := true, named := ["drawbridge/hash.steps"], apart := false, laid := [("drawbridge/hash.steps", laid_drawbridge_hash_steps)] }
def MerklePartsSaid : Prop := merklePartsRow.holds Tryd.pinned (OpenSpec.ofChange merklePartsSpec)

/-- ITS FALSE NEIGHBOUR: 'it returns false'. Refute it at one input. -/
def merklePartsWrong : ChangeSpec := { name := "merkleParts", fn := fun _ => fun
  | [d] => { results := [.lit (.bool false)], args := [d] }
  | _ => none }
def MerklePartsWrongFalsely : Prop := merklePartsRow.holds Tryd.pinned (OpenSpec.ofChange merklePartsWrong)

/- THE SECOND FORM. 'bulk': how many values and letters a reading holds, each counted each time it is reached (what is shared counts as often as it is met; a slice's spare places count too). A statement '..UptoSaid' is the law's where the arguments, and the package variables that the reading takes, are together of bulk at most 1048576: NARROWER than '..Said'. Prove '..Said' where nothing that the law and all that it calls make is longer than what came in: it says more and counts as full. Else prove '..UptoSaid'. A law counts once. -/
mutual
def uptoBulk {H : Type} : DataW H → Nat
  | .lit (.string bytes) => bytes.length + 1
  | .lit _ => 1
  | .nil => 1
  | .ptr d => uptoBulk d + 1
  | .slice elems spare => uptoBulkAll elems + uptoBulkAll spare + 1
  | .agg parts => uptoBulkAll parts + 1
  | .iface _ d => uptoBulk d + 1
  | .map entries => uptoBulkEntries entries + 1
  | .held _ => 1
def uptoBulkAll {H : Type} : List (DataW H) → Nat
  | [] => 0
  | d :: r => uptoBulk d + uptoBulkAll r
def uptoBulkEntries {H : Type} : List (Lit × DataW H) → Nat
  | [] => 0
  | x :: r => uptoBulkEntry x + uptoBulkEntries r
def uptoBulkEntry {H : Type} : Lit × DataW H → Nat
  | (.string bytes, d) => bytes.length + uptoBulk d + 1
  | (_, d) => uptoBulk d + 1
 end
def uptoSmall : (H : Type) → List (DataW H) → Bool := fun _ ds => decide (uptoBulkAll ds ≤ 1048576)
def OpenSpec.upto (s : _root_.Go.ChangeSpec) : _root_.Go.OpenSpec := { _root_.Go.OpenSpec.ofChange s with cond := some uptoSmall }

/-- 'drawbridgelaw7.LamportSigns', WHERE WHAT IT READS IS OF BULK AT MOST 1048576: true; the input reads as it did. -/
def lamportSignsUptoRow : OpenClaim := { program := "ytnkogpfmfmjhoaadoor", sum := "e10346ee6ce406639c7e6d11872a7c45419b172c3978a6a33b3dbed5dcc590aa", func := "drawbridge/drawbridgelaw7.LamportSigns", spec := "lamportSigns", named := ["drawbridge/hash.steps"], apart := false, laid := [("drawbridge/hash.steps", laid_drawbridge_hash_steps)], narrowed := true }
def LamportSignsUptoSaid : Prop := lamportSignsUptoRow.holds Tryd.pinned (OpenSpec.upto lamportSignsSpec)

/-- 'drawbridgelaw7.LamportReads', WHERE WHAT IT READS IS OF BULK AT MOST 1048576: true; the input reads as it did. -/
def lamportReadsUptoRow : OpenClaim := { program := "ytnkogpfmfmjhoaadoor", sum := "e10346ee6ce406639c7e6d11872a7c45419b172c3978a6a33b3dbed5dcc590aa", func := "drawbridge/drawbridgelaw7.LamportReads", spec := "lamportReads", named := ["drawbridge/hash.steps"], apart := false, laid := [("drawbridge/hash.steps", laid_drawbridge_hash_steps)], narrowed := true }
def LamportReadsUptoSaid : Prop := lamportReadsUptoRow.holds Tryd.pinned (OpenSpec.upto lamportReadsSpec)

/-- 'drawbridgelaw7.LamportHalves', WHERE WHAT IT READS IS OF BULK AT MOST 1048576: true; the input reads as it did. -/
def lamportHalvesUptoRow : OpenClaim := { program := "ytnkogpfmfmjhoaadoor", sum := "e10346ee6ce406639c7e6d11872a7c45419b172c3978a6a33b3dbed5dcc590aa", func := "drawbridge/drawbridgelaw7.LamportHalves", spec := "lamportHalves", named := ["drawbridge/hash.steps"], apart := false, laid := [("drawbridge/hash.steps", laid_drawbridge_hash_steps)], narrowed := true }
def LamportHalvesUptoSaid : Prop := lamportHalvesUptoRow.holds Tryd.pinned (OpenSpec.upto lamportHalvesSpec)

/-- 'drawbridgelaw7.LamportKeys', WHERE WHAT IT READS IS OF BULK AT MOST 1048576: true; the input reads as it did. -/
def lamportKeysUptoRow : OpenClaim := { program := "ytnkogpfmfmjhoaadoor", sum := "e10346ee6ce406639c7e6d11872a7c45419b172c3978a6a33b3dbed5dcc590aa", func := "drawbridge/drawbridgelaw7.LamportKeys", spec := "lamportKeys", named := ["drawbridge/hash.steps"], apart := false, laid := [("drawbridge/hash.steps", laid_drawbridge_hash_steps)], narrowed := true }
def LamportKeysUptoSaid : Prop := lamportKeysUptoRow.holds Tryd.pinned (OpenSpec.upto lamportKeysSpec)

/-- 'drawbridgelaw7.LamportTwo', WHERE WHAT IT READS IS OF BULK AT MOST 1048576: true; the input reads as it did. -/
def lamportTwoUptoRow : OpenClaim := { program := "ytnkogpfmfmjhoaadoor", sum := "e10346ee6ce406639c7e6d11872a7c45419b172c3978a6a33b3dbed5dcc590aa", func := "drawbridge/drawbridgelaw7.LamportTwo", spec := "lamportTwo", named := ["drawbridge/hash.steps"], apart := false, laid := [("drawbridge/hash.steps", laid_drawbridge_hash_steps)], narrowed := true }
def LamportTwoUptoSaid : Prop := lamportTwoUptoRow.holds Tryd.pinned (OpenSpec.upto lamportTwoSpec)

/-- 'drawbridgelaw5.MerkleMakes', WHERE WHAT IT READS IS OF BULK AT MOST 1048576: true; the input reads as it did. -/
def merkleMakesUptoRow : OpenClaim := { program := "ytnkogpfmfmjhoaadoor", sum := "e10346ee6ce406639c7e6d11872a7c45419b172c3978a6a33b3dbed5dcc590aa", func := "drawbridge/drawbridgelaw5.MerkleMakes", spec := "merkleMakes", recurses := true, named := ["drawbridge/hash.steps"], apart := false, laid := [("drawbridge/hash.steps", laid_drawbridge_hash_steps)], narrowed := true }
def MerkleMakesUptoSaid : Prop := merkleMakesUptoRow.holds Tryd.pinned (OpenSpec.upto merkleMakesSpec)

/-- 'drawbridgelaw5.MerkleProves', WHERE WHAT IT READS IS OF BULK AT MOST 1048576: true; the input reads as it did. -/
def merkleProvesUptoRow : OpenClaim := { program := "ytnkogpfmfmjhoaadoor", sum := "e10346ee6ce406639c7e6d11872a7c45419b172c3978a6a33b3dbed5dcc590aa", func := "drawbridge/drawbridgelaw5.MerkleProves", spec := "merkleProves", recurses := true, named := ["drawbridge/hash.steps"], apart := false, laid := [("drawbridge/hash.steps", laid_drawbridge_hash_steps)], narrowed := true }
def MerkleProvesUptoSaid : Prop := merkleProvesUptoRow.holds Tryd.pinned (OpenSpec.upto merkleProvesSpec)

/-- 'drawbridgelaw5.MerkleChecks', WHERE WHAT IT READS IS OF BULK AT MOST 1048576: true; the input reads as it did. -/
def merkleChecksUptoRow : OpenClaim := { program := "ytnkogpfmfmjhoaadoor", sum := "e10346ee6ce406639c7e6d11872a7c45419b172c3978a6a33b3dbed5dcc590aa", func := "drawbridge/drawbridgelaw5.MerkleChecks", spec := "merkleChecks", recurses := true, named := ["drawbridge/hash.steps"], apart := false, laid := [("drawbridge/hash.steps", laid_drawbridge_hash_steps)], narrowed := true }
def MerkleChecksUptoSaid : Prop := merkleChecksUptoRow.holds Tryd.pinned (OpenSpec.upto merkleChecksSpec)

/-- 'drawbridgelaw5.MerkleParts', WHERE WHAT IT READS IS OF BULK AT MOST 1048576: true; the input reads as it did. -/
def merklePartsUptoRow : OpenClaim := { program := "ytnkogpfmfmjhoaadoor", sum := "e10346ee6ce406639c7e6d11872a7c45419b172c3978a6a33b3dbed5dcc590aa", func := "drawbridge/drawbridgelaw5.MerkleParts", spec := "merkleParts", recurses := true, named := ["drawbridge/hash.steps"], apart := false, laid := [("drawbridge/hash.steps", laid_drawbridge_hash_steps)], narrowed := true }
def MerklePartsUptoSaid : Prop := merklePartsUptoRow.holds Tryd.pinned (OpenSpec.upto merklePartsSpec)

end Rows
end Go.Proofs.YtnkogpfmfmjhoaaDoor
