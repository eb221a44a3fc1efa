/-
  NARROWER THAN 'FOR EVERY INPUT', by the rows' own cells (each row's printed sentence says how): KeytreeSigns: laid · KeytreeChecks: laid · KeytreeAll: laid · KeytreePaths: laid · QuorumMay: laid · QuorumChecks: laid · QuorumMore: laid · QuorumOrder: laid.
  DERIVED. THE GIVEN ROWS OF THIS SEAT. 8 by the template 'for every input the law returns true; each argument reads behind the call as it read before'; 0 by the template 'total and deterministic' (their statements: YtilfbomjaflbjaaDoorTotals.lean).
  GIVEN WITH THE SEED: the statements are not yours to turn. If you find one false, say at which input.
  Laid BY PROGRAM, IN A SANDBOX (cutbox-rows.mjs): the forced cells as the released guide's own fill.sh prints them over the translation 5ba7db0cea9a4da7… (all of the seat's roots in one cut). By AI agents, Wed Nov 11 2026. No macro, syntax, notation, axiom, sorry.
-/
import Derived.Test.YtilfbomjaflbjaaDoorChecked
import GoSem.Claim
import GoSem.ClaimJoined
import GoSem.ClaimMapViews
import Derived.JoinedTies
import Derived.KernelRfl
namespace Go.Proofs.YtilfbomjaflbjaaDoor
/- THE CELL 'sum', in the pinned program and in every row, IS THE sha256 OF THE DUMP (.gsa) THAT YtilfbomjaflbjaaDoorProg.lean LOADS. Nothing in Lean hashes anything: it is a label: what it is worth is what the hold of that sum in a sandbox is worth. -/
noncomputable def Tryd.pinned : Pinned := { name := "ytilfbomjaflbjaadoor", sum := "5ba7db0cea9a4da761c274196277e0d1bc5162adaf724a24ab7689d70c6ee94a", checked := Tryd.checked }
namespace Rows
def none {H : Type} : Left H := { results := [], args := [] }

/- WHAT THE LISTED PACKAGE-LEVEL VARIABLES READ AS WHEN THE CALL BEGINS. Each datum BY PROGRAM (the guide's laid-datum.mjs) off the statement by which the dump's own 'gosem.cut.vars' lays the variable. In a bare row this is a premise. The card (YtilfbomjaflbjaaDoorCards.lean) ties it to the program's text. -/
def laid_drawbridge_hash_steps {H : Type} : DataW H := .agg [.lit (.int .u32 1116352408), .lit (.int .u32 1899447441), .lit (.int .u32 3049323471), .lit (.int .u32 3921009573), .lit (.int .u32 961987163), .lit (.int .u32 1508970993), .lit (.int .u32 2453635748), .lit (.int .u32 2870763221), .lit (.int .u32 3624381080), .lit (.int .u32 310598401), .lit (.int .u32 607225278), .lit (.int .u32 1426881987), .lit (.int .u32 1925078388), .lit (.int .u32 2162078206), .lit (.int .u32 2614888103), .lit (.int .u32 3248222580), .lit (.int .u32 3835390401), .lit (.int .u32 4022224774), .lit (.int .u32 264347078), .lit (.int .u32 604807628), .lit (.int .u32 770255983), .lit (.int .u32 1249150122), .lit (.int .u32 1555081692), .lit (.int .u32 1996064986), .lit (.int .u32 2554220882), .lit (.int .u32 2821834349), .lit (.int .u32 2952996808), .lit (.int .u32 3210313671), .lit (.int .u32 3336571891), .lit (.int .u32 3584528711), .lit (.int .u32 113926993), .lit (.int .u32 338241895), .lit (.int .u32 666307205), .lit (.int .u32 773529912), .lit (.int .u32 1294757372), .lit (.int .u32 1396182291), .lit (.int .u32 1695183700), .lit (.int .u32 1986661051), .lit (.int .u32 2177026350), .lit (.int .u32 2456956037), .lit (.int .u32 2730485921), .lit (.int .u32 2820302411), .lit (.int .u32 3259730800), .lit (.int .u32 3345764771), .lit (.int .u32 3516065817), .lit (.int .u32 3600352804), .lit (.int .u32 4094571909), .lit (.int .u32 275423344), .lit (.int .u32 430227734), .lit (.int .u32 506948616), .lit (.int .u32 659060556), .lit (.int .u32 883997877), .lit (.int .u32 958139571), .lit (.int .u32 1322822218), .lit (.int .u32 1537002063), .lit (.int .u32 1747873779), .lit (.int .u32 1955562222), .lit (.int .u32 2024104815), .lit (.int .u32 2227730452), .lit (.int .u32 2361852424), .lit (.int .u32 2428436474), .lit (.int .u32 2756734187), .lit (.int .u32 3204031479), .lit (.int .u32 3329325298)]

/-- 'drawbridgelaw8.KeytreeSigns': WHATEVER THE INPUT: true; the input reads as it did. -/
def keytreeSignsSpec : ChangeSpec := { name := "keytreeSigns", fn := fun _ => fun
  | [d1, d2, d3] => { results := [.lit (.bool true)], args := [d1, d2, d3] }
  | _ => none }
def keytreeSignsRow : OpenClaim := { program := "ytilfbomjaflbjaadoor", sum := "5ba7db0cea9a4da761c274196277e0d1bc5162adaf724a24ab7689d70c6ee94a", func := "drawbridge/drawbridgelaw8.KeytreeSigns", spec := "keytreeSigns", recurses := true, named := ["drawbridge/hash.steps"], apart := false, laid := [("drawbridge/hash.steps", laid_drawbridge_hash_steps)] }
def KeytreeSignsSaid : Prop := keytreeSignsRow.holds Tryd.pinned (OpenSpec.ofChange keytreeSignsSpec)

/-- ITS FALSE NEIGHBOUR: 'it returns false'. Refute it at one input. -/
def keytreeSignsWrong : ChangeSpec := { name := "keytreeSigns", fn := fun _ => fun
  | [d1, d2, d3] => { results := [.lit (.bool false)], args := [d1, d2, d3] }
  | _ => none }
def KeytreeSignsWrongFalsely : Prop := keytreeSignsRow.holds Tryd.pinned (OpenSpec.ofChange keytreeSignsWrong)

/-- 'drawbridgelaw8.KeytreeChecks': WHATEVER THE INPUT: true; the input reads as it did. -/
def keytreeChecksSpec : ChangeSpec := { name := "keytreeChecks", fn := fun _ => fun
  | [d1, d2, d3] => { results := [.lit (.bool true)], args := [d1, d2, d3] }
  | _ => none }
def keytreeChecksRow : OpenClaim := { program := "ytilfbomjaflbjaadoor", sum := "5ba7db0cea9a4da761c274196277e0d1bc5162adaf724a24ab7689d70c6ee94a", func := "drawbridge/drawbridgelaw8.KeytreeChecks", spec := "keytreeChecks", recurses := true, named := ["drawbridge/hash.steps"], apart := false, laid := [("drawbridge/hash.steps", laid_drawbridge_hash_steps)] }
def KeytreeChecksSaid : Prop := keytreeChecksRow.holds Tryd.pinned (OpenSpec.ofChange keytreeChecksSpec)

/-- ITS FALSE NEIGHBOUR: 'it returns false'. Refute it at one input. -/
def keytreeChecksWrong : ChangeSpec := { name := "keytreeChecks", fn := fun _ => fun
  | [d1, d2, d3] => { results := [.lit (.bool false)], args := [d1, d2, d3] }
  | _ => none }
def KeytreeChecksWrongFalsely : Prop := keytreeChecksRow.holds Tryd.pinned (OpenSpec.ofChange keytreeChecksWrong)

/-- 'drawbridgelaw8.KeytreeAll': WHATEVER THE INPUT: true; the input reads as it did. -/
def keytreeAllSpec : ChangeSpec := { name := "keytreeAll", fn := fun _ => fun
  | [d1, d2] => { results := [.lit (.bool true)], args := [d1, d2] }
  | _ => none }
def keytreeAllRow : OpenClaim := { program := "ytilfbomjaflbjaadoor", sum := "5ba7db0cea9a4da761c274196277e0d1bc5162adaf724a24ab7689d70c6ee94a", func := "drawbridge/drawbridgelaw8.KeytreeAll", spec := "keytreeAll", recurses := true, named := ["drawbridge/hash.steps"], apart := false, laid := [("drawbridge/hash.steps", laid_drawbridge_hash_steps)] }
def KeytreeAllSaid : Prop := keytreeAllRow.holds Tryd.pinned (OpenSpec.ofChange keytreeAllSpec)

/-- ITS FALSE NEIGHBOUR: 'it returns false'. Refute it at one input. -/
def keytreeAllWrong : ChangeSpec := { name := "keytreeAll", fn := fun _ => fun
  | [d1, d2] => { results := [.lit (.bool false)], args := [d1, d2] }
  | _ => none }
def KeytreeAllWrongFalsely : Prop := keytreeAllRow.holds Tryd.pinned (OpenSpec.ofChange keytreeAllWrong)

/-- 'drawbridgelaw8.KeytreePaths': WHATEVER THE INPUT: true; the input reads as it did. -/
def keytreePathsSpec : ChangeSpec := { name := "keytreePaths", fn := fun _ => fun
  | [d1, d2] => { results := [.lit (.bool true)], args := [d1, d2] }
  | _ => none }
def keytreePathsRow : OpenClaim := { program := "ytilfbomjaflbjaadoor", sum := "5ba7db0cea9a4da761c274196277e0d1bc5162adaf724a24ab7689d70c6ee94a", func := "drawbridge/drawbridgelaw8.KeytreePaths", spec := "keytreePaths", recurses := true, named := ["drawbridge/hash.steps"], apart := false, laid := [("drawbridge/hash.steps", laid_drawbridge_hash_steps)] }
def KeytreePathsSaid : Prop := keytreePathsRow.holds Tryd.pinned (OpenSpec.ofChange keytreePathsSpec)

/-- ITS FALSE NEIGHBOUR: 'it returns false'. Refute it at one input. -/
def keytreePathsWrong : ChangeSpec := { name := "keytreePaths", fn := fun _ => fun
  | [d1, d2] => { results := [.lit (.bool false)], args := [d1, d2] }
  | _ => none }
def KeytreePathsWrongFalsely : Prop := keytreePathsRow.holds Tryd.pinned (OpenSpec.ofChange keytreePathsWrong)

/-- 'drawbridgelaw9.QuorumMay': WHATEVER THE INPUT: true; the input reads as it did. -/
def quorumMaySpec : ChangeSpec := { name := "quorumMay", fn := fun _ => fun
  | [d] => { results := [.lit (.bool true)], args := [d] }
  | _ => none }
def quorumMayRow : OpenClaim := { program := "ytilfbomjaflbjaadoor", sum := "5ba7db0cea9a4da761c274196277e0d1bc5162adaf724a24ab7689d70c6ee94a", func := "drawbridge/drawbridgelaw9.QuorumMay", spec := "quorumMay", recurses := true, named := ["drawbridge/hash.steps"], apart := false, laid := [("drawbridge/hash.steps", laid_drawbridge_hash_steps)] }
def QuorumMaySaid : Prop := quorumMayRow.holds Tryd.pinned (OpenSpec.ofChange quorumMaySpec)

/-- ITS FALSE NEIGHBOUR: 'it returns false'. Refute it at one input. -/
def quorumMayWrong : ChangeSpec := { name := "quorumMay", fn := fun _ => fun
  | [d] => { results := [.lit (.bool false)], args := [d] }
  | _ => none }
def QuorumMayWrongFalsely : Prop := quorumMayRow.holds Tryd.pinned (OpenSpec.ofChange quorumMayWrong)

/-- 'drawbridgelaw9.QuorumChecks': WHATEVER THE INPUT: true; the input reads as it did. -/
def quorumChecksSpec : ChangeSpec := { name := "quorumChecks", fn := fun _ => fun
  | [d1, d2, d3] => { results := [.lit (.bool true)], args := [d1, d2, d3] }
  | _ => none }
def quorumChecksRow : OpenClaim := { program := "ytilfbomjaflbjaadoor", sum := "5ba7db0cea9a4da761c274196277e0d1bc5162adaf724a24ab7689d70c6ee94a", func := "drawbridge/drawbridgelaw9.QuorumChecks", spec := "quorumChecks", recurses := true, named := ["drawbridge/hash.steps"], apart := false, laid := [("drawbridge/hash.steps", laid_drawbridge_hash_steps)] }
def QuorumChecksSaid : Prop := quorumChecksRow.holds Tryd.pinned (OpenSpec.ofChange quorumChecksSpec)

/-- ITS FALSE NEIGHBOUR: 'it returns false'. Refute it at one input. -/
def quorumChecksWrong : ChangeSpec := { name := "quorumChecks", fn := fun _ => fun
  | [d1, d2, d3] => { results := [.lit (.bool false)], args := [d1, d2, d3] }
  | _ => none }
def QuorumChecksWrongFalsely : Prop := quorumChecksRow.holds Tryd.pinned (OpenSpec.ofChange quorumChecksWrong)

/-- 'drawbridgelaw9.QuorumMore': WHATEVER THE INPUT: true; the input reads as it did. -/
def quorumMoreSpec : ChangeSpec := { name := "quorumMore", fn := fun _ => fun
  | [d1, d2, d3] => { results := [.lit (.bool true)], args := [d1, d2, d3] }
  | _ => none }
def quorumMoreRow : OpenClaim := { program := "ytilfbomjaflbjaadoor", sum := "5ba7db0cea9a4da761c274196277e0d1bc5162adaf724a24ab7689d70c6ee94a", func := "drawbridge/drawbridgelaw9.QuorumMore", spec := "quorumMore", recurses := true, named := ["drawbridge/hash.steps"], apart := false, laid := [("drawbridge/hash.steps", laid_drawbridge_hash_steps)] }
def QuorumMoreSaid : Prop := quorumMoreRow.holds Tryd.pinned (OpenSpec.ofChange quorumMoreSpec)

/-- ITS FALSE NEIGHBOUR: 'it returns false'. Refute it at one input. -/
def quorumMoreWrong : ChangeSpec := { name := "quorumMore", fn := fun _ => fun
  | [d1, d2, d3] => { results := [.lit (.bool false)], args := [d1, d2, d3] }
  | _ => none }
def QuorumMoreWrongFalsely : Prop := quorumMoreRow.holds Tryd.pinned (OpenSpec.ofChange quorumMoreWrong)

/-- 'drawbridgelaw9.QuorumOrder': WHATEVER THE INPUT: true; the input reads as it did. -/
def quorumOrderSpec : ChangeSpec := { name := "quorumOrder", fn := fun _ => fun
  | [d1, d2, d3] => { results := [.lit (.bool true)], args := [d1, d2, d3] }
  | _ => none }
def quorumOrderRow : OpenClaim := { program := "ytilfbomjaflbjaadoor", sum := "5ba7db0cea9a4da761c274196277e0d1bc5162adaf724a24ab7689d70c6ee94a", func := "drawbridge/drawbridgelaw9.QuorumOrder", spec := "quorumOrder", recurses := true, named := ["drawbridge/hash.steps"], apart := false, laid := [("drawbridge/hash.steps", laid_drawbridge_hash_steps)] }
def QuorumOrderSaid : Prop := quorumOrderRow.holds Tryd.pinned (OpenSpec.ofChange quorumOrderSpec)

/-- ITS FALSE NEIGHBOUR: 'it returns false'. Refute it at one input. -/
def quorumOrderWrong : ChangeSpec := { name := "quorumOrder", fn := fun _ => fun
  | [d1, d2, d3] => { results := [.lit (.bool false)], args := [d1, d2, d3] }
  | _ => none }
def QuorumOrderWrongFalsely : Prop := quorumOrderRow.holds Tryd.pinned (OpenSpec.ofChange quorumOrderWrong)

/- THE SECOND FORM. 'bulk': how many values and letters a reading holds, each counted each time it is reached (what is shared counts as often as it is met; a slice's spare places count too). A statement '..UptoSaid' is the law's where the arguments, and the package variables that the reading takes, are together of bulk at most 1048576: NARROWER than '..Said'. Prove '..Said' where nothing that the law and all that it calls make is longer than what came in: it says more and counts as full. Else prove '..UptoSaid'. A law counts once. -/
mutual
def uptoBulk {H : Type} : DataW H → Nat
  | .lit (.string bytes) => bytes.length + 1
  | .lit _ => 1
  | .nil => 1
  | .ptr d => uptoBulk d + 1
  | .slice elems spare => uptoBulkAll elems + uptoBulkAll spare + 1
  | .agg parts => uptoBulkAll parts + 1
  | .iface _ d => uptoBulk d + 1
  | .map entries => uptoBulkEntries entries + 1
  | .held _ => 1
def uptoBulkAll {H : Type} : List (DataW H) → Nat
  | [] => 0
  | d :: r => uptoBulk d + uptoBulkAll r
def uptoBulkEntries {H : Type} : List (Lit × DataW H) → Nat
  | [] => 0
  | x :: r => uptoBulkEntry x + uptoBulkEntries r
def uptoBulkEntry {H : Type} : Lit × DataW H → Nat
  | (.string bytes, d) => bytes.length + uptoBulk d + 1
  | (_, d) => uptoBulk d + 1
 end
def uptoSmall : (H : Type) → List (DataW H) → Bool := fun _ ds => decide (uptoBulkAll ds ≤ 1048576)
def OpenSpec.upto (s : _root_.Go.ChangeSpec) : _root_.Go.OpenSpec := { _root_.Go.OpenSpec.ofChange s with cond := some uptoSmall }

/-- 'drawbridgelaw8.KeytreeSigns', WHERE WHAT IT READS IS OF BULK AT MOST 1048576: true; the input reads as it did. -/
def keytreeSignsUptoRow : OpenClaim := { program := "ytilfbomjaflbjaadoor", sum := "5ba7db0cea9a4da761c274196277e0d1bc5162adaf724a24ab7689d70c6ee94a", func := "drawbridge/drawbridgelaw8.KeytreeSigns", spec := "keytreeSigns", recurses := true, named := ["drawbridge/hash.steps"], apart := false, laid := [("drawbridge/hash.steps", laid_drawbridge_hash_steps)], narrowed := true }
def KeytreeSignsUptoSaid : Prop := keytreeSignsUptoRow.holds Tryd.pinned (OpenSpec.upto keytreeSignsSpec)

/-- 'drawbridgelaw8.KeytreeChecks', WHERE WHAT IT READS IS OF BULK AT MOST 1048576: true; the input reads as it did. -/
def keytreeChecksUptoRow : OpenClaim := { program := "ytilfbomjaflbjaadoor", sum := "5ba7db0cea9a4da761c274196277e0d1bc5162adaf724a24ab7689d70c6ee94a", func := "drawbridge/drawbridgelaw8.KeytreeChecks", spec := "keytreeChecks", recurses := true, named := ["drawbridge/hash.steps"], apart := false, laid := [("drawbridge/hash.steps", laid_drawbridge_hash_steps)], narrowed := true }
def KeytreeChecksUptoSaid : Prop := keytreeChecksUptoRow.holds Tryd.pinned (OpenSpec.upto keytreeChecksSpec)

/-- 'drawbridgelaw8.KeytreeAll', WHERE WHAT IT READS IS OF BULK AT MOST 1048576: true; the input reads as it did. -/
def keytreeAllUptoRow : OpenClaim := { program := "ytilfbomjaflbjaadoor", sum := "5ba7db0cea9a4da761c274196277e0d1bc5162adaf724a24ab7689d70c6ee94a", func := "drawbridge/drawbridgelaw8.KeytreeAll", spec := "keytreeAll", recurses := true, named := ["drawbridge/hash.steps"], apart := false, laid := [("drawbridge/hash.steps", laid_drawbridge_hash_steps)], narrowed := true }
def KeytreeAllUptoSaid : Prop := keytreeAllUptoRow.holds Tryd.pinned (OpenSpec.upto keytreeAllSpec)

/-- 'drawbridgelaw8.KeytreePaths', WHERE WHAT IT READS IS OF BULK AT MOST 1048576: true; the input reads as it did. -/
def keytreePathsUptoRow : OpenClaim := { program := "ytilfbomjaflbjaadoor", sum := "5ba7db0cea9a4da761c274196277e0d1bc5162adaf724a24ab7689d70c6ee94a", func := "drawbridge/drawbridgelaw8.KeytreePaths", spec := "keytreePaths", recurses := true, named := ["drawbridge/hash.steps"], apart := false, laid := [("drawbridge/hash.steps", laid_drawbridge_hash_steps)], narrowed := true }
def KeytreePathsUptoSaid : Prop := keytreePathsUptoRow.holds Tryd.pinned (OpenSpec.upto keytreePathsSpec)

/-- 'drawbridgelaw9.QuorumMay', WHERE WHAT IT READS IS OF BULK AT MOST 1048576: true; the input reads as it did. -/
def quorumMayUptoRow : OpenClaim := { program := "ytilfbomjaflbjaadoor", sum := "5ba7db0cea9a4da761c274196277e0d1bc5162adaf724a24ab7689d70c6ee94a", func := "drawbridge/drawbridgelaw9.QuorumMay", spec := "quorumMay", recurses := true, named := ["drawbridge/hash.steps"], apart := false, laid := [("drawbridge/hash.steps", laid_drawbridge_hash_steps)], narrowed := true }
def QuorumMayUptoSaid : Prop := quorumMayUptoRow.holds Tryd.pinned (OpenSpec.upto quorumMaySpec)

/-- 'drawbridgelaw9.QuorumChecks', WHERE WHAT IT READS IS OF BULK AT MOST 1048576: true; the input reads as it did. -/
def quorumChecksUptoRow : OpenClaim := { program := "ytilfbomjaflbjaadoor", sum := "5ba7db0cea9a4da761c274196277e0d1bc5162adaf724a24ab7689d70c6ee94a", func := "drawbridge/drawbridgelaw9.QuorumChecks", spec := "quorumChecks", recurses := true, named := ["drawbridge/hash.steps"], apart := false, laid := [("drawbridge/hash.steps", laid_drawbridge_hash_steps)], narrowed := true }
def QuorumChecksUptoSaid : Prop := quorumChecksUptoRow.holds Tryd.pinned (OpenSpec.upto quorumChecksSpec)

/-- 'drawbridgelaw9.QuorumMore', WHERE WHAT IT READS IS OF BULK AT MOST 1048576: true; the input reads as it did. -/
def quorumMoreUptoRow : OpenClaim := { program := "ytilfbomjaflbjaadoor", sum := "5ba7db0cea9a4da761c274196277e0d1bc5162adaf724a24ab7689d70c6ee94a", func := "drawbridge/drawbridgelaw9.QuorumMore", spec := "quorumMore", recurses := true, named := ["drawbridge/hash.steps"], apart := false, laid := [("drawbridge/hash.steps", laid_drawbridge_hash_steps)], narrowed := true }
def QuorumMoreUptoSaid : Prop := quorumMoreUptoRow.holds Tryd.pinned (OpenSpec.upto quorumMoreSpec)

/-- 'drawbridgelaw9.QuorumOrder', WHERE WHAT IT READS IS OF BULK AT MOST 1048576: true; the input reads as it did. -/
def quorumOrderUptoRow : OpenClaim := { program := "ytilfbomjaflbjaadoor", sum := "5ba7db0cea9a4da761c274196277e0d1bc5162adaf724a24ab7689d70c6ee94a", func := "drawbridge/drawbridgelaw9.QuorumOrder", spec := "quorumOrder", recurses := true, named := ["drawbridge/hash.steps"], apart := false, laid := [("drawbridge/hash.steps", laid_drawbridge_hash_steps)], narrowed := true }
def QuorumOrderUptoSaid : Prop := quorumOrderUptoRow.holds Tryd.pinned (OpenSpec.upto quorumOrderSpec)

end Rows
end Go.Proofs.YtilfbomjaflbjaaDoor
