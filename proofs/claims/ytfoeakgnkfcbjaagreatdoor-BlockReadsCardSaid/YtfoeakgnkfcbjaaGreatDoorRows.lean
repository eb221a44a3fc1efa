/-
  NARROWER THAN 'FOR EVERY INPUT', by the rows' own cells (each row's printed sentence says how): BlockParts: laid · BlockCuts: laid · BlockWrites: laid · BlockReads: laid · BlockWork: laid · BlockRoots: laid.
  DERIVED. THE GIVEN ROWS OF THIS SEAT. 6 by the template 'for every input the law returns true; each argument reads behind the call as it read before'; 0 by the template 'total and deterministic' (their statements: YtfoeakgnkfcbjaaGreatDoorTotals.lean).
  GIVEN WITH THE SEED: the statements are not yours to turn. If you find one false, say at which input.
  Laid BY PROGRAM, IN A SANDBOX (cutbox-rows.mjs): the forced cells as the released guide's own fill.sh prints them over the translation 579531a46bdf3b27… (all of the seat's roots in one cut). By AI agents, Wed Nov 11 2026. No macro, syntax, notation, axiom, sorry.
-/
import Derived.Test.YtfoeakgnkfcbjaaGreatDoorChecked
import GoSem.Claim
import GoSem.ClaimJoined
import GoSem.ClaimMapViews
import Derived.JoinedTies
import Derived.KernelRfl
namespace Go.Proofs.YtfoeakgnkfcbjaaGreatDoor
/- THE CELL 'sum', in the pinned program and in every row, IS THE sha256 OF THE DUMP (.gsa) THAT YtfoeakgnkfcbjaaGreatDoorProg.lean LOADS. Nothing in Lean hashes anything: it is a label: what it is worth is what the hold of that sum in a sandbox is worth. -/
noncomputable def Tryz.pinned : Pinned := { name := "ytfoeakgnkfcbjaagreatdoor", sum := "579531a46bdf3b270588bd7d8fc30763e02a9329c89eb5c8949392a6541b8897", checked := Tryz.checked }
namespace Rows
def none {H : Type} : Left H := { results := [], args := [] }

/- WHAT THE LISTED PACKAGE-LEVEL VARIABLES READ AS WHEN THE CALL BEGINS. Each datum BY PROGRAM (the guide's laid-datum.mjs) off the statement by which the dump's own 'gosem.cut.vars' lays the variable. In a bare row this is a premise. The card (YtfoeakgnkfcbjaaGreatDoorCards.lean) ties it to the program's text. -/
def laid_drawbridge_hash_steps {H : Type} : DataW H := .agg [.lit (.int .u32 1116352408), .lit (.int .u32 1899447441), .lit (.int .u32 3049323471), .lit (.int .u32 3921009573), .lit (.int .u32 961987163), .lit (.int .u32 1508970993), .lit (.int .u32 2453635748), .lit (.int .u32 2870763221), .lit (.int .u32 3624381080), .lit (.int .u32 310598401), .lit (.int .u32 607225278), .lit (.int .u32 1426881987), .lit (.int .u32 1925078388), .lit (.int .u32 2162078206), .lit (.int .u32 2614888103), .lit (.int .u32 3248222580), .lit (.int .u32 3835390401), .lit (.int .u32 4022224774), .lit (.int .u32 264347078), .lit (.int .u32 604807628), .lit (.int .u32 770255983), .lit (.int .u32 1249150122), .lit (.int .u32 1555081692), .lit (.int .u32 1996064986), .lit (.int .u32 2554220882), .lit (.int .u32 2821834349), .lit (.int .u32 2952996808), .lit (.int .u32 3210313671), .lit (.int .u32 3336571891), .lit (.int .u32 3584528711), .lit (.int .u32 113926993), .lit (.int .u32 338241895), .lit (.int .u32 666307205), .lit (.int .u32 773529912), .lit (.int .u32 1294757372), .lit (.int .u32 1396182291), .lit (.int .u32 1695183700), .lit (.int .u32 1986661051), .lit (.int .u32 2177026350), .lit (.int .u32 2456956037), .lit (.int .u32 2730485921), .lit (.int .u32 2820302411), .lit (.int .u32 3259730800), .lit (.int .u32 3345764771), .lit (.int .u32 3516065817), .lit (.int .u32 3600352804), .lit (.int .u32 4094571909), .lit (.int .u32 275423344), .lit (.int .u32 430227734), .lit (.int .u32 506948616), .lit (.int .u32 659060556), .lit (.int .u32 883997877), .lit (.int .u32 958139571), .lit (.int .u32 1322822218), .lit (.int .u32 1537002063), .lit (.int .u32 1747873779), .lit (.int .u32 1955562222), .lit (.int .u32 2024104815), .lit (.int .u32 2227730452), .lit (.int .u32 2361852424), .lit (.int .u32 2428436474), .lit (.int .u32 2756734187), .lit (.int .u32 3204031479), .lit (.int .u32 3329325298)]

/-- 'drawbridgelaw17.BlockParts': WHATEVER THE INPUT: true; the input reads as it did. -/
def blockPartsSpec : ChangeSpec := { name := "blockParts", fn := fun _ => fun
  | [d1, d2] => { results := [.lit (.bool true)], args := [d1, d2] }
  | _ => none }
def blockPartsRow : OpenClaim := { program := "ytfoeakgnkfcbjaagreatdoor", sum := "579531a46bdf3b270588bd7d8fc30763e02a9329c89eb5c8949392a6541b8897", func := "drawbridge/drawbridgelaw17.BlockParts", spec := "blockParts", inPlace := ["math.Float64bits", "math.Float64frombits", "math.archTrunc"], unfollowed := true, recurses := true, named := ["drawbridge/hash.steps"], apart := false, laid := [("drawbridge/hash.steps", laid_drawbridge_hash_steps)] }
def BlockPartsSaid : Prop := blockPartsRow.holds Tryz.pinned (OpenSpec.ofChange blockPartsSpec)

/-- ITS FALSE NEIGHBOUR: 'it returns false'. Refute it at one input. -/
def blockPartsWrong : ChangeSpec := { name := "blockParts", fn := fun _ => fun
  | [d1, d2] => { results := [.lit (.bool false)], args := [d1, d2] }
  | _ => none }
def BlockPartsWrongFalsely : Prop := blockPartsRow.holds Tryz.pinned (OpenSpec.ofChange blockPartsWrong)

/-- 'drawbridgelaw17.BlockCuts': WHATEVER THE INPUT: true; the input reads as it did. -/
def blockCutsSpec : ChangeSpec := { name := "blockCuts", fn := fun _ => fun
  | [d1, d2] => { results := [.lit (.bool true)], args := [d1, d2] }
  | _ => none }
def blockCutsRow : OpenClaim := { program := "ytfoeakgnkfcbjaagreatdoor", sum := "579531a46bdf3b270588bd7d8fc30763e02a9329c89eb5c8949392a6541b8897", func := "drawbridge/drawbridgelaw17.BlockCuts", spec := "blockCuts", inPlace := ["math.Float64bits", "math.Float64frombits", "math.archTrunc"], unfollowed := true, recurses := true, named := ["drawbridge/hash.steps"], apart := false, laid := [("drawbridge/hash.steps", laid_drawbridge_hash_steps)] }
def BlockCutsSaid : Prop := blockCutsRow.holds Tryz.pinned (OpenSpec.ofChange blockCutsSpec)

/-- ITS FALSE NEIGHBOUR: 'it returns false'. Refute it at one input. -/
def blockCutsWrong : ChangeSpec := { name := "blockCuts", fn := fun _ => fun
  | [d1, d2] => { results := [.lit (.bool false)], args := [d1, d2] }
  | _ => none }
def BlockCutsWrongFalsely : Prop := blockCutsRow.holds Tryz.pinned (OpenSpec.ofChange blockCutsWrong)

/-- 'drawbridgelaw17.BlockWrites': WHATEVER THE INPUT: true; the input reads as it did. -/
def blockWritesSpec : ChangeSpec := { name := "blockWrites", fn := fun _ => fun
  | [d] => { results := [.lit (.bool true)], args := [d] }
  | _ => none }
def blockWritesRow : OpenClaim := { program := "ytfoeakgnkfcbjaagreatdoor", sum := "579531a46bdf3b270588bd7d8fc30763e02a9329c89eb5c8949392a6541b8897", func := "drawbridge/drawbridgelaw17.BlockWrites", spec := "blockWrites", inPlace := ["math.Float64bits", "math.Float64frombits", "math.archTrunc", "math.archFloor"], unfollowed := true, recurses := true, named := ["drawbridge/hash.steps"], apart := false, laid := [("drawbridge/hash.steps", laid_drawbridge_hash_steps)] }
def BlockWritesSaid : Prop := blockWritesRow.holds Tryz.pinned (OpenSpec.ofChange blockWritesSpec)

/-- ITS FALSE NEIGHBOUR: 'it returns false'. Refute it at one input. -/
def blockWritesWrong : ChangeSpec := { name := "blockWrites", fn := fun _ => fun
  | [d] => { results := [.lit (.bool false)], args := [d] }
  | _ => none }
def BlockWritesWrongFalsely : Prop := blockWritesRow.holds Tryz.pinned (OpenSpec.ofChange blockWritesWrong)

/-- 'drawbridgelaw17.BlockReads': WHATEVER THE INPUT: true; the input reads as it did. -/
def blockReadsSpec : ChangeSpec := { name := "blockReads", fn := fun _ => fun
  | [d] => { results := [.lit (.bool true)], args := [d] }
  | _ => none }
def blockReadsRow : OpenClaim := { program := "ytfoeakgnkfcbjaagreatdoor", sum := "579531a46bdf3b270588bd7d8fc30763e02a9329c89eb5c8949392a6541b8897", func := "drawbridge/drawbridgelaw17.BlockReads", spec := "blockReads", inPlace := ["math.Float64bits", "math.Float64frombits", "math.archTrunc", "math.archFloor"], unfollowed := true, recurses := true, named := ["drawbridge/hash.steps"], apart := false, laid := [("drawbridge/hash.steps", laid_drawbridge_hash_steps)] }
def BlockReadsSaid : Prop := blockReadsRow.holds Tryz.pinned (OpenSpec.ofChange blockReadsSpec)

/-- ITS FALSE NEIGHBOUR: 'it returns false'. Refute it at one input. -/
def blockReadsWrong : ChangeSpec := { name := "blockReads", fn := fun _ => fun
  | [d] => { results := [.lit (.bool false)], args := [d] }
  | _ => none }
def BlockReadsWrongFalsely : Prop := blockReadsRow.holds Tryz.pinned (OpenSpec.ofChange blockReadsWrong)

/-- 'drawbridgelaw17.BlockWork': WHATEVER THE INPUT: true; the input reads as it did. -/
def blockWorkSpec : ChangeSpec := { name := "blockWork", fn := fun _ => fun
  | [d1, d2] => { results := [.lit (.bool true)], args := [d1, d2] }
  | _ => none }
def blockWorkRow : OpenClaim := { program := "ytfoeakgnkfcbjaagreatdoor", sum := "579531a46bdf3b270588bd7d8fc30763e02a9329c89eb5c8949392a6541b8897", func := "drawbridge/drawbridgelaw17.BlockWork", spec := "blockWork", inPlace := ["math.Float64bits", "math.Float64frombits", "math.archTrunc", "math.archFloor"], unfollowed := true, recurses := true, named := ["drawbridge/hash.steps"], apart := false, laid := [("drawbridge/hash.steps", laid_drawbridge_hash_steps)] }
def BlockWorkSaid : Prop := blockWorkRow.holds Tryz.pinned (OpenSpec.ofChange blockWorkSpec)

/-- ITS FALSE NEIGHBOUR: 'it returns false'. Refute it at one input. -/
def blockWorkWrong : ChangeSpec := { name := "blockWork", fn := fun _ => fun
  | [d1, d2] => { results := [.lit (.bool false)], args := [d1, d2] }
  | _ => none }
def BlockWorkWrongFalsely : Prop := blockWorkRow.holds Tryz.pinned (OpenSpec.ofChange blockWorkWrong)

/-- 'drawbridgelaw17.BlockRoots': WHATEVER THE INPUT: true; the input reads as it did. -/
def blockRootsSpec : ChangeSpec := { name := "blockRoots", fn := fun _ => fun
  | [d] => { results := [.lit (.bool true)], args := [d] }
  | _ => none }
def blockRootsRow : OpenClaim := { program := "ytfoeakgnkfcbjaagreatdoor", sum := "579531a46bdf3b270588bd7d8fc30763e02a9329c89eb5c8949392a6541b8897", func := "drawbridge/drawbridgelaw17.BlockRoots", spec := "blockRoots", inPlace := ["math.Float64bits", "math.Float64frombits", "math.archTrunc", "math.archFloor"], unfollowed := true, recurses := true, named := ["drawbridge/hash.steps"], apart := false, laid := [("drawbridge/hash.steps", laid_drawbridge_hash_steps)] }
def BlockRootsSaid : Prop := blockRootsRow.holds Tryz.pinned (OpenSpec.ofChange blockRootsSpec)

/-- ITS FALSE NEIGHBOUR: 'it returns false'. Refute it at one input. -/
def blockRootsWrong : ChangeSpec := { name := "blockRoots", fn := fun _ => fun
  | [d] => { results := [.lit (.bool false)], args := [d] }
  | _ => none }
def BlockRootsWrongFalsely : Prop := blockRootsRow.holds Tryz.pinned (OpenSpec.ofChange blockRootsWrong)

/- THE SECOND FORM. 'bulk': how many values and letters a reading holds, each counted each time it is reached (what is shared counts as often as it is met; a slice's spare places count too). A statement '..UptoSaid' is the law's where the arguments, and the package variables that the reading takes, are together of bulk at most 1048576: NARROWER than '..Said'. Prove '..Said' where nothing that the law and all that it calls make is longer than what came in: it says more and counts as full. Else prove '..UptoSaid'. A law counts once. -/
mutual
def uptoBulk {H : Type} : DataW H → Nat
  | .lit (.string bytes) => bytes.length + 1
  | .lit _ => 1
  | .nil => 1
  | .ptr d => uptoBulk d + 1
  | .slice elems spare => uptoBulkAll elems + uptoBulkAll spare + 1
  | .agg parts => uptoBulkAll parts + 1
  | .iface _ d => uptoBulk d + 1
  | .map entries => uptoBulkEntries entries + 1
  | .held _ => 1
def uptoBulkAll {H : Type} : List (DataW H) → Nat
  | [] => 0
  | d :: r => uptoBulk d + uptoBulkAll r
def uptoBulkEntries {H : Type} : List (Lit × DataW H) → Nat
  | [] => 0
  | x :: r => uptoBulkEntry x + uptoBulkEntries r
def uptoBulkEntry {H : Type} : Lit × DataW H → Nat
  | (.string bytes, d) => bytes.length + uptoBulk d + 1
  | (_, d) => uptoBulk d + 1
 end
def uptoSmall : (H : Type) → List (DataW H) → Bool := fun _ ds => decide (uptoBulkAll ds ≤ 1048576)
def OpenSpec.upto (s : _root_.Go.ChangeSpec) : _root_.Go.OpenSpec := { _root_.Go.OpenSpec.ofChange s with cond := some uptoSmall }

/-- 'drawbridgelaw17.BlockParts', WHERE WHAT IT READS IS OF BULK AT MOST 1048576: true; the input reads as it did. -/
def blockPartsUptoRow : OpenClaim := { program := "ytfoeakgnkfcbjaagreatdoor", sum := "579531a46bdf3b270588bd7d8fc30763e02a9329c89eb5c8949392a6541b8897", func := "drawbridge/drawbridgelaw17.BlockParts", spec := "blockParts", inPlace := ["math.Float64bits", "math.Float64frombits", "math.archTrunc"], unfollowed := true, recurses := true, named := ["drawbridge/hash.steps"], apart := false, laid := [("drawbridge/hash.steps", laid_drawbridge_hash_steps)], narrowed := true }
def BlockPartsUptoSaid : Prop := blockPartsUptoRow.holds Tryz.pinned (OpenSpec.upto blockPartsSpec)

/-- 'drawbridgelaw17.BlockCuts', WHERE WHAT IT READS IS OF BULK AT MOST 1048576: true; the input reads as it did. -/
def blockCutsUptoRow : OpenClaim := { program := "ytfoeakgnkfcbjaagreatdoor", sum := "579531a46bdf3b270588bd7d8fc30763e02a9329c89eb5c8949392a6541b8897", func := "drawbridge/drawbridgelaw17.BlockCuts", spec := "blockCuts", inPlace := ["math.Float64bits", "math.Float64frombits", "math.archTrunc"], unfollowed := true, recurses := true, named := ["drawbridge/hash.steps"], apart := false, laid := [("drawbridge/hash.steps", laid_drawbridge_hash_steps)], narrowed := true }
def BlockCutsUptoSaid : Prop := blockCutsUptoRow.holds Tryz.pinned (OpenSpec.upto blockCutsSpec)

/-- 'drawbridgelaw17.BlockWrites', WHERE WHAT IT READS IS OF BULK AT MOST 1048576: true; the input reads as it did. -/
def blockWritesUptoRow : OpenClaim := { program := "ytfoeakgnkfcbjaagreatdoor", sum := "579531a46bdf3b270588bd7d8fc30763e02a9329c89eb5c8949392a6541b8897", func := "drawbridge/drawbridgelaw17.BlockWrites", spec := "blockWrites", inPlace := ["math.Float64bits", "math.Float64frombits", "math.archTrunc", "math.archFloor"], unfollowed := true, recurses := true, named := ["drawbridge/hash.steps"], apart := false, laid := [("drawbridge/hash.steps", laid_drawbridge_hash_steps)], narrowed := true }
def BlockWritesUptoSaid : Prop := blockWritesUptoRow.holds Tryz.pinned (OpenSpec.upto blockWritesSpec)

/-- 'drawbridgelaw17.BlockReads', WHERE WHAT IT READS IS OF BULK AT MOST 1048576: true; the input reads as it did. -/
def blockReadsUptoRow : OpenClaim := { program := "ytfoeakgnkfcbjaagreatdoor", sum := "579531a46bdf3b270588bd7d8fc30763e02a9329c89eb5c8949392a6541b8897", func := "drawbridge/drawbridgelaw17.BlockReads", spec := "blockReads", inPlace := ["math.Float64bits", "math.Float64frombits", "math.archTrunc", "math.archFloor"], unfollowed := true, recurses := true, named := ["drawbridge/hash.steps"], apart := false, laid := [("drawbridge/hash.steps", laid_drawbridge_hash_steps)], narrowed := true }
def BlockReadsUptoSaid : Prop := blockReadsUptoRow.holds Tryz.pinned (OpenSpec.upto blockReadsSpec)

/-- 'drawbridgelaw17.BlockWork', WHERE WHAT IT READS IS OF BULK AT MOST 1048576: true; the input reads as it did. -/
def blockWorkUptoRow : OpenClaim := { program := "ytfoeakgnkfcbjaagreatdoor", sum := "579531a46bdf3b270588bd7d8fc30763e02a9329c89eb5c8949392a6541b8897", func := "drawbridge/drawbridgelaw17.BlockWork", spec := "blockWork", inPlace := ["math.Float64bits", "math.Float64frombits", "math.archTrunc", "math.archFloor"], unfollowed := true, recurses := true, named := ["drawbridge/hash.steps"], apart := false, laid := [("drawbridge/hash.steps", laid_drawbridge_hash_steps)], narrowed := true }
def BlockWorkUptoSaid : Prop := blockWorkUptoRow.holds Tryz.pinned (OpenSpec.upto blockWorkSpec)

/-- 'drawbridgelaw17.BlockRoots', WHERE WHAT IT READS IS OF BULK AT MOST 1048576: true; the input reads as it did. -/
def blockRootsUptoRow : OpenClaim := { program := "ytfoeakgnkfcbjaagreatdoor", sum := "579531a46bdf3b270588bd7d8fc30763e02a9329c89eb5c8949392a6541b8897", func := "drawbridge/drawbridgelaw17.BlockRoots", spec := "blockRoots", inPlace := ["math.Float64bits", "math.Float64frombits", "math.archTrunc", "math.archFloor"], unfollowed := true, recurses := true, named := ["drawbridge/hash.steps"], apart := false, laid := [("drawbridge/hash.steps", laid_drawbridge_hash_steps)], narrowed := true }
def BlockRootsUptoSaid : Prop := blockRootsUptoRow.holds Tryz.pinned (OpenSpec.upto blockRootsSpec)

end Rows
end Go.Proofs.YtfoeakgnkfcbjaaGreatDoor
