/-
  NARROWER THAN 'FOR EVERY INPUT', by the rows' own cells (each row's printed sentence says how): SparsePuts: laid · SparseProves: laid · SparseMany: laid · SparseOrder: laid · SparseLeaves: laid.
  DERIVED. THE GIVEN ROWS OF THIS SEAT. 5 by the template 'for every input the law returns true; each argument reads behind the call as it read before'; 0 by the template 'total and deterministic' (their statements: YtaabinhpagbajaaDoorTotals.lean).
  GIVEN WITH THE SEED: the statements are not yours to turn. If you find one false, say at which input.
  Laid BY PROGRAM, IN A SANDBOX (cutbox-rows.mjs): the forced cells as the released guide's own fill.sh prints them over the translation 41a0711b30089936… (all of the seat's roots in one cut). By AI agents, Wed Nov 11 2026. No macro, syntax, notation, axiom, sorry.
-/
import Derived.Test.YtaabinhpagbajaaDoorChecked
import GoSem.Claim
import GoSem.ClaimJoined
import GoSem.ClaimMapViews
import Derived.JoinedTies
import Derived.KernelRfl
namespace Go.Proofs.YtaabinhpagbajaaDoor
/- THE CELL 'sum', in the pinned program and in every row, IS THE sha256 OF THE DUMP (.gsa) THAT YtaabinhpagbajaaDoorProg.lean LOADS. Nothing in Lean hashes anything: it is a label: what it is worth is what the hold of that sum in a sandbox is worth. -/
noncomputable def Tryd.pinned : Pinned := { name := "ytaabinhpagbajaadoor", sum := "41a0711b300899360a263a4120cf28c52e517ad3d41be041eb5b055f1d2d38c4", checked := Tryd.checked }
namespace Rows
def none {H : Type} : Left H := { results := [], args := [] }

/- WHAT THE LISTED PACKAGE-LEVEL VARIABLES READ AS WHEN THE CALL BEGINS. Each datum BY PROGRAM (the guide's laid-datum.mjs) off the statement by which the dump's own 'gosem.cut.vars' lays the variable. In a bare row this is a premise. The card (YtaabinhpagbajaaDoorCards.lean) ties it to the program's text. -/
def laid_drawbridge_hash_steps {H : Type} : DataW H := .agg [.lit (.int .u32 1116352408), .lit (.int .u32 1899447441), .lit (.int .u32 3049323471), .lit (.int .u32 3921009573), .lit (.int .u32 961987163), .lit (.int .u32 1508970993), .lit (.int .u32 2453635748), .lit (.int .u32 2870763221), .lit (.int .u32 3624381080), .lit (.int .u32 310598401), .lit (.int .u32 607225278), .lit (.int .u32 1426881987), .lit (.int .u32 1925078388), .lit (.int .u32 2162078206), .lit (.int .u32 2614888103), .lit (.int .u32 3248222580), .lit (.int .u32 3835390401), .lit (.int .u32 4022224774), .lit (.int .u32 264347078), .lit (.int .u32 604807628), .lit (.int .u32 770255983), .lit (.int .u32 1249150122), .lit (.int .u32 1555081692), .lit (.int .u32 1996064986), .lit (.int .u32 2554220882), .lit (.int .u32 2821834349), .lit (.int .u32 2952996808), .lit (.int .u32 3210313671), .lit (.int .u32 3336571891), .lit (.int .u32 3584528711), .lit (.int .u32 113926993), .lit (.int .u32 338241895), .lit (.int .u32 666307205), .lit (.int .u32 773529912), .lit (.int .u32 1294757372), .lit (.int .u32 1396182291), .lit (.int .u32 1695183700), .lit (.int .u32 1986661051), .lit (.int .u32 2177026350), .lit (.int .u32 2456956037), .lit (.int .u32 2730485921), .lit (.int .u32 2820302411), .lit (.int .u32 3259730800), .lit (.int .u32 3345764771), .lit (.int .u32 3516065817), .lit (.int .u32 3600352804), .lit (.int .u32 4094571909), .lit (.int .u32 275423344), .lit (.int .u32 430227734), .lit (.int .u32 506948616), .lit (.int .u32 659060556), .lit (.int .u32 883997877), .lit (.int .u32 958139571), .lit (.int .u32 1322822218), .lit (.int .u32 1537002063), .lit (.int .u32 1747873779), .lit (.int .u32 1955562222), .lit (.int .u32 2024104815), .lit (.int .u32 2227730452), .lit (.int .u32 2361852424), .lit (.int .u32 2428436474), .lit (.int .u32 2756734187), .lit (.int .u32 3204031479), .lit (.int .u32 3329325298)]

/-- 'drawbridgelaw6.SparsePuts': WHATEVER THE INPUT: true; the input reads as it did. -/
def sparsePutsSpec : ChangeSpec := { name := "sparsePuts", fn := fun _ => fun
  | [d1, d2] => { results := [.lit (.bool true)], args := [d1, d2] }
  | _ => none }
def sparsePutsRow : OpenClaim := { program := "ytaabinhpagbajaadoor", sum := "41a0711b300899360a263a4120cf28c52e517ad3d41be041eb5b055f1d2d38c4", func := "drawbridge/drawbridgelaw6.SparsePuts", spec := "sparsePuts", recurses := true, named := ["drawbridge/hash.steps"], plainKeys := false, apart := false, laid := [("drawbridge/hash.steps", laid_drawbridge_hash_steps)] }
def SparsePutsSaid : Prop := sparsePutsRow.holds Tryd.pinned (OpenSpec.ofChange sparsePutsSpec)

/-- ITS FALSE NEIGHBOUR: 'it returns false'. Refute it at one input. -/
def sparsePutsWrong : ChangeSpec := { name := "sparsePuts", fn := fun _ => fun
  | [d1, d2] => { results := [.lit (.bool false)], args := [d1, d2] }
  | _ => none }
def SparsePutsWrongFalsely : Prop := sparsePutsRow.holds Tryd.pinned (OpenSpec.ofChange sparsePutsWrong)

/-- 'drawbridgelaw6.SparseProves': WHATEVER THE INPUT: true; the input reads as it did. -/
def sparseProvesSpec : ChangeSpec := { name := "sparseProves", fn := fun _ => fun
  | [d1, d2, d3] => { results := [.lit (.bool true)], args := [d1, d2, d3] }
  | _ => none }
def sparseProvesRow : OpenClaim := { program := "ytaabinhpagbajaadoor", sum := "41a0711b300899360a263a4120cf28c52e517ad3d41be041eb5b055f1d2d38c4", func := "drawbridge/drawbridgelaw6.SparseProves", spec := "sparseProves", recurses := true, named := ["drawbridge/hash.steps"], plainKeys := false, apart := false, laid := [("drawbridge/hash.steps", laid_drawbridge_hash_steps)] }
def SparseProvesSaid : Prop := sparseProvesRow.holds Tryd.pinned (OpenSpec.ofChange sparseProvesSpec)

/-- ITS FALSE NEIGHBOUR: 'it returns false'. Refute it at one input. -/
def sparseProvesWrong : ChangeSpec := { name := "sparseProves", fn := fun _ => fun
  | [d1, d2, d3] => { results := [.lit (.bool false)], args := [d1, d2, d3] }
  | _ => none }
def SparseProvesWrongFalsely : Prop := sparseProvesRow.holds Tryd.pinned (OpenSpec.ofChange sparseProvesWrong)

/-- 'drawbridgelaw6.SparseMany': WHATEVER THE INPUT: true; the input reads as it did. -/
def sparseManySpec : ChangeSpec := { name := "sparseMany", fn := fun _ => fun
  | [d] => { results := [.lit (.bool true)], args := [d] }
  | _ => none }
def sparseManyRow : OpenClaim := { program := "ytaabinhpagbajaadoor", sum := "41a0711b300899360a263a4120cf28c52e517ad3d41be041eb5b055f1d2d38c4", func := "drawbridge/drawbridgelaw6.SparseMany", spec := "sparseMany", named := ["drawbridge/hash.steps"], plainKeys := false, apart := false, laid := [("drawbridge/hash.steps", laid_drawbridge_hash_steps)] }
def SparseManySaid : Prop := sparseManyRow.holds Tryd.pinned (OpenSpec.ofChange sparseManySpec)

/-- ITS FALSE NEIGHBOUR: 'it returns false'. Refute it at one input. -/
def sparseManyWrong : ChangeSpec := { name := "sparseMany", fn := fun _ => fun
  | [d] => { results := [.lit (.bool false)], args := [d] }
  | _ => none }
def SparseManyWrongFalsely : Prop := sparseManyRow.holds Tryd.pinned (OpenSpec.ofChange sparseManyWrong)

/-- 'drawbridgelaw6.SparseOrder': WHATEVER THE INPUT: true; the input reads as it did. -/
def sparseOrderSpec : ChangeSpec := { name := "sparseOrder", fn := fun _ => fun
  | [d1, d2, d3] => { results := [.lit (.bool true)], args := [d1, d2, d3] }
  | _ => none }
def sparseOrderRow : OpenClaim := { program := "ytaabinhpagbajaadoor", sum := "41a0711b300899360a263a4120cf28c52e517ad3d41be041eb5b055f1d2d38c4", func := "drawbridge/drawbridgelaw6.SparseOrder", spec := "sparseOrder", inPlace := ["maps.clone"], named := ["drawbridge/hash.steps"], plainKeys := false, apart := false, laid := [("drawbridge/hash.steps", laid_drawbridge_hash_steps)] }
def SparseOrderSaid : Prop := sparseOrderRow.holds Tryd.pinned (OpenSpec.ofChange sparseOrderSpec)

/-- ITS FALSE NEIGHBOUR: 'it returns false'. Refute it at one input. -/
def sparseOrderWrong : ChangeSpec := { name := "sparseOrder", fn := fun _ => fun
  | [d1, d2, d3] => { results := [.lit (.bool false)], args := [d1, d2, d3] }
  | _ => none }
def SparseOrderWrongFalsely : Prop := sparseOrderRow.holds Tryd.pinned (OpenSpec.ofChange sparseOrderWrong)

/-- 'drawbridgelaw6.SparseLeaves': WHATEVER THE INPUT: true; the input reads as it did. -/
def sparseLeavesSpec : ChangeSpec := { name := "sparseLeaves", fn := fun _ => fun
  | [d1, d2] => { results := [.lit (.bool true)], args := [d1, d2] }
  | _ => none }
def sparseLeavesRow : OpenClaim := { program := "ytaabinhpagbajaadoor", sum := "41a0711b300899360a263a4120cf28c52e517ad3d41be041eb5b055f1d2d38c4", func := "drawbridge/drawbridgelaw6.SparseLeaves", spec := "sparseLeaves", named := ["drawbridge/hash.steps"], plainKeys := false, apart := false, laid := [("drawbridge/hash.steps", laid_drawbridge_hash_steps)] }
def SparseLeavesSaid : Prop := sparseLeavesRow.holds Tryd.pinned (OpenSpec.ofChange sparseLeavesSpec)

/-- ITS FALSE NEIGHBOUR: 'it returns false'. Refute it at one input. -/
def sparseLeavesWrong : ChangeSpec := { name := "sparseLeaves", fn := fun _ => fun
  | [d1, d2] => { results := [.lit (.bool false)], args := [d1, d2] }
  | _ => none }
def SparseLeavesWrongFalsely : Prop := sparseLeavesRow.holds Tryd.pinned (OpenSpec.ofChange sparseLeavesWrong)

/- THE SECOND FORM. 'bulk': how many values and letters a reading holds, each counted each time it is reached (what is shared counts as often as it is met; a slice's spare places count too). A statement '..UptoSaid' is the law's where the arguments, and the package variables that the reading takes, are together of bulk at most 1048576: NARROWER than '..Said'. Prove '..Said' where nothing that the law and all that it calls make is longer than what came in: it says more and counts as full. Else prove '..UptoSaid'. A law counts once. -/
mutual
def uptoBulk {H : Type} : DataW H → Nat
  | .lit (.string bytes) => bytes.length + 1
  | .lit _ => 1
  | .nil => 1
  | .ptr d => uptoBulk d + 1
  | .slice elems spare => uptoBulkAll elems + uptoBulkAll spare + 1
  | .agg parts => uptoBulkAll parts + 1
  | .iface _ d => uptoBulk d + 1
  | .map entries => uptoBulkEntries entries + 1
  | .held _ => 1
def uptoBulkAll {H : Type} : List (DataW H) → Nat
  | [] => 0
  | d :: r => uptoBulk d + uptoBulkAll r
def uptoBulkEntries {H : Type} : List (Lit × DataW H) → Nat
  | [] => 0
  | x :: r => uptoBulkEntry x + uptoBulkEntries r
def uptoBulkEntry {H : Type} : Lit × DataW H → Nat
  | (.string bytes, d) => bytes.length + uptoBulk d + 1
  | (_, d) => uptoBulk d + 1
 end
def uptoSmall : (H : Type) → List (DataW H) → Bool := fun _ ds => decide (uptoBulkAll ds ≤ 1048576)
def OpenSpec.upto (s : _root_.Go.ChangeSpec) : _root_.Go.OpenSpec := { _root_.Go.OpenSpec.ofChange s with cond := some uptoSmall }

/-- 'drawbridgelaw6.SparsePuts', WHERE WHAT IT READS IS OF BULK AT MOST 1048576: true; the input reads as it did. -/
def sparsePutsUptoRow : OpenClaim := { program := "ytaabinhpagbajaadoor", sum := "41a0711b300899360a263a4120cf28c52e517ad3d41be041eb5b055f1d2d38c4", func := "drawbridge/drawbridgelaw6.SparsePuts", spec := "sparsePuts", recurses := true, named := ["drawbridge/hash.steps"], plainKeys := false, apart := false, laid := [("drawbridge/hash.steps", laid_drawbridge_hash_steps)], narrowed := true }
def SparsePutsUptoSaid : Prop := sparsePutsUptoRow.holds Tryd.pinned (OpenSpec.upto sparsePutsSpec)

/-- 'drawbridgelaw6.SparseProves', WHERE WHAT IT READS IS OF BULK AT MOST 1048576: true; the input reads as it did. -/
def sparseProvesUptoRow : OpenClaim := { program := "ytaabinhpagbajaadoor", sum := "41a0711b300899360a263a4120cf28c52e517ad3d41be041eb5b055f1d2d38c4", func := "drawbridge/drawbridgelaw6.SparseProves", spec := "sparseProves", recurses := true, named := ["drawbridge/hash.steps"], plainKeys := false, apart := false, laid := [("drawbridge/hash.steps", laid_drawbridge_hash_steps)], narrowed := true }
def SparseProvesUptoSaid : Prop := sparseProvesUptoRow.holds Tryd.pinned (OpenSpec.upto sparseProvesSpec)

/-- 'drawbridgelaw6.SparseMany', WHERE WHAT IT READS IS OF BULK AT MOST 1048576: true; the input reads as it did. -/
def sparseManyUptoRow : OpenClaim := { program := "ytaabinhpagbajaadoor", sum := "41a0711b300899360a263a4120cf28c52e517ad3d41be041eb5b055f1d2d38c4", func := "drawbridge/drawbridgelaw6.SparseMany", spec := "sparseMany", named := ["drawbridge/hash.steps"], plainKeys := false, apart := false, laid := [("drawbridge/hash.steps", laid_drawbridge_hash_steps)], narrowed := true }
def SparseManyUptoSaid : Prop := sparseManyUptoRow.holds Tryd.pinned (OpenSpec.upto sparseManySpec)

/-- 'drawbridgelaw6.SparseOrder', WHERE WHAT IT READS IS OF BULK AT MOST 1048576: true; the input reads as it did. -/
def sparseOrderUptoRow : OpenClaim := { program := "ytaabinhpagbajaadoor", sum := "41a0711b300899360a263a4120cf28c52e517ad3d41be041eb5b055f1d2d38c4", func := "drawbridge/drawbridgelaw6.SparseOrder", spec := "sparseOrder", inPlace := ["maps.clone"], named := ["drawbridge/hash.steps"], plainKeys := false, apart := false, laid := [("drawbridge/hash.steps", laid_drawbridge_hash_steps)], narrowed := true }
def SparseOrderUptoSaid : Prop := sparseOrderUptoRow.holds Tryd.pinned (OpenSpec.upto sparseOrderSpec)

/-- 'drawbridgelaw6.SparseLeaves', WHERE WHAT IT READS IS OF BULK AT MOST 1048576: true; the input reads as it did. -/
def sparseLeavesUptoRow : OpenClaim := { program := "ytaabinhpagbajaadoor", sum := "41a0711b300899360a263a4120cf28c52e517ad3d41be041eb5b055f1d2d38c4", func := "drawbridge/drawbridgelaw6.SparseLeaves", spec := "sparseLeaves", named := ["drawbridge/hash.steps"], plainKeys := false, apart := false, laid := [("drawbridge/hash.steps", laid_drawbridge_hash_steps)], narrowed := true }
def SparseLeavesUptoSaid : Prop := sparseLeavesUptoRow.holds Tryd.pinned (OpenSpec.upto sparseLeavesSpec)

end Rows
end Go.Proofs.YtaabinhpagbajaaDoor
