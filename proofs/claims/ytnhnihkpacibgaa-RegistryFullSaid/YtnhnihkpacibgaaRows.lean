/-
  No cell of these rows narrows 'for every input' (looked for: loops, veiled, ifaces, maps, wideKeys, modest, calm, conditions, laid).
  DERIVED. THE GIVEN ROWS OF THIS SEAT. 6 by the template 'for every input the law returns true; each argument reads behind the call as it read before'; 0 by the template 'total and deterministic' (their statements: YtnhnihkpacibgaaTotals.lean).
  GIVEN WITH THE SEED: the statements are not yours to turn. If you find one false, say at which input.
  Laid BY PROGRAM, IN A SANDBOX (cutbox-rows.mjs): the forced cells as the released guide's own fill.sh prints them over the translation 484c9b63540dccdc… (all of the seat's roots in one cut). By AI agents, Wed Nov 11 2026. No macro, syntax, notation, axiom, sorry.
-/
import Derived.Test.YtnhnihkpacibgaaChecked
import GoSem.Claim
import GoSem.ClaimJoined
import GoSem.ClaimMapViews
import Derived.JoinedTies
import Derived.KernelRfl
namespace Go.Proofs.Ytnhnihkpacibgaa
/- THE CELL 'sum', in the pinned program and in every row, IS THE sha256 OF THE DUMP (.gsa) THAT YtnhnihkpacibgaaProg.lean LOADS. Nothing in Lean hashes anything: it is a label: what it is worth is what the hold of that sum in a sandbox is worth. -/
noncomputable def Try.pinned : Pinned := { name := "ytnhnihkpacibgaa", sum := "484c9b63540dccdc5075c5b8ed6f531a88ab3e7b13376a91baf8d4d9f99a6ce5", checked := Try.checked }
namespace Rows
def none {H : Type} : Left H := { results := [], args := [] }

/-- 'drawbridgelaw13.RegistryForwards': WHATEVER THE INPUT: true; the input reads as it did. -/
def registryForwardsSpec : ChangeSpec := { name := "registryForwards", fn := fun _ => fun
  | [d1, d2] => { results := [.lit (.bool true)], args := [d1, d2] }
  | _ => none }
def registryForwardsRow : OpenClaim := { program := "ytnhnihkpacibgaa", sum := "484c9b63540dccdc5075c5b8ed6f531a88ab3e7b13376a91baf8d4d9f99a6ce5", func := "drawbridge/drawbridgelaw13.RegistryForwards", spec := "registryForwards", recurses := true, apart := false }
def RegistryForwardsSaid : Prop := registryForwardsRow.holds Try.pinned (OpenSpec.ofChange registryForwardsSpec)

/-- ITS FALSE NEIGHBOUR: 'it returns false'. Refute it at one input. -/
def registryForwardsWrong : ChangeSpec := { name := "registryForwards", fn := fun _ => fun
  | [d1, d2] => { results := [.lit (.bool false)], args := [d1, d2] }
  | _ => none }
def RegistryForwardsWrongFalsely : Prop := registryForwardsRow.holds Try.pinned (OpenSpec.ofChange registryForwardsWrong)

/-- 'drawbridgelaw13.RegistryFull': WHATEVER THE INPUT: true; the input reads as it did. -/
def registryFullSpec : ChangeSpec := { name := "registryFull", fn := fun _ => fun
  | [] => { results := [.lit (.bool true)], args := [] }
  | _ => none }
def registryFullRow : OpenClaim := { program := "ytnhnihkpacibgaa", sum := "484c9b63540dccdc5075c5b8ed6f531a88ab3e7b13376a91baf8d4d9f99a6ce5", func := "drawbridge/drawbridgelaw13.RegistryFull", spec := "registryFull", recurses := true, apart := false }
def RegistryFullSaid : Prop := registryFullRow.holds Try.pinned (OpenSpec.ofChange registryFullSpec)

/-- ITS FALSE NEIGHBOUR: 'it returns false'. Refute it at one input. -/
def registryFullWrong : ChangeSpec := { name := "registryFull", fn := fun _ => fun
  | [] => { results := [.lit (.bool false)], args := [] }
  | _ => none }
def RegistryFullWrongFalsely : Prop := registryFullRow.holds Try.pinned (OpenSpec.ofChange registryFullWrong)

/-- 'drawbridgelaw13.RegistryCopies': WHATEVER THE INPUT: true; the input reads as it did. -/
def registryCopiesSpec : ChangeSpec := { name := "registryCopies", fn := fun _ => fun
  | [d1, d2] => { results := [.lit (.bool true)], args := [d1, d2] }
  | _ => none }
def registryCopiesRow : OpenClaim := { program := "ytnhnihkpacibgaa", sum := "484c9b63540dccdc5075c5b8ed6f531a88ab3e7b13376a91baf8d4d9f99a6ce5", func := "drawbridge/drawbridgelaw13.RegistryCopies", spec := "registryCopies", unfollowed := true, recurses := true, apart := false }
def RegistryCopiesSaid : Prop := registryCopiesRow.holds Try.pinned (OpenSpec.ofChange registryCopiesSpec)

/-- ITS FALSE NEIGHBOUR: 'it returns false'. Refute it at one input. -/
def registryCopiesWrong : ChangeSpec := { name := "registryCopies", fn := fun _ => fun
  | [d1, d2] => { results := [.lit (.bool false)], args := [d1, d2] }
  | _ => none }
def RegistryCopiesWrongFalsely : Prop := registryCopiesRow.holds Try.pinned (OpenSpec.ofChange registryCopiesWrong)

/-- 'drawbridgelaw13.RegistryTimes': WHATEVER THE INPUT: true; the input reads as it did. -/
def registryTimesSpec : ChangeSpec := { name := "registryTimes", fn := fun _ => fun
  | [d1, d2, d3] => { results := [.lit (.bool true)], args := [d1, d2, d3] }
  | _ => none }
def registryTimesRow : OpenClaim := { program := "ytnhnihkpacibgaa", sum := "484c9b63540dccdc5075c5b8ed6f531a88ab3e7b13376a91baf8d4d9f99a6ce5", func := "drawbridge/drawbridgelaw13.RegistryTimes", spec := "registryTimes", recurses := true, apart := false }
def RegistryTimesSaid : Prop := registryTimesRow.holds Try.pinned (OpenSpec.ofChange registryTimesSpec)

/-- ITS FALSE NEIGHBOUR: 'it returns false'. Refute it at one input. -/
def registryTimesWrong : ChangeSpec := { name := "registryTimes", fn := fun _ => fun
  | [d1, d2, d3] => { results := [.lit (.bool false)], args := [d1, d2, d3] }
  | _ => none }
def RegistryTimesWrongFalsely : Prop := registryTimesRow.holds Try.pinned (OpenSpec.ofChange registryTimesWrong)

/-- 'drawbridgelaw13.RegistryWindows': WHATEVER THE INPUT: true; the input reads as it did. -/
def registryWindowsSpec : ChangeSpec := { name := "registryWindows", fn := fun _ => fun
  | [d1, d2, d3] => { results := [.lit (.bool true)], args := [d1, d2, d3] }
  | _ => none }
def registryWindowsRow : OpenClaim := { program := "ytnhnihkpacibgaa", sum := "484c9b63540dccdc5075c5b8ed6f531a88ab3e7b13376a91baf8d4d9f99a6ce5", func := "drawbridge/drawbridgelaw13.RegistryWindows", spec := "registryWindows", recurses := true, apart := false }
def RegistryWindowsSaid : Prop := registryWindowsRow.holds Try.pinned (OpenSpec.ofChange registryWindowsSpec)

/-- ITS FALSE NEIGHBOUR: 'it returns false'. Refute it at one input. -/
def registryWindowsWrong : ChangeSpec := { name := "registryWindows", fn := fun _ => fun
  | [d1, d2, d3] => { results := [.lit (.bool false)], args := [d1, d2, d3] }
  | _ => none }
def RegistryWindowsWrongFalsely : Prop := registryWindowsRow.holds Try.pinned (OpenSpec.ofChange registryWindowsWrong)

/-- 'drawbridgelaw13.RegistryPlays': WHATEVER THE INPUT: true; the input reads as it did. -/
def registryPlaysSpec : ChangeSpec := { name := "registryPlays", fn := fun _ => fun
  | [d] => { results := [.lit (.bool true)], args := [d] }
  | _ => none }
def registryPlaysRow : OpenClaim := { program := "ytnhnihkpacibgaa", sum := "484c9b63540dccdc5075c5b8ed6f531a88ab3e7b13376a91baf8d4d9f99a6ce5", func := "drawbridge/drawbridgelaw13.RegistryPlays", spec := "registryPlays", recurses := true, apart := false }
def RegistryPlaysSaid : Prop := registryPlaysRow.holds Try.pinned (OpenSpec.ofChange registryPlaysSpec)

/-- ITS FALSE NEIGHBOUR: 'it returns false'. Refute it at one input. -/
def registryPlaysWrong : ChangeSpec := { name := "registryPlays", fn := fun _ => fun
  | [d] => { results := [.lit (.bool false)], args := [d] }
  | _ => none }
def RegistryPlaysWrongFalsely : Prop := registryPlaysRow.holds Try.pinned (OpenSpec.ofChange registryPlaysWrong)

/- THE SECOND FORM. 'bulk': how many values and letters a reading holds, each counted each time it is reached (what is shared counts as often as it is met; a slice's spare places count too). A statement '..UptoSaid' is the law's where the arguments, and the package variables that the reading takes, are together of bulk at most 1048576: NARROWER than '..Said'. Prove '..Said' where nothing that the law and all that it calls make is longer than what came in: it says more and counts as full. Else prove '..UptoSaid'. A law counts once. -/
mutual
def uptoBulk {H : Type} : DataW H → Nat
  | .lit (.string bytes) => bytes.length + 1
  | .lit _ => 1
  | .nil => 1
  | .ptr d => uptoBulk d + 1
  | .slice elems spare => uptoBulkAll elems + uptoBulkAll spare + 1
  | .agg parts => uptoBulkAll parts + 1
  | .iface _ d => uptoBulk d + 1
  | .map entries => uptoBulkEntries entries + 1
  | .held _ => 1
def uptoBulkAll {H : Type} : List (DataW H) → Nat
  | [] => 0
  | d :: r => uptoBulk d + uptoBulkAll r
def uptoBulkEntries {H : Type} : List (Lit × DataW H) → Nat
  | [] => 0
  | x :: r => uptoBulkEntry x + uptoBulkEntries r
def uptoBulkEntry {H : Type} : Lit × DataW H → Nat
  | (.string bytes, d) => bytes.length + uptoBulk d + 1
  | (_, d) => uptoBulk d + 1
 end
def uptoSmall : (H : Type) → List (DataW H) → Bool := fun _ ds => decide (uptoBulkAll ds ≤ 1048576)
def OpenSpec.upto (s : _root_.Go.ChangeSpec) : _root_.Go.OpenSpec := { _root_.Go.OpenSpec.ofChange s with cond := some uptoSmall }

/-- 'drawbridgelaw13.RegistryForwards', WHERE WHAT IT READS IS OF BULK AT MOST 1048576: true; the input reads as it did. -/
def registryForwardsUptoRow : OpenClaim := { program := "ytnhnihkpacibgaa", sum := "484c9b63540dccdc5075c5b8ed6f531a88ab3e7b13376a91baf8d4d9f99a6ce5", func := "drawbridge/drawbridgelaw13.RegistryForwards", spec := "registryForwards", recurses := true, apart := false, narrowed := true }
def RegistryForwardsUptoSaid : Prop := registryForwardsUptoRow.holds Try.pinned (OpenSpec.upto registryForwardsSpec)

/-- 'drawbridgelaw13.RegistryFull', WHERE WHAT IT READS IS OF BULK AT MOST 1048576: true; the input reads as it did. -/
def registryFullUptoRow : OpenClaim := { program := "ytnhnihkpacibgaa", sum := "484c9b63540dccdc5075c5b8ed6f531a88ab3e7b13376a91baf8d4d9f99a6ce5", func := "drawbridge/drawbridgelaw13.RegistryFull", spec := "registryFull", recurses := true, apart := false, narrowed := true }
def RegistryFullUptoSaid : Prop := registryFullUptoRow.holds Try.pinned (OpenSpec.upto registryFullSpec)

/-- 'drawbridgelaw13.RegistryCopies', WHERE WHAT IT READS IS OF BULK AT MOST 1048576: true; the input reads as it did. -/
def registryCopiesUptoRow : OpenClaim := { program := "ytnhnihkpacibgaa", sum := "484c9b63540dccdc5075c5b8ed6f531a88ab3e7b13376a91baf8d4d9f99a6ce5", func := "drawbridge/drawbridgelaw13.RegistryCopies", spec := "registryCopies", unfollowed := true, recurses := true, apart := false, narrowed := true }
def RegistryCopiesUptoSaid : Prop := registryCopiesUptoRow.holds Try.pinned (OpenSpec.upto registryCopiesSpec)

/-- 'drawbridgelaw13.RegistryTimes', WHERE WHAT IT READS IS OF BULK AT MOST 1048576: true; the input reads as it did. -/
def registryTimesUptoRow : OpenClaim := { program := "ytnhnihkpacibgaa", sum := "484c9b63540dccdc5075c5b8ed6f531a88ab3e7b13376a91baf8d4d9f99a6ce5", func := "drawbridge/drawbridgelaw13.RegistryTimes", spec := "registryTimes", recurses := true, apart := false, narrowed := true }
def RegistryTimesUptoSaid : Prop := registryTimesUptoRow.holds Try.pinned (OpenSpec.upto registryTimesSpec)

/-- 'drawbridgelaw13.RegistryWindows', WHERE WHAT IT READS IS OF BULK AT MOST 1048576: true; the input reads as it did. -/
def registryWindowsUptoRow : OpenClaim := { program := "ytnhnihkpacibgaa", sum := "484c9b63540dccdc5075c5b8ed6f531a88ab3e7b13376a91baf8d4d9f99a6ce5", func := "drawbridge/drawbridgelaw13.RegistryWindows", spec := "registryWindows", recurses := true, apart := false, narrowed := true }
def RegistryWindowsUptoSaid : Prop := registryWindowsUptoRow.holds Try.pinned (OpenSpec.upto registryWindowsSpec)

/-- 'drawbridgelaw13.RegistryPlays', WHERE WHAT IT READS IS OF BULK AT MOST 1048576: true; the input reads as it did. -/
def registryPlaysUptoRow : OpenClaim := { program := "ytnhnihkpacibgaa", sum := "484c9b63540dccdc5075c5b8ed6f531a88ab3e7b13376a91baf8d4d9f99a6ce5", func := "drawbridge/drawbridgelaw13.RegistryPlays", spec := "registryPlays", recurses := true, apart := false, narrowed := true }
def RegistryPlaysUptoSaid : Prop := registryPlaysUptoRow.holds Try.pinned (OpenSpec.upto registryPlaysSpec)

end Rows
end Go.Proofs.Ytnhnihkpacibgaa
