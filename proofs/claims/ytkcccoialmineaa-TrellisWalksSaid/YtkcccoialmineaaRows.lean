/-
  No cell of these rows narrows 'for every input' (looked for: loops, veiled, ifaces, maps, wideKeys, modest, calm, conditions, laid).
  DERIVED. THE GIVEN ROWS OF THIS SEAT. 7 by the template 'for every input the law returns true; each argument reads behind the call as it read before'; 0 by the template 'total and deterministic' (their statements: YtkcccoialmineaaTotals.lean).
  GIVEN WITH THE SEED: the statements are not yours to turn. If you find one false, say at which input.
  Laid BY PROGRAM, IN A SANDBOX (cutbox-rows.mjs): the forced cells as the released guide's own fill.sh prints them over the translation 2a1b1ec02f2d1612… (all of the seat's roots in one cut). By AI agents, Wed Nov 11 2026. No macro, syntax, notation, axiom, sorry.
-/
import Derived.Test.YtkcccoialmineaaChecked
import GoSem.Claim
import GoSem.ClaimJoined
import GoSem.ClaimMapViews
import Derived.JoinedTies
import Derived.KernelRfl
namespace Go.Proofs.Ytkcccoialmineaa
/- THE CELL 'sum', in the pinned program and in every row, IS THE sha256 OF THE DUMP (.gsa) THAT YtkcccoialmineaaProg.lean LOADS. Nothing in Lean hashes anything: it is a label: what it is worth is what the hold of that sum in a sandbox is worth. -/
noncomputable def Try.pinned : Pinned := { name := "ytkcccoialmineaa", sum := "2a1b1ec02f2d161211b80f1771b2dae405f69fd5dd13b4bcfcdfb4cf5e5e4ddc", checked := Try.checked }
namespace Rows
def none {H : Type} : Left H := { results := [], args := [] }

/-- 'userplanelaw07.TrellisSteps': WHATEVER THE INPUT: true; the input reads as it did. -/
def trellisStepsSpec : ChangeSpec := { name := "trellisSteps", fn := fun _ => fun
  | [d1, d2] => { results := [.lit (.bool true)], args := [d1, d2] }
  | _ => none }
def trellisStepsRow : OpenClaim := { program := "ytkcccoialmineaa", sum := "2a1b1ec02f2d161211b80f1771b2dae405f69fd5dd13b4bcfcdfb4cf5e5e4ddc", func := "userplane/userplanelaw07.TrellisSteps", spec := "trellisSteps", unfollowed := true, recurses := true, apart := false }
def TrellisStepsSaid : Prop := trellisStepsRow.holds Try.pinned (OpenSpec.ofChange trellisStepsSpec)

/-- ITS FALSE NEIGHBOUR: 'it returns false'. Refute it at one input. -/
def trellisStepsWrong : ChangeSpec := { name := "trellisSteps", fn := fun _ => fun
  | [d1, d2] => { results := [.lit (.bool false)], args := [d1, d2] }
  | _ => none }
def TrellisStepsWrongFalsely : Prop := trellisStepsRow.holds Try.pinned (OpenSpec.ofChange trellisStepsWrong)

/-- 'userplanelaw07.TrellisEncodes': WHATEVER THE INPUT: true; the input reads as it did. -/
def trellisEncodesSpec : ChangeSpec := { name := "trellisEncodes", fn := fun _ => fun
  | [d] => { results := [.lit (.bool true)], args := [d] }
  | _ => none }
def trellisEncodesRow : OpenClaim := { program := "ytkcccoialmineaa", sum := "2a1b1ec02f2d161211b80f1771b2dae405f69fd5dd13b4bcfcdfb4cf5e5e4ddc", func := "userplane/userplanelaw07.TrellisEncodes", spec := "trellisEncodes", unfollowed := true, recurses := true, apart := false }
def TrellisEncodesSaid : Prop := trellisEncodesRow.holds Try.pinned (OpenSpec.ofChange trellisEncodesSpec)

/-- ITS FALSE NEIGHBOUR: 'it returns false'. Refute it at one input. -/
def trellisEncodesWrong : ChangeSpec := { name := "trellisEncodes", fn := fun _ => fun
  | [d] => { results := [.lit (.bool false)], args := [d] }
  | _ => none }
def TrellisEncodesWrongFalsely : Prop := trellisEncodesRow.holds Try.pinned (OpenSpec.ofChange trellisEncodesWrong)

/-- 'userplanelaw07.TrellisBranches': WHATEVER THE INPUT: true; the input reads as it did. -/
def trellisBranchesSpec : ChangeSpec := { name := "trellisBranches", fn := fun _ => fun
  | [d] => { results := [.lit (.bool true)], args := [d] }
  | _ => none }
def trellisBranchesRow : OpenClaim := { program := "ytkcccoialmineaa", sum := "2a1b1ec02f2d161211b80f1771b2dae405f69fd5dd13b4bcfcdfb4cf5e5e4ddc", func := "userplane/userplanelaw07.TrellisBranches", spec := "trellisBranches", unfollowed := true, recurses := true, apart := false }
def TrellisBranchesSaid : Prop := trellisBranchesRow.holds Try.pinned (OpenSpec.ofChange trellisBranchesSpec)

/-- ITS FALSE NEIGHBOUR: 'it returns false'. Refute it at one input. -/
def trellisBranchesWrong : ChangeSpec := { name := "trellisBranches", fn := fun _ => fun
  | [d] => { results := [.lit (.bool false)], args := [d] }
  | _ => none }
def TrellisBranchesWrongFalsely : Prop := trellisBranchesRow.holds Try.pinned (OpenSpec.ofChange trellisBranchesWrong)

/-- 'userplanelaw07.TrellisLinear': WHATEVER THE INPUT: true; the input reads as it did. -/
def trellisLinearSpec : ChangeSpec := { name := "trellisLinear", fn := fun _ => fun
  | [d1, d2] => { results := [.lit (.bool true)], args := [d1, d2] }
  | _ => none }
def trellisLinearRow : OpenClaim := { program := "ytkcccoialmineaa", sum := "2a1b1ec02f2d161211b80f1771b2dae405f69fd5dd13b4bcfcdfb4cf5e5e4ddc", func := "userplane/userplanelaw07.TrellisLinear", spec := "trellisLinear", unfollowed := true, recurses := true, apart := false }
def TrellisLinearSaid : Prop := trellisLinearRow.holds Try.pinned (OpenSpec.ofChange trellisLinearSpec)

/-- ITS FALSE NEIGHBOUR: 'it returns false'. Refute it at one input. -/
def trellisLinearWrong : ChangeSpec := { name := "trellisLinear", fn := fun _ => fun
  | [d1, d2] => { results := [.lit (.bool false)], args := [d1, d2] }
  | _ => none }
def TrellisLinearWrongFalsely : Prop := trellisLinearRow.holds Try.pinned (OpenSpec.ofChange trellisLinearWrong)

/-- 'userplanelaw07.TrellisEnds': WHATEVER THE INPUT: true; the input reads as it did. -/
def trellisEndsSpec : ChangeSpec := { name := "trellisEnds", fn := fun _ => fun
  | [d] => { results := [.lit (.bool true)], args := [d] }
  | _ => none }
def trellisEndsRow : OpenClaim := { program := "ytkcccoialmineaa", sum := "2a1b1ec02f2d161211b80f1771b2dae405f69fd5dd13b4bcfcdfb4cf5e5e4ddc", func := "userplane/userplanelaw07.TrellisEnds", spec := "trellisEnds", unfollowed := true, recurses := true, apart := false }
def TrellisEndsSaid : Prop := trellisEndsRow.holds Try.pinned (OpenSpec.ofChange trellisEndsSpec)

/-- ITS FALSE NEIGHBOUR: 'it returns false'. Refute it at one input. -/
def trellisEndsWrong : ChangeSpec := { name := "trellisEnds", fn := fun _ => fun
  | [d] => { results := [.lit (.bool false)], args := [d] }
  | _ => none }
def TrellisEndsWrongFalsely : Prop := trellisEndsRow.holds Try.pinned (OpenSpec.ofChange trellisEndsWrong)

/-- 'userplanelaw07.TrellisHolds': WHATEVER THE INPUT: true; the input reads as it did. -/
def trellisHoldsSpec : ChangeSpec := { name := "trellisHolds", fn := fun _ => fun
  | [d1, d2] => { results := [.lit (.bool true)], args := [d1, d2] }
  | _ => none }
def trellisHoldsRow : OpenClaim := { program := "ytkcccoialmineaa", sum := "2a1b1ec02f2d161211b80f1771b2dae405f69fd5dd13b4bcfcdfb4cf5e5e4ddc", func := "userplane/userplanelaw07.TrellisHolds", spec := "trellisHolds", unfollowed := true, recurses := true, apart := false }
def TrellisHoldsSaid : Prop := trellisHoldsRow.holds Try.pinned (OpenSpec.ofChange trellisHoldsSpec)

/-- ITS FALSE NEIGHBOUR: 'it returns false'. Refute it at one input. -/
def trellisHoldsWrong : ChangeSpec := { name := "trellisHolds", fn := fun _ => fun
  | [d1, d2] => { results := [.lit (.bool false)], args := [d1, d2] }
  | _ => none }
def TrellisHoldsWrongFalsely : Prop := trellisHoldsRow.holds Try.pinned (OpenSpec.ofChange trellisHoldsWrong)

/-- 'userplanelaw07.TrellisWalks': WHATEVER THE INPUT: true; the input reads as it did. -/
def trellisWalksSpec : ChangeSpec := { name := "trellisWalks", fn := fun _ => fun
  | [d1, d2] => { results := [.lit (.bool true)], args := [d1, d2] }
  | _ => none }
def trellisWalksRow : OpenClaim := { program := "ytkcccoialmineaa", sum := "2a1b1ec02f2d161211b80f1771b2dae405f69fd5dd13b4bcfcdfb4cf5e5e4ddc", func := "userplane/userplanelaw07.TrellisWalks", spec := "trellisWalks", unfollowed := true, recurses := true, apart := false }
def TrellisWalksSaid : Prop := trellisWalksRow.holds Try.pinned (OpenSpec.ofChange trellisWalksSpec)

/-- ITS FALSE NEIGHBOUR: 'it returns false'. Refute it at one input. -/
def trellisWalksWrong : ChangeSpec := { name := "trellisWalks", fn := fun _ => fun
  | [d1, d2] => { results := [.lit (.bool false)], args := [d1, d2] }
  | _ => none }
def TrellisWalksWrongFalsely : Prop := trellisWalksRow.holds Try.pinned (OpenSpec.ofChange trellisWalksWrong)

/- THE SECOND FORM. 'bulk': how many values and letters a reading holds, each counted each time it is reached (what is shared counts as often as it is met; a slice's spare places count too). A statement '..UptoSaid' is the law's where the arguments, and the package variables that the reading takes, are together of bulk at most 1048576: NARROWER than '..Said'. Prove '..Said' where nothing that the law and all that it calls make is longer than what came in: it says more and counts as full. Else prove '..UptoSaid'. A law counts once. -/
mutual
def uptoBulk {H : Type} : DataW H → Nat
  | .lit (.string bytes) => bytes.length + 1
  | .lit _ => 1
  | .nil => 1
  | .ptr d => uptoBulk d + 1
  | .slice elems spare => uptoBulkAll elems + uptoBulkAll spare + 1
  | .agg parts => uptoBulkAll parts + 1
  | .iface _ d => uptoBulk d + 1
  | .map entries => uptoBulkEntries entries + 1
  | .held _ => 1
def uptoBulkAll {H : Type} : List (DataW H) → Nat
  | [] => 0
  | d :: r => uptoBulk d + uptoBulkAll r
def uptoBulkEntries {H : Type} : List (Lit × DataW H) → Nat
  | [] => 0
  | x :: r => uptoBulkEntry x + uptoBulkEntries r
def uptoBulkEntry {H : Type} : Lit × DataW H → Nat
  | (.string bytes, d) => bytes.length + uptoBulk d + 1
  | (_, d) => uptoBulk d + 1
 end
def uptoSmall : (H : Type) → List (DataW H) → Bool := fun _ ds => decide (uptoBulkAll ds ≤ 1048576)
def OpenSpec.upto (s : _root_.Go.ChangeSpec) : _root_.Go.OpenSpec := { _root_.Go.OpenSpec.ofChange s with cond := some uptoSmall }

/-- 'userplanelaw07.TrellisSteps', WHERE WHAT IT READS IS OF BULK AT MOST 1048576: true; the input reads as it did. -/
def trellisStepsUptoRow : OpenClaim := { program := "ytkcccoialmineaa", sum := "2a1b1ec02f2d161211b80f1771b2dae405f69fd5dd13b4bcfcdfb4cf5e5e4ddc", func := "userplane/userplanelaw07.TrellisSteps", spec := "trellisSteps", unfollowed := true, recurses := true, apart := false, narrowed := true }
def TrellisStepsUptoSaid : Prop := trellisStepsUptoRow.holds Try.pinned (OpenSpec.upto trellisStepsSpec)

/-- 'userplanelaw07.TrellisEncodes', WHERE WHAT IT READS IS OF BULK AT MOST 1048576: true; the input reads as it did. -/
def trellisEncodesUptoRow : OpenClaim := { program := "ytkcccoialmineaa", sum := "2a1b1ec02f2d161211b80f1771b2dae405f69fd5dd13b4bcfcdfb4cf5e5e4ddc", func := "userplane/userplanelaw07.TrellisEncodes", spec := "trellisEncodes", unfollowed := true, recurses := true, apart := false, narrowed := true }
def TrellisEncodesUptoSaid : Prop := trellisEncodesUptoRow.holds Try.pinned (OpenSpec.upto trellisEncodesSpec)

/-- 'userplanelaw07.TrellisBranches', WHERE WHAT IT READS IS OF BULK AT MOST 1048576: true; the input reads as it did. -/
def trellisBranchesUptoRow : OpenClaim := { program := "ytkcccoialmineaa", sum := "2a1b1ec02f2d161211b80f1771b2dae405f69fd5dd13b4bcfcdfb4cf5e5e4ddc", func := "userplane/userplanelaw07.TrellisBranches", spec := "trellisBranches", unfollowed := true, recurses := true, apart := false, narrowed := true }
def TrellisBranchesUptoSaid : Prop := trellisBranchesUptoRow.holds Try.pinned (OpenSpec.upto trellisBranchesSpec)

/-- 'userplanelaw07.TrellisLinear', WHERE WHAT IT READS IS OF BULK AT MOST 1048576: true; the input reads as it did. -/
def trellisLinearUptoRow : OpenClaim := { program := "ytkcccoialmineaa", sum := "2a1b1ec02f2d161211b80f1771b2dae405f69fd5dd13b4bcfcdfb4cf5e5e4ddc", func := "userplane/userplanelaw07.TrellisLinear", spec := "trellisLinear", unfollowed := true, recurses := true, apart := false, narrowed := true }
def TrellisLinearUptoSaid : Prop := trellisLinearUptoRow.holds Try.pinned (OpenSpec.upto trellisLinearSpec)

/-- 'userplanelaw07.TrellisEnds', WHERE WHAT IT READS IS OF BULK AT MOST 1048576: true; the input reads as it did. -/
def trellisEndsUptoRow : OpenClaim := { program := "ytkcccoialmineaa", sum := "2a1b1ec02f2d161211b80f1771b2dae405f69fd5dd13b4bcfcdfb4cf5e5e4ddc", func := "userplane/userplanelaw07.TrellisEnds", spec := "trellisEnds", unfollowed := true, recurses := true, apart := false, narrowed := true }
def TrellisEndsUptoSaid : Prop := trellisEndsUptoRow.holds Try.pinned (OpenSpec.upto trellisEndsSpec)

/-- 'userplanelaw07.TrellisHolds', WHERE WHAT IT READS IS OF BULK AT MOST 1048576: true; the input reads as it did. -/
def trellisHoldsUptoRow : OpenClaim := { program := "ytkcccoialmineaa", sum := "2a1b1ec02f2d161211b80f1771b2dae405f69fd5dd13b4bcfcdfb4cf5e5e4ddc", func := "userplane/userplanelaw07.TrellisHolds", spec := "trellisHolds", unfollowed := true, recurses := true, apart := false, narrowed := true }
def TrellisHoldsUptoSaid : Prop := trellisHoldsUptoRow.holds Try.pinned (OpenSpec.upto trellisHoldsSpec)

/-- 'userplanelaw07.TrellisWalks', WHERE WHAT IT READS IS OF BULK AT MOST 1048576: true; the input reads as it did. -/
def trellisWalksUptoRow : OpenClaim := { program := "ytkcccoialmineaa", sum := "2a1b1ec02f2d161211b80f1771b2dae405f69fd5dd13b4bcfcdfb4cf5e5e4ddc", func := "userplane/userplanelaw07.TrellisWalks", spec := "trellisWalks", unfollowed := true, recurses := true, apart := false, narrowed := true }
def TrellisWalksUptoSaid : Prop := trellisWalksUptoRow.holds Try.pinned (OpenSpec.upto trellisWalksSpec)

end Rows
end Go.Proofs.Ytkcccoialmineaa
