/-
  No cell of these rows narrows 'for every input' (looked for: loops, veiled, ifaces, maps, wideKeys, modest, calm, conditions, laid).
  DERIVED. THE GIVEN ROWS OF THIS SEAT. 6 by the template 'for every input the law returns true; each argument reads behind the call as it read before'; 0 by the template 'total and deterministic' (their statements: YthbpmofabcilhaaTotals.lean).
  GIVEN WITH THE SEED: the statements are not yours to turn. If you find one false, say at which input.
  Laid BY PROGRAM, IN A SANDBOX (cutbox-rows.mjs): the forced cells as the released guide's own fill.sh prints them over the translation 25add3d284812c90… (all of the seat's roots in one cut). By AI agents, Wed Nov 11 2026. No macro, syntax, notation, axiom, sorry.
-/
import Derived.Test.YthbpmofabcilhaaChecked
import GoSem.Claim
import GoSem.ClaimJoined
import GoSem.ClaimMapViews
import Derived.JoinedTies
import Derived.KernelRfl
namespace Go.Proofs.Ythbpmofabcilhaa
/- THE CELL 'sum', in the pinned program and in every row, IS THE sha256 OF THE DUMP (.gsa) THAT YthbpmofabcilhaaProg.lean LOADS. Nothing in Lean hashes anything: it is a label: what it is worth is what the hold of that sum in a sandbox is worth. -/
noncomputable def Try.pinned : Pinned := { name := "ythbpmofabcilhaa", sum := "25add3d284812c90621965cf621b2f6484923b063b90e3b2a152afff9a3eba66", checked := Try.checked }
namespace Rows
def none {H : Type} : Left H := { results := [], args := [] }

/-- 'userplanelaw20.HarqtxEnds': WHATEVER THE INPUT: true; the input reads as it did. -/
def harqtxEndsSpec : ChangeSpec := { name := "harqtxEnds", fn := fun _ => fun
  | [d1, d2, d3] => { results := [.lit (.bool true)], args := [d1, d2, d3] }
  | _ => none }
def harqtxEndsRow : OpenClaim := { program := "ythbpmofabcilhaa", sum := "25add3d284812c90621965cf621b2f6484923b063b90e3b2a152afff9a3eba66", func := "userplane/userplanelaw20.HarqtxEnds", spec := "harqtxEnds", apart := false }
def HarqtxEndsSaid : Prop := harqtxEndsRow.holds Try.pinned (OpenSpec.ofChange harqtxEndsSpec)

/-- ITS FALSE NEIGHBOUR: 'it returns false'. Refute it at one input. -/
def harqtxEndsWrong : ChangeSpec := { name := "harqtxEnds", fn := fun _ => fun
  | [d1, d2, d3] => { results := [.lit (.bool false)], args := [d1, d2, d3] }
  | _ => none }
def HarqtxEndsWrongFalsely : Prop := harqtxEndsRow.holds Try.pinned (OpenSpec.ofChange harqtxEndsWrong)

/-- 'userplanelaw20.HarqtxTimes': WHATEVER THE INPUT: true; the input reads as it did. -/
def harqtxTimesSpec : ChangeSpec := { name := "harqtxTimes", fn := fun _ => fun
  | [d1, d2, d3] => { results := [.lit (.bool true)], args := [d1, d2, d3] }
  | _ => none }
def harqtxTimesRow : OpenClaim := { program := "ythbpmofabcilhaa", sum := "25add3d284812c90621965cf621b2f6484923b063b90e3b2a152afff9a3eba66", func := "userplane/userplanelaw20.HarqtxTimes", spec := "harqtxTimes", apart := false }
def HarqtxTimesSaid : Prop := harqtxTimesRow.holds Try.pinned (OpenSpec.ofChange harqtxTimesSpec)

/-- ITS FALSE NEIGHBOUR: 'it returns false'. Refute it at one input. -/
def harqtxTimesWrong : ChangeSpec := { name := "harqtxTimes", fn := fun _ => fun
  | [d1, d2, d3] => { results := [.lit (.bool false)], args := [d1, d2, d3] }
  | _ => none }
def HarqtxTimesWrongFalsely : Prop := harqtxTimesRow.holds Try.pinned (OpenSpec.ofChange harqtxTimesWrong)

/-- 'userplanelaw20.HarqtxRuns': WHATEVER THE INPUT: true; the input reads as it did. -/
def harqtxRunsSpec : ChangeSpec := { name := "harqtxRuns", fn := fun _ => fun
  | [d1, d2] => { results := [.lit (.bool true)], args := [d1, d2] }
  | _ => none }
def harqtxRunsRow : OpenClaim := { program := "ythbpmofabcilhaa", sum := "25add3d284812c90621965cf621b2f6484923b063b90e3b2a152afff9a3eba66", func := "userplane/userplanelaw20.HarqtxRuns", spec := "harqtxRuns", apart := false }
def HarqtxRunsSaid : Prop := harqtxRunsRow.holds Try.pinned (OpenSpec.ofChange harqtxRunsSpec)

/-- ITS FALSE NEIGHBOUR: 'it returns false'. Refute it at one input. -/
def harqtxRunsWrong : ChangeSpec := { name := "harqtxRuns", fn := fun _ => fun
  | [d1, d2] => { results := [.lit (.bool false)], args := [d1, d2] }
  | _ => none }
def HarqtxRunsWrongFalsely : Prop := harqtxRunsRow.holds Try.pinned (OpenSpec.ofChange harqtxRunsWrong)

/-- 'userplanelaw20.HarqtxErrors': WHATEVER THE INPUT: true; the input reads as it did. -/
def harqtxErrorsSpec : ChangeSpec := { name := "harqtxErrors", fn := fun _ => fun
  | [d1, d2, d3] => { results := [.lit (.bool true)], args := [d1, d2, d3] }
  | _ => none }
def harqtxErrorsRow : OpenClaim := { program := "ythbpmofabcilhaa", sum := "25add3d284812c90621965cf621b2f6484923b063b90e3b2a152afff9a3eba66", func := "userplane/userplanelaw20.HarqtxErrors", spec := "harqtxErrors", apart := false }
def HarqtxErrorsSaid : Prop := harqtxErrorsRow.holds Try.pinned (OpenSpec.ofChange harqtxErrorsSpec)

/-- ITS FALSE NEIGHBOUR: 'it returns false'. Refute it at one input. -/
def harqtxErrorsWrong : ChangeSpec := { name := "harqtxErrors", fn := fun _ => fun
  | [d1, d2, d3] => { results := [.lit (.bool false)], args := [d1, d2, d3] }
  | _ => none }
def HarqtxErrorsWrongFalsely : Prop := harqtxErrorsRow.holds Try.pinned (OpenSpec.ofChange harqtxErrorsWrong)

/-- 'userplanelaw20.HarqtxCopies': WHATEVER THE INPUT: true; the input reads as it did. -/
def harqtxCopiesSpec : ChangeSpec := { name := "harqtxCopies", fn := fun _ => fun
  | [d1, d2, d3, d4] => { results := [.lit (.bool true)], args := [d1, d2, d3, d4] }
  | _ => none }
def harqtxCopiesRow : OpenClaim := { program := "ythbpmofabcilhaa", sum := "25add3d284812c90621965cf621b2f6484923b063b90e3b2a152afff9a3eba66", func := "userplane/userplanelaw20.HarqtxCopies", spec := "harqtxCopies", apart := false }
def HarqtxCopiesSaid : Prop := harqtxCopiesRow.holds Try.pinned (OpenSpec.ofChange harqtxCopiesSpec)

/-- ITS FALSE NEIGHBOUR: 'it returns false'. Refute it at one input. -/
def harqtxCopiesWrong : ChangeSpec := { name := "harqtxCopies", fn := fun _ => fun
  | [d1, d2, d3, d4] => { results := [.lit (.bool false)], args := [d1, d2, d3, d4] }
  | _ => none }
def HarqtxCopiesWrongFalsely : Prop := harqtxCopiesRow.holds Try.pinned (OpenSpec.ofChange harqtxCopiesWrong)

/-- 'userplanelaw20.HarqtxNil': WHATEVER THE INPUT: true; the input reads as it did. -/
def harqtxNilSpec : ChangeSpec := { name := "harqtxNil", fn := fun _ => fun
  | [d1, d2, d3] => { results := [.lit (.bool true)], args := [d1, d2, d3] }
  | _ => none }
def harqtxNilRow : OpenClaim := { program := "ythbpmofabcilhaa", sum := "25add3d284812c90621965cf621b2f6484923b063b90e3b2a152afff9a3eba66", func := "userplane/userplanelaw20.HarqtxNil", spec := "harqtxNil", apart := false }
def HarqtxNilSaid : Prop := harqtxNilRow.holds Try.pinned (OpenSpec.ofChange harqtxNilSpec)

/-- ITS FALSE NEIGHBOUR: 'it returns false'. Refute it at one input. -/
def harqtxNilWrong : ChangeSpec := { name := "harqtxNil", fn := fun _ => fun
  | [d1, d2, d3] => { results := [.lit (.bool false)], args := [d1, d2, d3] }
  | _ => none }
def HarqtxNilWrongFalsely : Prop := harqtxNilRow.holds Try.pinned (OpenSpec.ofChange harqtxNilWrong)

/- THE SECOND FORM. 'bulk': how many values and letters a reading holds, each counted each time it is reached (what is shared counts as often as it is met; a slice's spare places count too). A statement '..UptoSaid' is the law's where the arguments, and the package variables that the reading takes, are together of bulk at most 1048576: NARROWER than '..Said'. Prove '..Said' where nothing that the law and all that it calls make is longer than what came in: it says more and counts as full. Else prove '..UptoSaid'. A law counts once. -/
mutual
def uptoBulk {H : Type} : DataW H → Nat
  | .lit (.string bytes) => bytes.length + 1
  | .lit _ => 1
  | .nil => 1
  | .ptr d => uptoBulk d + 1
  | .slice elems spare => uptoBulkAll elems + uptoBulkAll spare + 1
  | .agg parts => uptoBulkAll parts + 1
  | .iface _ d => uptoBulk d + 1
  | .map entries => uptoBulkEntries entries + 1
  | .held _ => 1
def uptoBulkAll {H : Type} : List (DataW H) → Nat
  | [] => 0
  | d :: r => uptoBulk d + uptoBulkAll r
def uptoBulkEntries {H : Type} : List (Lit × DataW H) → Nat
  | [] => 0
  | x :: r => uptoBulkEntry x + uptoBulkEntries r
def uptoBulkEntry {H : Type} : Lit × DataW H → Nat
  | (.string bytes, d) => bytes.length + uptoBulk d + 1
  | (_, d) => uptoBulk d + 1
 end
def uptoSmall : (H : Type) → List (DataW H) → Bool := fun _ ds => decide (uptoBulkAll ds ≤ 1048576)
def OpenSpec.upto (s : _root_.Go.ChangeSpec) : _root_.Go.OpenSpec := { _root_.Go.OpenSpec.ofChange s with cond := some uptoSmall }

/-- 'userplanelaw20.HarqtxEnds', WHERE WHAT IT READS IS OF BULK AT MOST 1048576: true; the input reads as it did. -/
def harqtxEndsUptoRow : OpenClaim := { program := "ythbpmofabcilhaa", sum := "25add3d284812c90621965cf621b2f6484923b063b90e3b2a152afff9a3eba66", func := "userplane/userplanelaw20.HarqtxEnds", spec := "harqtxEnds", apart := false, narrowed := true }
def HarqtxEndsUptoSaid : Prop := harqtxEndsUptoRow.holds Try.pinned (OpenSpec.upto harqtxEndsSpec)

/-- 'userplanelaw20.HarqtxTimes', WHERE WHAT IT READS IS OF BULK AT MOST 1048576: true; the input reads as it did. -/
def harqtxTimesUptoRow : OpenClaim := { program := "ythbpmofabcilhaa", sum := "25add3d284812c90621965cf621b2f6484923b063b90e3b2a152afff9a3eba66", func := "userplane/userplanelaw20.HarqtxTimes", spec := "harqtxTimes", apart := false, narrowed := true }
def HarqtxTimesUptoSaid : Prop := harqtxTimesUptoRow.holds Try.pinned (OpenSpec.upto harqtxTimesSpec)

/-- 'userplanelaw20.HarqtxRuns', WHERE WHAT IT READS IS OF BULK AT MOST 1048576: true; the input reads as it did. -/
def harqtxRunsUptoRow : OpenClaim := { program := "ythbpmofabcilhaa", sum := "25add3d284812c90621965cf621b2f6484923b063b90e3b2a152afff9a3eba66", func := "userplane/userplanelaw20.HarqtxRuns", spec := "harqtxRuns", apart := false, narrowed := true }
def HarqtxRunsUptoSaid : Prop := harqtxRunsUptoRow.holds Try.pinned (OpenSpec.upto harqtxRunsSpec)

/-- 'userplanelaw20.HarqtxErrors', WHERE WHAT IT READS IS OF BULK AT MOST 1048576: true; the input reads as it did. -/
def harqtxErrorsUptoRow : OpenClaim := { program := "ythbpmofabcilhaa", sum := "25add3d284812c90621965cf621b2f6484923b063b90e3b2a152afff9a3eba66", func := "userplane/userplanelaw20.HarqtxErrors", spec := "harqtxErrors", apart := false, narrowed := true }
def HarqtxErrorsUptoSaid : Prop := harqtxErrorsUptoRow.holds Try.pinned (OpenSpec.upto harqtxErrorsSpec)

/-- 'userplanelaw20.HarqtxCopies', WHERE WHAT IT READS IS OF BULK AT MOST 1048576: true; the input reads as it did. -/
def harqtxCopiesUptoRow : OpenClaim := { program := "ythbpmofabcilhaa", sum := "25add3d284812c90621965cf621b2f6484923b063b90e3b2a152afff9a3eba66", func := "userplane/userplanelaw20.HarqtxCopies", spec := "harqtxCopies", apart := false, narrowed := true }
def HarqtxCopiesUptoSaid : Prop := harqtxCopiesUptoRow.holds Try.pinned (OpenSpec.upto harqtxCopiesSpec)

/-- 'userplanelaw20.HarqtxNil', WHERE WHAT IT READS IS OF BULK AT MOST 1048576: true; the input reads as it did. -/
def harqtxNilUptoRow : OpenClaim := { program := "ythbpmofabcilhaa", sum := "25add3d284812c90621965cf621b2f6484923b063b90e3b2a152afff9a3eba66", func := "userplane/userplanelaw20.HarqtxNil", spec := "harqtxNil", apart := false, narrowed := true }
def HarqtxNilUptoSaid : Prop := harqtxNilUptoRow.holds Try.pinned (OpenSpec.upto harqtxNilSpec)

end Rows
end Go.Proofs.Ythbpmofabcilhaa
