/-
  No cell of these rows narrows 'for every input' (looked for: loops, veiled, ifaces, maps, wideKeys, modest, calm, conditions, laid).
  DERIVED. THE GIVEN ROWS OF THIS SEAT. 7 by the template 'for every input the law returns true; each argument reads behind the call as it read before'; 0 by the template 'total and deterministic' (their statements: YtflmbghbgmkdeaaTotals.lean).
  GIVEN WITH THE SEED: the statements are not yours to turn. If you find one false, say at which input.
  Laid BY PROGRAM, IN A SANDBOX (cutbox-rows.mjs): the forced cells as the released guide's own fill.sh prints them over the translation a951f150f56bc46b… (all of the seat's roots in one cut). By AI agents, Wed Nov 11 2026. No macro, syntax, notation, axiom, sorry.
-/
import Derived.Test.YtflmbghbgmkdeaaChecked
import GoSem.Claim
import GoSem.ClaimJoined
import GoSem.ClaimMapViews
import Derived.JoinedTies
import Derived.KernelRfl
namespace Go.Proofs.Ytflmbghbgmkdeaa
/- THE CELL 'sum', in the pinned program and in every row, IS THE sha256 OF THE DUMP (.gsa) THAT YtflmbghbgmkdeaaProg.lean LOADS. Nothing in Lean hashes anything: it is a label: what it is worth is what the hold of that sum in a sandbox is worth. -/
noncomputable def Try.pinned : Pinned := { name := "ytflmbghbgmkdeaa", sum := "a951f150f56bc46bc391d8ec986414d341acb28f882684c8a5a1ac3359bca8af", checked := Try.checked }
namespace Rows
def none {H : Type} : Left H := { results := [], args := [] }

/-- 'userplanelaw01.BitstrUints': WHATEVER THE INPUT: true; the input reads as it did. -/
def bitstrUintsSpec : ChangeSpec := { name := "bitstrUints", fn := fun _ => fun
  | [d1, d2, d3] => { results := [.lit (.bool true)], args := [d1, d2, d3] }
  | _ => none }
def bitstrUintsRow : OpenClaim := { program := "ytflmbghbgmkdeaa", sum := "a951f150f56bc46bc391d8ec986414d341acb28f882684c8a5a1ac3359bca8af", func := "userplane/userplanelaw01.BitstrUints", spec := "bitstrUints", unfollowed := true, recurses := true, apart := false }
def BitstrUintsSaid : Prop := bitstrUintsRow.holds Try.pinned (OpenSpec.ofChange bitstrUintsSpec)

/-- ITS FALSE NEIGHBOUR: 'it returns false'. Refute it at one input. -/
def bitstrUintsWrong : ChangeSpec := { name := "bitstrUints", fn := fun _ => fun
  | [d1, d2, d3] => { results := [.lit (.bool false)], args := [d1, d2, d3] }
  | _ => none }
def BitstrUintsWrongFalsely : Prop := bitstrUintsRow.holds Try.pinned (OpenSpec.ofChange bitstrUintsWrong)

/-- 'userplanelaw01.BitstrXor': WHATEVER THE INPUT: true; the input reads as it did. -/
def bitstrXorSpec : ChangeSpec := { name := "bitstrXor", fn := fun _ => fun
  | [d1, d2] => { results := [.lit (.bool true)], args := [d1, d2] }
  | _ => none }
def bitstrXorRow : OpenClaim := { program := "ytflmbghbgmkdeaa", sum := "a951f150f56bc46bc391d8ec986414d341acb28f882684c8a5a1ac3359bca8af", func := "userplane/userplanelaw01.BitstrXor", spec := "bitstrXor", unfollowed := true, recurses := true, apart := false }
def BitstrXorSaid : Prop := bitstrXorRow.holds Try.pinned (OpenSpec.ofChange bitstrXorSpec)

/-- ITS FALSE NEIGHBOUR: 'it returns false'. Refute it at one input. -/
def bitstrXorWrong : ChangeSpec := { name := "bitstrXor", fn := fun _ => fun
  | [d1, d2] => { results := [.lit (.bool false)], args := [d1, d2] }
  | _ => none }
def BitstrXorWrongFalsely : Prop := bitstrXorRow.holds Try.pinned (OpenSpec.ofChange bitstrXorWrong)

/-- 'userplanelaw01.BitstrMetric': WHATEVER THE INPUT: true; the input reads as it did. -/
def bitstrMetricSpec : ChangeSpec := { name := "bitstrMetric", fn := fun _ => fun
  | [d1, d2, d3] => { results := [.lit (.bool true)], args := [d1, d2, d3] }
  | _ => none }
def bitstrMetricRow : OpenClaim := { program := "ytflmbghbgmkdeaa", sum := "a951f150f56bc46bc391d8ec986414d341acb28f882684c8a5a1ac3359bca8af", func := "userplane/userplanelaw01.BitstrMetric", spec := "bitstrMetric", unfollowed := true, recurses := true, apart := false }
def BitstrMetricSaid : Prop := bitstrMetricRow.holds Try.pinned (OpenSpec.ofChange bitstrMetricSpec)

/-- ITS FALSE NEIGHBOUR: 'it returns false'. Refute it at one input. -/
def bitstrMetricWrong : ChangeSpec := { name := "bitstrMetric", fn := fun _ => fun
  | [d1, d2, d3] => { results := [.lit (.bool false)], args := [d1, d2, d3] }
  | _ => none }
def BitstrMetricWrongFalsely : Prop := bitstrMetricRow.holds Try.pinned (OpenSpec.ofChange bitstrMetricWrong)

/-- 'userplanelaw01.BitstrHolds': WHATEVER THE INPUT: true; the input reads as it did. -/
def bitstrHoldsSpec : ChangeSpec := { name := "bitstrHolds", fn := fun _ => fun
  | [d1, d2, d3] => { results := [.lit (.bool true)], args := [d1, d2, d3] }
  | _ => none }
def bitstrHoldsRow : OpenClaim := { program := "ytflmbghbgmkdeaa", sum := "a951f150f56bc46bc391d8ec986414d341acb28f882684c8a5a1ac3359bca8af", func := "userplane/userplanelaw01.BitstrHolds", spec := "bitstrHolds", unfollowed := true, recurses := true, apart := false }
def BitstrHoldsSaid : Prop := bitstrHoldsRow.holds Try.pinned (OpenSpec.ofChange bitstrHoldsSpec)

/-- ITS FALSE NEIGHBOUR: 'it returns false'. Refute it at one input. -/
def bitstrHoldsWrong : ChangeSpec := { name := "bitstrHolds", fn := fun _ => fun
  | [d1, d2, d3] => { results := [.lit (.bool false)], args := [d1, d2, d3] }
  | _ => none }
def BitstrHoldsWrongFalsely : Prop := bitstrHoldsRow.holds Try.pinned (OpenSpec.ofChange bitstrHoldsWrong)

/-- 'userplanelaw01.BitstrPack': WHATEVER THE INPUT: true; the input reads as it did. -/
def bitstrPackSpec : ChangeSpec := { name := "bitstrPack", fn := fun _ => fun
  | [d1, d2, d3] => { results := [.lit (.bool true)], args := [d1, d2, d3] }
  | _ => none }
def bitstrPackRow : OpenClaim := { program := "ytflmbghbgmkdeaa", sum := "a951f150f56bc46bc391d8ec986414d341acb28f882684c8a5a1ac3359bca8af", func := "userplane/userplanelaw01.BitstrPack", spec := "bitstrPack", unfollowed := true, recurses := true, apart := false }
def BitstrPackSaid : Prop := bitstrPackRow.holds Try.pinned (OpenSpec.ofChange bitstrPackSpec)

/-- ITS FALSE NEIGHBOUR: 'it returns false'. Refute it at one input. -/
def bitstrPackWrong : ChangeSpec := { name := "bitstrPack", fn := fun _ => fun
  | [d1, d2, d3] => { results := [.lit (.bool false)], args := [d1, d2, d3] }
  | _ => none }
def BitstrPackWrongFalsely : Prop := bitstrPackRow.holds Try.pinned (OpenSpec.ofChange bitstrPackWrong)

/-- 'userplanelaw01.BitstrConcat': WHATEVER THE INPUT: true; the input reads as it did. -/
def bitstrConcatSpec : ChangeSpec := { name := "bitstrConcat", fn := fun _ => fun
  | [d] => { results := [.lit (.bool true)], args := [d] }
  | _ => none }
def bitstrConcatRow : OpenClaim := { program := "ytflmbghbgmkdeaa", sum := "a951f150f56bc46bc391d8ec986414d341acb28f882684c8a5a1ac3359bca8af", func := "userplane/userplanelaw01.BitstrConcat", spec := "bitstrConcat", unfollowed := true, recurses := true, apart := false }
def BitstrConcatSaid : Prop := bitstrConcatRow.holds Try.pinned (OpenSpec.ofChange bitstrConcatSpec)

/-- ITS FALSE NEIGHBOUR: 'it returns false'. Refute it at one input. -/
def bitstrConcatWrong : ChangeSpec := { name := "bitstrConcat", fn := fun _ => fun
  | [d] => { results := [.lit (.bool false)], args := [d] }
  | _ => none }
def BitstrConcatWrongFalsely : Prop := bitstrConcatRow.holds Try.pinned (OpenSpec.ofChange bitstrConcatWrong)

/-- 'userplanelaw01.BitstrRuns': WHATEVER THE INPUT: true; the input reads as it did. -/
def bitstrRunsSpec : ChangeSpec := { name := "bitstrRuns", fn := fun _ => fun
  | [d1, d2] => { results := [.lit (.bool true)], args := [d1, d2] }
  | _ => none }
def bitstrRunsRow : OpenClaim := { program := "ytflmbghbgmkdeaa", sum := "a951f150f56bc46bc391d8ec986414d341acb28f882684c8a5a1ac3359bca8af", func := "userplane/userplanelaw01.BitstrRuns", spec := "bitstrRuns", unfollowed := true, recurses := true, apart := false }
def BitstrRunsSaid : Prop := bitstrRunsRow.holds Try.pinned (OpenSpec.ofChange bitstrRunsSpec)

/-- ITS FALSE NEIGHBOUR: 'it returns false'. Refute it at one input. -/
def bitstrRunsWrong : ChangeSpec := { name := "bitstrRuns", fn := fun _ => fun
  | [d1, d2] => { results := [.lit (.bool false)], args := [d1, d2] }
  | _ => none }
def BitstrRunsWrongFalsely : Prop := bitstrRunsRow.holds Try.pinned (OpenSpec.ofChange bitstrRunsWrong)

/- THE SECOND FORM. 'bulk': how many values and letters a reading holds, each counted each time it is reached (what is shared counts as often as it is met; a slice's spare places count too). A statement '..UptoSaid' is the law's where the arguments, and the package variables that the reading takes, are together of bulk at most 1048576: NARROWER than '..Said'. Prove '..Said' where nothing that the law and all that it calls make is longer than what came in: it says more and counts as full. Else prove '..UptoSaid'. A law counts once. -/
mutual
def uptoBulk {H : Type} : DataW H → Nat
  | .lit (.string bytes) => bytes.length + 1
  | .lit _ => 1
  | .nil => 1
  | .ptr d => uptoBulk d + 1
  | .slice elems spare => uptoBulkAll elems + uptoBulkAll spare + 1
  | .agg parts => uptoBulkAll parts + 1
  | .iface _ d => uptoBulk d + 1
  | .map entries => uptoBulkEntries entries + 1
  | .held _ => 1
def uptoBulkAll {H : Type} : List (DataW H) → Nat
  | [] => 0
  | d :: r => uptoBulk d + uptoBulkAll r
def uptoBulkEntries {H : Type} : List (Lit × DataW H) → Nat
  | [] => 0
  | x :: r => uptoBulkEntry x + uptoBulkEntries r
def uptoBulkEntry {H : Type} : Lit × DataW H → Nat
  | (.string bytes, d) => bytes.length + uptoBulk d + 1
  | (_, d) => uptoBulk d + 1
 end
def uptoSmall : (H : Type) → List (DataW H) → Bool := fun _ ds => decide (uptoBulkAll ds ≤ 1048576)
def OpenSpec.upto (s : _root_.Go.ChangeSpec) : _root_.Go.OpenSpec := { _root_.Go.OpenSpec.ofChange s with cond := some uptoSmall }

/-- 'userplanelaw01.BitstrUints', WHERE WHAT IT READS IS OF BULK AT MOST 1048576: true; the input reads as it did. -/
def bitstrUintsUptoRow : OpenClaim := { program := "ytflmbghbgmkdeaa", sum := "a951f150f56bc46bc391d8ec986414d341acb28f882684c8a5a1ac3359bca8af", func := "userplane/userplanelaw01.BitstrUints", spec := "bitstrUints", unfollowed := true, recurses := true, apart := false, narrowed := true }
def BitstrUintsUptoSaid : Prop := bitstrUintsUptoRow.holds Try.pinned (OpenSpec.upto bitstrUintsSpec)

/-- 'userplanelaw01.BitstrXor', WHERE WHAT IT READS IS OF BULK AT MOST 1048576: true; the input reads as it did. -/
def bitstrXorUptoRow : OpenClaim := { program := "ytflmbghbgmkdeaa", sum := "a951f150f56bc46bc391d8ec986414d341acb28f882684c8a5a1ac3359bca8af", func := "userplane/userplanelaw01.BitstrXor", spec := "bitstrXor", unfollowed := true, recurses := true, apart := false, narrowed := true }
def BitstrXorUptoSaid : Prop := bitstrXorUptoRow.holds Try.pinned (OpenSpec.upto bitstrXorSpec)

/-- 'userplanelaw01.BitstrMetric', WHERE WHAT IT READS IS OF BULK AT MOST 1048576: true; the input reads as it did. -/
def bitstrMetricUptoRow : OpenClaim := { program := "ytflmbghbgmkdeaa", sum := "a951f150f56bc46bc391d8ec986414d341acb28f882684c8a5a1ac3359bca8af", func := "userplane/userplanelaw01.BitstrMetric", spec := "bitstrMetric", unfollowed := true, recurses := true, apart := false, narrowed := true }
def BitstrMetricUptoSaid : Prop := bitstrMetricUptoRow.holds Try.pinned (OpenSpec.upto bitstrMetricSpec)

/-- 'userplanelaw01.BitstrHolds', WHERE WHAT IT READS IS OF BULK AT MOST 1048576: true; the input reads as it did. -/
def bitstrHoldsUptoRow : OpenClaim := { program := "ytflmbghbgmkdeaa", sum := "a951f150f56bc46bc391d8ec986414d341acb28f882684c8a5a1ac3359bca8af", func := "userplane/userplanelaw01.BitstrHolds", spec := "bitstrHolds", unfollowed := true, recurses := true, apart := false, narrowed := true }
def BitstrHoldsUptoSaid : Prop := bitstrHoldsUptoRow.holds Try.pinned (OpenSpec.upto bitstrHoldsSpec)

/-- 'userplanelaw01.BitstrPack', WHERE WHAT IT READS IS OF BULK AT MOST 1048576: true; the input reads as it did. -/
def bitstrPackUptoRow : OpenClaim := { program := "ytflmbghbgmkdeaa", sum := "a951f150f56bc46bc391d8ec986414d341acb28f882684c8a5a1ac3359bca8af", func := "userplane/userplanelaw01.BitstrPack", spec := "bitstrPack", unfollowed := true, recurses := true, apart := false, narrowed := true }
def BitstrPackUptoSaid : Prop := bitstrPackUptoRow.holds Try.pinned (OpenSpec.upto bitstrPackSpec)

/-- 'userplanelaw01.BitstrConcat', WHERE WHAT IT READS IS OF BULK AT MOST 1048576: true; the input reads as it did. -/
def bitstrConcatUptoRow : OpenClaim := { program := "ytflmbghbgmkdeaa", sum := "a951f150f56bc46bc391d8ec986414d341acb28f882684c8a5a1ac3359bca8af", func := "userplane/userplanelaw01.BitstrConcat", spec := "bitstrConcat", unfollowed := true, recurses := true, apart := false, narrowed := true }
def BitstrConcatUptoSaid : Prop := bitstrConcatUptoRow.holds Try.pinned (OpenSpec.upto bitstrConcatSpec)

/-- 'userplanelaw01.BitstrRuns', WHERE WHAT IT READS IS OF BULK AT MOST 1048576: true; the input reads as it did. -/
def bitstrRunsUptoRow : OpenClaim := { program := "ytflmbghbgmkdeaa", sum := "a951f150f56bc46bc391d8ec986414d341acb28f882684c8a5a1ac3359bca8af", func := "userplane/userplanelaw01.BitstrRuns", spec := "bitstrRuns", unfollowed := true, recurses := true, apart := false, narrowed := true }
def BitstrRunsUptoSaid : Prop := bitstrRunsUptoRow.holds Try.pinned (OpenSpec.upto bitstrRunsSpec)

end Rows
end Go.Proofs.Ytflmbghbgmkdeaa
