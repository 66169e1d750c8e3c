/-
  No cell of these rows narrows 'for every input' (looked for: loops, veiled, ifaces, maps, wideKeys, modest, calm, conditions, laid).
  DERIVED. THE GIVEN ROWS OF THIS SEAT. 13 by the template 'for every input the law returns true; each argument reads behind the call as it read before'; 0 by the template 'total and deterministic' (their statements: YtdnpbemkobhlcaaTotals.lean).
  GIVEN WITH THE SEED: the statements are not yours to turn. If you find one false, say at which input.
  Laid BY PROGRAM, IN A SANDBOX (cutbox-rows.mjs): the forced cells as the released guide's own fill.sh prints them over the translation b916992a982ad8de… (all of the seat's roots in one cut). By AI agents, Wed Nov 11 2026. No macro, syntax, notation, axiom, sorry.
-/
import Derived.Test.YtdnpbemkobhlcaaChecked
import GoSem.Claim
import GoSem.ClaimJoined
import GoSem.ClaimMapViews
import Derived.JoinedTies
import Derived.KernelRfl
namespace Go.Proofs.Ytdnpbemkobhlcaa
/- THE CELL 'sum', in the pinned program and in every row, IS THE sha256 OF THE DUMP (.gsa) THAT YtdnpbemkobhlcaaProg.lean LOADS. Nothing in Lean hashes anything: it is a label: what it is worth is what the hold of that sum in a sandbox is worth. -/
noncomputable def Try.pinned : Pinned := { name := "ytdnpbemkobhlcaa", sum := "b916992a982ad8de23e279e45840fa61a67f63cf432e2aff4be0336e3f607ab5", checked := Try.checked }
namespace Rows
def none {H : Type} : Left H := { results := [], args := [] }

/-- 'userplanelaw49.FairCopies': WHATEVER THE INPUT: true; the input reads as it did. -/
def fairCopiesSpec : ChangeSpec := { name := "fairCopies", fn := fun _ => fun
  | [d1, d2, d3] => { results := [.lit (.bool true)], args := [d1, d2, d3] }
  | _ => none }
def fairCopiesRow : OpenClaim := { program := "ytdnpbemkobhlcaa", sum := "b916992a982ad8de23e279e45840fa61a67f63cf432e2aff4be0336e3f607ab5", func := "userplane/userplanelaw49.FairCopies", spec := "fairCopies", unfollowed := true, recurses := true, apart := false }
def FairCopiesSaid : Prop := fairCopiesRow.holds Try.pinned (OpenSpec.ofChange fairCopiesSpec)

/-- ITS FALSE NEIGHBOUR: 'it returns false'. Refute it at one input. -/
def fairCopiesWrong : ChangeSpec := { name := "fairCopies", fn := fun _ => fun
  | [d1, d2, d3] => { results := [.lit (.bool false)], args := [d1, d2, d3] }
  | _ => none }
def FairCopiesWrongFalsely : Prop := fairCopiesRow.holds Try.pinned (OpenSpec.ofChange fairCopiesWrong)

/-- 'userplanelaw49.FairNil': WHATEVER THE INPUT: true; the input reads as it did. -/
def fairNilSpec : ChangeSpec := { name := "fairNil", fn := fun _ => fun
  | [d1, d2, d3] => { results := [.lit (.bool true)], args := [d1, d2, d3] }
  | _ => none }
def fairNilRow : OpenClaim := { program := "ytdnpbemkobhlcaa", sum := "b916992a982ad8de23e279e45840fa61a67f63cf432e2aff4be0336e3f607ab5", func := "userplane/userplanelaw49.FairNil", spec := "fairNil", unfollowed := true, recurses := true, apart := false }
def FairNilSaid : Prop := fairNilRow.holds Try.pinned (OpenSpec.ofChange fairNilSpec)

/-- ITS FALSE NEIGHBOUR: 'it returns false'. Refute it at one input. -/
def fairNilWrong : ChangeSpec := { name := "fairNil", fn := fun _ => fun
  | [d1, d2, d3] => { results := [.lit (.bool false)], args := [d1, d2, d3] }
  | _ => none }
def FairNilWrongFalsely : Prop := fairNilRow.holds Try.pinned (OpenSpec.ofChange fairNilWrong)

/-- 'userplanelaw48.RatioProducts': WHATEVER THE INPUT: true; the input reads as it did. -/
def ratioProductsSpec : ChangeSpec := { name := "ratioProducts", fn := fun _ => fun
  | [d1, d2] => { results := [.lit (.bool true)], args := [d1, d2] }
  | _ => none }
def ratioProductsRow : OpenClaim := { program := "ytdnpbemkobhlcaa", sum := "b916992a982ad8de23e279e45840fa61a67f63cf432e2aff4be0336e3f607ab5", func := "userplane/userplanelaw48.RatioProducts", spec := "ratioProducts", unfollowed := true, recurses := true, apart := false }
def RatioProductsSaid : Prop := ratioProductsRow.holds Try.pinned (OpenSpec.ofChange ratioProductsSpec)

/-- ITS FALSE NEIGHBOUR: 'it returns false'. Refute it at one input. -/
def ratioProductsWrong : ChangeSpec := { name := "ratioProducts", fn := fun _ => fun
  | [d1, d2] => { results := [.lit (.bool false)], args := [d1, d2] }
  | _ => none }
def RatioProductsWrongFalsely : Prop := ratioProductsRow.holds Try.pinned (OpenSpec.ofChange ratioProductsWrong)

/-- 'userplanelaw48.RatioCompares': WHATEVER THE INPUT: true; the input reads as it did. -/
def ratioComparesSpec : ChangeSpec := { name := "ratioCompares", fn := fun _ => fun
  | [d1, d2] => { results := [.lit (.bool true)], args := [d1, d2] }
  | _ => none }
def ratioComparesRow : OpenClaim := { program := "ytdnpbemkobhlcaa", sum := "b916992a982ad8de23e279e45840fa61a67f63cf432e2aff4be0336e3f607ab5", func := "userplane/userplanelaw48.RatioCompares", spec := "ratioCompares", unfollowed := true, recurses := true, apart := false }
def RatioComparesSaid : Prop := ratioComparesRow.holds Try.pinned (OpenSpec.ofChange ratioComparesSpec)

/-- ITS FALSE NEIGHBOUR: 'it returns false'. Refute it at one input. -/
def ratioComparesWrong : ChangeSpec := { name := "ratioCompares", fn := fun _ => fun
  | [d1, d2] => { results := [.lit (.bool false)], args := [d1, d2] }
  | _ => none }
def RatioComparesWrongFalsely : Prop := ratioComparesRow.holds Try.pinned (OpenSpec.ofChange ratioComparesWrong)

/-- 'userplanelaw48.RatioPreorder': WHATEVER THE INPUT: true; the input reads as it did. -/
def ratioPreorderSpec : ChangeSpec := { name := "ratioPreorder", fn := fun _ => fun
  | [d1, d2, d3] => { results := [.lit (.bool true)], args := [d1, d2, d3] }
  | _ => none }
def ratioPreorderRow : OpenClaim := { program := "ytdnpbemkobhlcaa", sum := "b916992a982ad8de23e279e45840fa61a67f63cf432e2aff4be0336e3f607ab5", func := "userplane/userplanelaw48.RatioPreorder", spec := "ratioPreorder", unfollowed := true, recurses := true, apart := false }
def RatioPreorderSaid : Prop := ratioPreorderRow.holds Try.pinned (OpenSpec.ofChange ratioPreorderSpec)

/-- ITS FALSE NEIGHBOUR: 'it returns false'. Refute it at one input. -/
def ratioPreorderWrong : ChangeSpec := { name := "ratioPreorder", fn := fun _ => fun
  | [d1, d2, d3] => { results := [.lit (.bool false)], args := [d1, d2, d3] }
  | _ => none }
def RatioPreorderWrongFalsely : Prop := ratioPreorderRow.holds Try.pinned (OpenSpec.ofChange ratioPreorderWrong)

/-- 'userplanelaw48.RatioBests': WHATEVER THE INPUT: true; the input reads as it did. -/
def ratioBestsSpec : ChangeSpec := { name := "ratioBests", fn := fun _ => fun
  | [d] => { results := [.lit (.bool true)], args := [d] }
  | _ => none }
def ratioBestsRow : OpenClaim := { program := "ytdnpbemkobhlcaa", sum := "b916992a982ad8de23e279e45840fa61a67f63cf432e2aff4be0336e3f607ab5", func := "userplane/userplanelaw48.RatioBests", spec := "ratioBests", unfollowed := true, recurses := true, apart := false }
def RatioBestsSaid : Prop := ratioBestsRow.holds Try.pinned (OpenSpec.ofChange ratioBestsSpec)

/-- ITS FALSE NEIGHBOUR: 'it returns false'. Refute it at one input. -/
def ratioBestsWrong : ChangeSpec := { name := "ratioBests", fn := fun _ => fun
  | [d] => { results := [.lit (.bool false)], args := [d] }
  | _ => none }
def RatioBestsWrongFalsely : Prop := ratioBestsRow.holds Try.pinned (OpenSpec.ofChange ratioBestsWrong)

/-- 'userplanelaw48.RatioOrders': WHATEVER THE INPUT: true; the input reads as it did. -/
def ratioOrdersSpec : ChangeSpec := { name := "ratioOrders", fn := fun _ => fun
  | [d] => { results := [.lit (.bool true)], args := [d] }
  | _ => none }
def ratioOrdersRow : OpenClaim := { program := "ytdnpbemkobhlcaa", sum := "b916992a982ad8de23e279e45840fa61a67f63cf432e2aff4be0336e3f607ab5", func := "userplane/userplanelaw48.RatioOrders", spec := "ratioOrders", unfollowed := true, recurses := true, apart := false }
def RatioOrdersSaid : Prop := ratioOrdersRow.holds Try.pinned (OpenSpec.ofChange ratioOrdersSpec)

/-- ITS FALSE NEIGHBOUR: 'it returns false'. Refute it at one input. -/
def ratioOrdersWrong : ChangeSpec := { name := "ratioOrders", fn := fun _ => fun
  | [d] => { results := [.lit (.bool false)], args := [d] }
  | _ => none }
def RatioOrdersWrongFalsely : Prop := ratioOrdersRow.holds Try.pinned (OpenSpec.ofChange ratioOrdersWrong)

/-- 'userplanelaw48.RatioReduces': WHATEVER THE INPUT: true; the input reads as it did. -/
def ratioReducesSpec : ChangeSpec := { name := "ratioReduces", fn := fun _ => fun
  | [d1, d2, d3] => { results := [.lit (.bool true)], args := [d1, d2, d3] }
  | _ => none }
def ratioReducesRow : OpenClaim := { program := "ytdnpbemkobhlcaa", sum := "b916992a982ad8de23e279e45840fa61a67f63cf432e2aff4be0336e3f607ab5", func := "userplane/userplanelaw48.RatioReduces", spec := "ratioReduces", unfollowed := true, recurses := true, apart := false }
def RatioReducesSaid : Prop := ratioReducesRow.holds Try.pinned (OpenSpec.ofChange ratioReducesSpec)

/-- ITS FALSE NEIGHBOUR: 'it returns false'. Refute it at one input. -/
def ratioReducesWrong : ChangeSpec := { name := "ratioReduces", fn := fun _ => fun
  | [d1, d2, d3] => { results := [.lit (.bool false)], args := [d1, d2, d3] }
  | _ => none }
def RatioReducesWrongFalsely : Prop := ratioReducesRow.holds Try.pinned (OpenSpec.ofChange ratioReducesWrong)

/-- 'userplanelaw48.RatioTerms': WHATEVER THE INPUT: true; the input reads as it did. -/
def ratioTermsSpec : ChangeSpec := { name := "ratioTerms", fn := fun _ => fun
  | [d1, d2] => { results := [.lit (.bool true)], args := [d1, d2] }
  | _ => none }
def ratioTermsRow : OpenClaim := { program := "ytdnpbemkobhlcaa", sum := "b916992a982ad8de23e279e45840fa61a67f63cf432e2aff4be0336e3f607ab5", func := "userplane/userplanelaw48.RatioTerms", spec := "ratioTerms", unfollowed := true, recurses := true, apart := false }
def RatioTermsSaid : Prop := ratioTermsRow.holds Try.pinned (OpenSpec.ofChange ratioTermsSpec)

/-- ITS FALSE NEIGHBOUR: 'it returns false'. Refute it at one input. -/
def ratioTermsWrong : ChangeSpec := { name := "ratioTerms", fn := fun _ => fun
  | [d1, d2] => { results := [.lit (.bool false)], args := [d1, d2] }
  | _ => none }
def RatioTermsWrongFalsely : Prop := ratioTermsRow.holds Try.pinned (OpenSpec.ofChange ratioTermsWrong)

/-- 'userplanelaw49.FairShares': WHATEVER THE INPUT: true; the input reads as it did. -/
def fairSharesSpec : ChangeSpec := { name := "fairShares", fn := fun _ => fun
  | [d1, d2] => { results := [.lit (.bool true)], args := [d1, d2] }
  | _ => none }
def fairSharesRow : OpenClaim := { program := "ytdnpbemkobhlcaa", sum := "b916992a982ad8de23e279e45840fa61a67f63cf432e2aff4be0336e3f607ab5", func := "userplane/userplanelaw49.FairShares", spec := "fairShares", unfollowed := true, recurses := true, apart := false }
def FairSharesSaid : Prop := fairSharesRow.holds Try.pinned (OpenSpec.ofChange fairSharesSpec)

/-- ITS FALSE NEIGHBOUR: 'it returns false'. Refute it at one input. -/
def fairSharesWrong : ChangeSpec := { name := "fairShares", fn := fun _ => fun
  | [d1, d2] => { results := [.lit (.bool false)], args := [d1, d2] }
  | _ => none }
def FairSharesWrongFalsely : Prop := fairSharesRow.holds Try.pinned (OpenSpec.ofChange fairSharesWrong)

/-- 'userplanelaw49.FairRuns': WHATEVER THE INPUT: true; the input reads as it did. -/
def fairRunsSpec : ChangeSpec := { name := "fairRuns", fn := fun _ => fun
  | [d1, d2] => { results := [.lit (.bool true)], args := [d1, d2] }
  | _ => none }
def fairRunsRow : OpenClaim := { program := "ytdnpbemkobhlcaa", sum := "b916992a982ad8de23e279e45840fa61a67f63cf432e2aff4be0336e3f607ab5", func := "userplane/userplanelaw49.FairRuns", spec := "fairRuns", unfollowed := true, recurses := true, apart := false }
def FairRunsSaid : Prop := fairRunsRow.holds Try.pinned (OpenSpec.ofChange fairRunsSpec)

/-- ITS FALSE NEIGHBOUR: 'it returns false'. Refute it at one input. -/
def fairRunsWrong : ChangeSpec := { name := "fairRuns", fn := fun _ => fun
  | [d1, d2] => { results := [.lit (.bool false)], args := [d1, d2] }
  | _ => none }
def FairRunsWrongFalsely : Prop := fairRunsRow.holds Try.pinned (OpenSpec.ofChange fairRunsWrong)

/-- 'userplanelaw49.FairFirst': WHATEVER THE INPUT: true; the input reads as it did. -/
def fairFirstSpec : ChangeSpec := { name := "fairFirst", fn := fun _ => fun
  | [d1, d2] => { results := [.lit (.bool true)], args := [d1, d2] }
  | _ => none }
def fairFirstRow : OpenClaim := { program := "ytdnpbemkobhlcaa", sum := "b916992a982ad8de23e279e45840fa61a67f63cf432e2aff4be0336e3f607ab5", func := "userplane/userplanelaw49.FairFirst", spec := "fairFirst", unfollowed := true, recurses := true, apart := false }
def FairFirstSaid : Prop := fairFirstRow.holds Try.pinned (OpenSpec.ofChange fairFirstSpec)

/-- ITS FALSE NEIGHBOUR: 'it returns false'. Refute it at one input. -/
def fairFirstWrong : ChangeSpec := { name := "fairFirst", fn := fun _ => fun
  | [d1, d2] => { results := [.lit (.bool false)], args := [d1, d2] }
  | _ => none }
def FairFirstWrongFalsely : Prop := fairFirstRow.holds Try.pinned (OpenSpec.ofChange fairFirstWrong)

/-- 'userplanelaw49.FairGrows': WHATEVER THE INPUT: true; the input reads as it did. -/
def fairGrowsSpec : ChangeSpec := { name := "fairGrows", fn := fun _ => fun
  | [d1, d2] => { results := [.lit (.bool true)], args := [d1, d2] }
  | _ => none }
def fairGrowsRow : OpenClaim := { program := "ytdnpbemkobhlcaa", sum := "b916992a982ad8de23e279e45840fa61a67f63cf432e2aff4be0336e3f607ab5", func := "userplane/userplanelaw49.FairGrows", spec := "fairGrows", unfollowed := true, recurses := true, apart := false }
def FairGrowsSaid : Prop := fairGrowsRow.holds Try.pinned (OpenSpec.ofChange fairGrowsSpec)

/-- ITS FALSE NEIGHBOUR: 'it returns false'. Refute it at one input. -/
def fairGrowsWrong : ChangeSpec := { name := "fairGrows", fn := fun _ => fun
  | [d1, d2] => { results := [.lit (.bool false)], args := [d1, d2] }
  | _ => none }
def FairGrowsWrongFalsely : Prop := fairGrowsRow.holds Try.pinned (OpenSpec.ofChange fairGrowsWrong)

/- THE SECOND FORM. 'bulk': how many values and letters a reading holds, each counted each time it is reached (what is shared counts as often as it is met; a slice's spare places count too). A statement '..UptoSaid' is the law's where the arguments, and the package variables that the reading takes, are together of bulk at most 1048576: NARROWER than '..Said'. Prove '..Said' where nothing that the law and all that it calls make is longer than what came in: it says more and counts as full. Else prove '..UptoSaid'. A law counts once. -/
mutual
def uptoBulk {H : Type} : DataW H → Nat
  | .lit (.string bytes) => bytes.length + 1
  | .lit _ => 1
  | .nil => 1
  | .ptr d => uptoBulk d + 1
  | .slice elems spare => uptoBulkAll elems + uptoBulkAll spare + 1
  | .agg parts => uptoBulkAll parts + 1
  | .iface _ d => uptoBulk d + 1
  | .map entries => uptoBulkEntries entries + 1
  | .held _ => 1
def uptoBulkAll {H : Type} : List (DataW H) → Nat
  | [] => 0
  | d :: r => uptoBulk d + uptoBulkAll r
def uptoBulkEntries {H : Type} : List (Lit × DataW H) → Nat
  | [] => 0
  | x :: r => uptoBulkEntry x + uptoBulkEntries r
def uptoBulkEntry {H : Type} : Lit × DataW H → Nat
  | (.string bytes, d) => bytes.length + uptoBulk d + 1
  | (_, d) => uptoBulk d + 1
 end
def uptoSmall : (H : Type) → List (DataW H) → Bool := fun _ ds => decide (uptoBulkAll ds ≤ 1048576)
def OpenSpec.upto (s : _root_.Go.ChangeSpec) : _root_.Go.OpenSpec := { _root_.Go.OpenSpec.ofChange s with cond := some uptoSmall }

/-- 'userplanelaw49.FairCopies', WHERE WHAT IT READS IS OF BULK AT MOST 1048576: true; the input reads as it did. -/
def fairCopiesUptoRow : OpenClaim := { program := "ytdnpbemkobhlcaa", sum := "b916992a982ad8de23e279e45840fa61a67f63cf432e2aff4be0336e3f607ab5", func := "userplane/userplanelaw49.FairCopies", spec := "fairCopies", unfollowed := true, recurses := true, apart := false, narrowed := true }
def FairCopiesUptoSaid : Prop := fairCopiesUptoRow.holds Try.pinned (OpenSpec.upto fairCopiesSpec)

/-- 'userplanelaw49.FairNil', WHERE WHAT IT READS IS OF BULK AT MOST 1048576: true; the input reads as it did. -/
def fairNilUptoRow : OpenClaim := { program := "ytdnpbemkobhlcaa", sum := "b916992a982ad8de23e279e45840fa61a67f63cf432e2aff4be0336e3f607ab5", func := "userplane/userplanelaw49.FairNil", spec := "fairNil", unfollowed := true, recurses := true, apart := false, narrowed := true }
def FairNilUptoSaid : Prop := fairNilUptoRow.holds Try.pinned (OpenSpec.upto fairNilSpec)

/-- 'userplanelaw48.RatioProducts', WHERE WHAT IT READS IS OF BULK AT MOST 1048576: true; the input reads as it did. -/
def ratioProductsUptoRow : OpenClaim := { program := "ytdnpbemkobhlcaa", sum := "b916992a982ad8de23e279e45840fa61a67f63cf432e2aff4be0336e3f607ab5", func := "userplane/userplanelaw48.RatioProducts", spec := "ratioProducts", unfollowed := true, recurses := true, apart := false, narrowed := true }
def RatioProductsUptoSaid : Prop := ratioProductsUptoRow.holds Try.pinned (OpenSpec.upto ratioProductsSpec)

/-- 'userplanelaw48.RatioCompares', WHERE WHAT IT READS IS OF BULK AT MOST 1048576: true; the input reads as it did. -/
def ratioComparesUptoRow : OpenClaim := { program := "ytdnpbemkobhlcaa", sum := "b916992a982ad8de23e279e45840fa61a67f63cf432e2aff4be0336e3f607ab5", func := "userplane/userplanelaw48.RatioCompares", spec := "ratioCompares", unfollowed := true, recurses := true, apart := false, narrowed := true }
def RatioComparesUptoSaid : Prop := ratioComparesUptoRow.holds Try.pinned (OpenSpec.upto ratioComparesSpec)

/-- 'userplanelaw48.RatioPreorder', WHERE WHAT IT READS IS OF BULK AT MOST 1048576: true; the input reads as it did. -/
def ratioPreorderUptoRow : OpenClaim := { program := "ytdnpbemkobhlcaa", sum := "b916992a982ad8de23e279e45840fa61a67f63cf432e2aff4be0336e3f607ab5", func := "userplane/userplanelaw48.RatioPreorder", spec := "ratioPreorder", unfollowed := true, recurses := true, apart := false, narrowed := true }
def RatioPreorderUptoSaid : Prop := ratioPreorderUptoRow.holds Try.pinned (OpenSpec.upto ratioPreorderSpec)

/-- 'userplanelaw48.RatioBests', WHERE WHAT IT READS IS OF BULK AT MOST 1048576: true; the input reads as it did. -/
def ratioBestsUptoRow : OpenClaim := { program := "ytdnpbemkobhlcaa", sum := "b916992a982ad8de23e279e45840fa61a67f63cf432e2aff4be0336e3f607ab5", func := "userplane/userplanelaw48.RatioBests", spec := "ratioBests", unfollowed := true, recurses := true, apart := false, narrowed := true }
def RatioBestsUptoSaid : Prop := ratioBestsUptoRow.holds Try.pinned (OpenSpec.upto ratioBestsSpec)

/-- 'userplanelaw48.RatioOrders', WHERE WHAT IT READS IS OF BULK AT MOST 1048576: true; the input reads as it did. -/
def ratioOrdersUptoRow : OpenClaim := { program := "ytdnpbemkobhlcaa", sum := "b916992a982ad8de23e279e45840fa61a67f63cf432e2aff4be0336e3f607ab5", func := "userplane/userplanelaw48.RatioOrders", spec := "ratioOrders", unfollowed := true, recurses := true, apart := false, narrowed := true }
def RatioOrdersUptoSaid : Prop := ratioOrdersUptoRow.holds Try.pinned (OpenSpec.upto ratioOrdersSpec)

/-- 'userplanelaw48.RatioReduces', WHERE WHAT IT READS IS OF BULK AT MOST 1048576: true; the input reads as it did. -/
def ratioReducesUptoRow : OpenClaim := { program := "ytdnpbemkobhlcaa", sum := "b916992a982ad8de23e279e45840fa61a67f63cf432e2aff4be0336e3f607ab5", func := "userplane/userplanelaw48.RatioReduces", spec := "ratioReduces", unfollowed := true, recurses := true, apart := false, narrowed := true }
def RatioReducesUptoSaid : Prop := ratioReducesUptoRow.holds Try.pinned (OpenSpec.upto ratioReducesSpec)

/-- 'userplanelaw48.RatioTerms', WHERE WHAT IT READS IS OF BULK AT MOST 1048576: true; the input reads as it did. -/
def ratioTermsUptoRow : OpenClaim := { program := "ytdnpbemkobhlcaa", sum := "b916992a982ad8de23e279e45840fa61a67f63cf432e2aff4be0336e3f607ab5", func := "userplane/userplanelaw48.RatioTerms", spec := "ratioTerms", unfollowed := true, recurses := true, apart := false, narrowed := true }
def RatioTermsUptoSaid : Prop := ratioTermsUptoRow.holds Try.pinned (OpenSpec.upto ratioTermsSpec)

/-- 'userplanelaw49.FairShares', WHERE WHAT IT READS IS OF BULK AT MOST 1048576: true; the input reads as it did. -/
def fairSharesUptoRow : OpenClaim := { program := "ytdnpbemkobhlcaa", sum := "b916992a982ad8de23e279e45840fa61a67f63cf432e2aff4be0336e3f607ab5", func := "userplane/userplanelaw49.FairShares", spec := "fairShares", unfollowed := true, recurses := true, apart := false, narrowed := true }
def FairSharesUptoSaid : Prop := fairSharesUptoRow.holds Try.pinned (OpenSpec.upto fairSharesSpec)

/-- 'userplanelaw49.FairRuns', WHERE WHAT IT READS IS OF BULK AT MOST 1048576: true; the input reads as it did. -/
def fairRunsUptoRow : OpenClaim := { program := "ytdnpbemkobhlcaa", sum := "b916992a982ad8de23e279e45840fa61a67f63cf432e2aff4be0336e3f607ab5", func := "userplane/userplanelaw49.FairRuns", spec := "fairRuns", unfollowed := true, recurses := true, apart := false, narrowed := true }
def FairRunsUptoSaid : Prop := fairRunsUptoRow.holds Try.pinned (OpenSpec.upto fairRunsSpec)

/-- 'userplanelaw49.FairFirst', WHERE WHAT IT READS IS OF BULK AT MOST 1048576: true; the input reads as it did. -/
def fairFirstUptoRow : OpenClaim := { program := "ytdnpbemkobhlcaa", sum := "b916992a982ad8de23e279e45840fa61a67f63cf432e2aff4be0336e3f607ab5", func := "userplane/userplanelaw49.FairFirst", spec := "fairFirst", unfollowed := true, recurses := true, apart := false, narrowed := true }
def FairFirstUptoSaid : Prop := fairFirstUptoRow.holds Try.pinned (OpenSpec.upto fairFirstSpec)

/-- 'userplanelaw49.FairGrows', WHERE WHAT IT READS IS OF BULK AT MOST 1048576: true; the input reads as it did. -/
def fairGrowsUptoRow : OpenClaim := { program := "ytdnpbemkobhlcaa", sum := "b916992a982ad8de23e279e45840fa61a67f63cf432e2aff4be0336e3f607ab5", func := "userplane/userplanelaw49.FairGrows", spec := "fairGrows", unfollowed := true, recurses := true, apart := false, narrowed := true }
def FairGrowsUptoSaid : Prop := fairGrowsUptoRow.holds Try.pinned (OpenSpec.upto fairGrowsSpec)

end Rows
end Go.Proofs.Ytdnpbemkobhlcaa
