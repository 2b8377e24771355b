/-
  No cell of these rows narrows 'for every input' (looked for: loops, veiled, ifaces, maps, wideKeys, modest, calm, conditions, laid).
  DERIVED. THE GIVEN ROWS OF THIS SEAT. 8 by the template 'for every input the law returns true; each argument reads behind the call as it read before'; 0 by the template 'total and deterministic' (their statements: YtmkfmefkbcfjnaaTotals.lean).
  GIVEN WITH THE SEED: the statements are not yours to turn. If you find one false, say at which input.
  Laid BY PROGRAM, IN A SANDBOX (cutbox-rows.mjs): the forced cells as the released guide's own fill.sh prints them over the translation a907b1a61ffb6631… (all of the seat's roots in one cut). By AI agents, Wed Nov 11 2026. No macro, syntax, notation, axiom, sorry.
-/
import Derived.Test.YtmkfmefkbcfjnaaChecked
import GoSem.Claim
import GoSem.ClaimJoined
import GoSem.ClaimMapViews
import Derived.JoinedTies
import Derived.KernelRfl
namespace Go.Proofs.Ytmkfmefkbcfjnaa
/- THE CELL 'sum', in the pinned program and in every row, IS THE sha256 OF THE DUMP (.gsa) THAT YtmkfmefkbcfjnaaProg.lean LOADS. Nothing in Lean hashes anything: it is a label: what it is worth is what the hold of that sum in a sandbox is worth. -/
noncomputable def Try.pinned : Pinned := { name := "ytmkfmefkbcfjnaa", sum := "a907b1a61ffb6631729a8d1e56f1f3f6145dbb665fa115580b65e13d9542f94d", checked := Try.checked }
namespace Rows
def none {H : Type} : Left H := { results := [], args := [] }

/-- 'laws.FnExactValidFilter': WHATEVER THE INPUT: true; the input reads as it did. -/
def fnExactValidFilterSpec : ChangeSpec := { name := "fnExactValidFilter", fn := fun _ => fun
  | [d] => { results := [.lit (.bool true)], args := [d] }
  | _ => none }
def fnExactValidFilterRow : OpenClaim := { program := "ytmkfmefkbcfjnaa", sum := "a907b1a61ffb6631729a8d1e56f1f3f6145dbb665fa115580b65e13d9542f94d", func := "loop.example/vectorstore/laws.FnExactValidFilter", spec := "fnExactValidFilter", apart := false }
def FnExactValidFilterSaid : Prop := fnExactValidFilterRow.holds Try.pinned (OpenSpec.ofChange fnExactValidFilterSpec)

/-- ITS FALSE NEIGHBOUR: 'it returns false'. Refute it at one input. -/
def fnExactValidFilterWrong : ChangeSpec := { name := "fnExactValidFilter", fn := fun _ => fun
  | [d] => { results := [.lit (.bool false)], args := [d] }
  | _ => none }
def FnExactValidFilterWrongFalsely : Prop := fnExactValidFilterRow.holds Try.pinned (OpenSpec.ofChange fnExactValidFilterWrong)

/-- 'laws.FnExactPasses': WHATEVER THE INPUT: true; the input reads as it did. -/
def fnExactPassesSpec : ChangeSpec := { name := "fnExactPasses", fn := fun _ => fun
  | [d1, d2] => { results := [.lit (.bool true)], args := [d1, d2] }
  | _ => none }
def fnExactPassesRow : OpenClaim := { program := "ytmkfmefkbcfjnaa", sum := "a907b1a61ffb6631729a8d1e56f1f3f6145dbb665fa115580b65e13d9542f94d", func := "loop.example/vectorstore/laws.FnExactPasses", spec := "fnExactPasses", apart := false }
def FnExactPassesSaid : Prop := fnExactPassesRow.holds Try.pinned (OpenSpec.ofChange fnExactPassesSpec)

/-- ITS FALSE NEIGHBOUR: 'it returns false'. Refute it at one input. -/
def fnExactPassesWrong : ChangeSpec := { name := "fnExactPasses", fn := fun _ => fun
  | [d1, d2] => { results := [.lit (.bool false)], args := [d1, d2] }
  | _ => none }
def FnExactPassesWrongFalsely : Prop := fnExactPassesRow.holds Try.pinned (OpenSpec.ofChange fnExactPassesWrong)

/-- 'laws.FnExactBothFilters': WHATEVER THE INPUT: true; the input reads as it did. -/
def fnExactBothFiltersSpec : ChangeSpec := { name := "fnExactBothFilters", fn := fun _ => fun
  | [d1, d2] => { results := [.lit (.bool true)], args := [d1, d2] }
  | _ => none }
def fnExactBothFiltersRow : OpenClaim := { program := "ytmkfmefkbcfjnaa", sum := "a907b1a61ffb6631729a8d1e56f1f3f6145dbb665fa115580b65e13d9542f94d", func := "loop.example/vectorstore/laws.FnExactBothFilters", spec := "fnExactBothFilters", apart := false }
def FnExactBothFiltersSaid : Prop := fnExactBothFiltersRow.holds Try.pinned (OpenSpec.ofChange fnExactBothFiltersSpec)

/-- ITS FALSE NEIGHBOUR: 'it returns false'. Refute it at one input. -/
def fnExactBothFiltersWrong : ChangeSpec := { name := "fnExactBothFilters", fn := fun _ => fun
  | [d1, d2] => { results := [.lit (.bool false)], args := [d1, d2] }
  | _ => none }
def FnExactBothFiltersWrongFalsely : Prop := fnExactBothFiltersRow.holds Try.pinned (OpenSpec.ofChange fnExactBothFiltersWrong)

/-- 'laws.FnValidFilter': WHATEVER THE INPUT: true; the input reads as it did. -/
def fnValidFilterSpec : ChangeSpec := { name := "fnValidFilter", fn := fun _ => fun
  | [d] => { results := [.lit (.bool true)], args := [d] }
  | _ => none }
def fnValidFilterRow : OpenClaim := { program := "ytmkfmefkbcfjnaa", sum := "a907b1a61ffb6631729a8d1e56f1f3f6145dbb665fa115580b65e13d9542f94d", func := "loop.example/vectorstore/laws.FnValidFilter", spec := "fnValidFilter", apart := false }
def FnValidFilterSaid : Prop := fnValidFilterRow.holds Try.pinned (OpenSpec.ofChange fnValidFilterSpec)

/-- ITS FALSE NEIGHBOUR: 'it returns false'. Refute it at one input. -/
def fnValidFilterWrong : ChangeSpec := { name := "fnValidFilter", fn := fun _ => fun
  | [d] => { results := [.lit (.bool false)], args := [d] }
  | _ => none }
def FnValidFilterWrongFalsely : Prop := fnValidFilterRow.holds Try.pinned (OpenSpec.ofChange fnValidFilterWrong)

/-- 'laws.FnBothFiltersOrder': WHATEVER THE INPUT: true; the input reads as it did. -/
def fnBothFiltersOrderSpec : ChangeSpec := { name := "fnBothFiltersOrder", fn := fun _ => fun
  | [d] => { results := [.lit (.bool true)], args := [d] }
  | _ => none }
def fnBothFiltersOrderRow : OpenClaim := { program := "ytmkfmefkbcfjnaa", sum := "a907b1a61ffb6631729a8d1e56f1f3f6145dbb665fa115580b65e13d9542f94d", func := "loop.example/vectorstore/laws.FnBothFiltersOrder", spec := "fnBothFiltersOrder", apart := false }
def FnBothFiltersOrderSaid : Prop := fnBothFiltersOrderRow.holds Try.pinned (OpenSpec.ofChange fnBothFiltersOrderSpec)

/-- ITS FALSE NEIGHBOUR: 'it returns false'. Refute it at one input. -/
def fnBothFiltersOrderWrong : ChangeSpec := { name := "fnBothFiltersOrder", fn := fun _ => fun
  | [d] => { results := [.lit (.bool false)], args := [d] }
  | _ => none }
def FnBothFiltersOrderWrongFalsely : Prop := fnBothFiltersOrderRow.holds Try.pinned (OpenSpec.ofChange fnBothFiltersOrderWrong)

/-- 'laws.FnPasses': WHATEVER THE INPUT: true; the input reads as it did. -/
def fnPassesSpec : ChangeSpec := { name := "fnPasses", fn := fun _ => fun
  | [d] => { results := [.lit (.bool true)], args := [d] }
  | _ => none }
def fnPassesRow : OpenClaim := { program := "ytmkfmefkbcfjnaa", sum := "a907b1a61ffb6631729a8d1e56f1f3f6145dbb665fa115580b65e13d9542f94d", func := "loop.example/vectorstore/laws.FnPasses", spec := "fnPasses", apart := false }
def FnPassesSaid : Prop := fnPassesRow.holds Try.pinned (OpenSpec.ofChange fnPassesSpec)

/-- ITS FALSE NEIGHBOUR: 'it returns false'. Refute it at one input. -/
def fnPassesWrong : ChangeSpec := { name := "fnPasses", fn := fun _ => fun
  | [d] => { results := [.lit (.bool false)], args := [d] }
  | _ => none }
def FnPassesWrongFalsely : Prop := fnPassesRow.holds Try.pinned (OpenSpec.ofChange fnPassesWrong)

/-- 'laws.FnPassesBits': WHATEVER THE INPUT: true; the input reads as it did. -/
def fnPassesBitsSpec : ChangeSpec := { name := "fnPassesBits", fn := fun _ => fun
  | [d] => { results := [.lit (.bool true)], args := [d] }
  | _ => none }
def fnPassesBitsRow : OpenClaim := { program := "ytmkfmefkbcfjnaa", sum := "a907b1a61ffb6631729a8d1e56f1f3f6145dbb665fa115580b65e13d9542f94d", func := "loop.example/vectorstore/laws.FnPassesBits", spec := "fnPassesBits", apart := false }
def FnPassesBitsSaid : Prop := fnPassesBitsRow.holds Try.pinned (OpenSpec.ofChange fnPassesBitsSpec)

/-- ITS FALSE NEIGHBOUR: 'it returns false'. Refute it at one input. -/
def fnPassesBitsWrong : ChangeSpec := { name := "fnPassesBits", fn := fun _ => fun
  | [d] => { results := [.lit (.bool false)], args := [d] }
  | _ => none }
def FnPassesBitsWrongFalsely : Prop := fnPassesBitsRow.holds Try.pinned (OpenSpec.ofChange fnPassesBitsWrong)

/-- 'laws.FnBothFilters': WHATEVER THE INPUT: true; the input reads as it did. -/
def fnBothFiltersSpec : ChangeSpec := { name := "fnBothFilters", fn := fun _ => fun
  | [d] => { results := [.lit (.bool true)], args := [d] }
  | _ => none }
def fnBothFiltersRow : OpenClaim := { program := "ytmkfmefkbcfjnaa", sum := "a907b1a61ffb6631729a8d1e56f1f3f6145dbb665fa115580b65e13d9542f94d", func := "loop.example/vectorstore/laws.FnBothFilters", spec := "fnBothFilters", apart := false }
def FnBothFiltersSaid : Prop := fnBothFiltersRow.holds Try.pinned (OpenSpec.ofChange fnBothFiltersSpec)

/-- ITS FALSE NEIGHBOUR: 'it returns false'. Refute it at one input. -/
def fnBothFiltersWrong : ChangeSpec := { name := "fnBothFilters", fn := fun _ => fun
  | [d] => { results := [.lit (.bool false)], args := [d] }
  | _ => none }
def FnBothFiltersWrongFalsely : Prop := fnBothFiltersRow.holds Try.pinned (OpenSpec.ofChange fnBothFiltersWrong)

/- THE SECOND FORM. 'bulk': how many values and letters a reading holds, each counted each time it is reached (what is shared counts as often as it is met; a slice's spare places count too). A statement '..UptoSaid' is the law's where the arguments, and the package variables that the reading takes, are together of bulk at most 1048576: NARROWER than '..Said'. Prove '..Said' where nothing that the law and all that it calls make is longer than what came in: it says more and counts as full. Else prove '..UptoSaid'. A law counts once. -/
mutual
def uptoBulk {H : Type} : DataW H → Nat
  | .lit (.string bytes) => bytes.length + 1
  | .lit _ => 1
  | .nil => 1
  | .ptr d => uptoBulk d + 1
  | .slice elems spare => uptoBulkAll elems + uptoBulkAll spare + 1
  | .agg parts => uptoBulkAll parts + 1
  | .iface _ d => uptoBulk d + 1
  | .map entries => uptoBulkEntries entries + 1
  | .held _ => 1
def uptoBulkAll {H : Type} : List (DataW H) → Nat
  | [] => 0
  | d :: r => uptoBulk d + uptoBulkAll r
def uptoBulkEntries {H : Type} : List (Lit × DataW H) → Nat
  | [] => 0
  | x :: r => uptoBulkEntry x + uptoBulkEntries r
def uptoBulkEntry {H : Type} : Lit × DataW H → Nat
  | (.string bytes, d) => bytes.length + uptoBulk d + 1
  | (_, d) => uptoBulk d + 1
 end
def uptoSmall : (H : Type) → List (DataW H) → Bool := fun _ ds => decide (uptoBulkAll ds ≤ 1048576)
def OpenSpec.upto (s : _root_.Go.ChangeSpec) : _root_.Go.OpenSpec := { _root_.Go.OpenSpec.ofChange s with cond := some uptoSmall }

/-- 'laws.FnExactValidFilter', WHERE WHAT IT READS IS OF BULK AT MOST 1048576: true; the input reads as it did. -/
def fnExactValidFilterUptoRow : OpenClaim := { program := "ytmkfmefkbcfjnaa", sum := "a907b1a61ffb6631729a8d1e56f1f3f6145dbb665fa115580b65e13d9542f94d", func := "loop.example/vectorstore/laws.FnExactValidFilter", spec := "fnExactValidFilter", apart := false, narrowed := true }
def FnExactValidFilterUptoSaid : Prop := fnExactValidFilterUptoRow.holds Try.pinned (OpenSpec.upto fnExactValidFilterSpec)

/-- 'laws.FnExactPasses', WHERE WHAT IT READS IS OF BULK AT MOST 1048576: true; the input reads as it did. -/
def fnExactPassesUptoRow : OpenClaim := { program := "ytmkfmefkbcfjnaa", sum := "a907b1a61ffb6631729a8d1e56f1f3f6145dbb665fa115580b65e13d9542f94d", func := "loop.example/vectorstore/laws.FnExactPasses", spec := "fnExactPasses", apart := false, narrowed := true }
def FnExactPassesUptoSaid : Prop := fnExactPassesUptoRow.holds Try.pinned (OpenSpec.upto fnExactPassesSpec)

/-- 'laws.FnExactBothFilters', WHERE WHAT IT READS IS OF BULK AT MOST 1048576: true; the input reads as it did. -/
def fnExactBothFiltersUptoRow : OpenClaim := { program := "ytmkfmefkbcfjnaa", sum := "a907b1a61ffb6631729a8d1e56f1f3f6145dbb665fa115580b65e13d9542f94d", func := "loop.example/vectorstore/laws.FnExactBothFilters", spec := "fnExactBothFilters", apart := false, narrowed := true }
def FnExactBothFiltersUptoSaid : Prop := fnExactBothFiltersUptoRow.holds Try.pinned (OpenSpec.upto fnExactBothFiltersSpec)

/-- 'laws.FnValidFilter', WHERE WHAT IT READS IS OF BULK AT MOST 1048576: true; the input reads as it did. -/
def fnValidFilterUptoRow : OpenClaim := { program := "ytmkfmefkbcfjnaa", sum := "a907b1a61ffb6631729a8d1e56f1f3f6145dbb665fa115580b65e13d9542f94d", func := "loop.example/vectorstore/laws.FnValidFilter", spec := "fnValidFilter", apart := false, narrowed := true }
def FnValidFilterUptoSaid : Prop := fnValidFilterUptoRow.holds Try.pinned (OpenSpec.upto fnValidFilterSpec)

/-- 'laws.FnBothFiltersOrder', WHERE WHAT IT READS IS OF BULK AT MOST 1048576: true; the input reads as it did. -/
def fnBothFiltersOrderUptoRow : OpenClaim := { program := "ytmkfmefkbcfjnaa", sum := "a907b1a61ffb6631729a8d1e56f1f3f6145dbb665fa115580b65e13d9542f94d", func := "loop.example/vectorstore/laws.FnBothFiltersOrder", spec := "fnBothFiltersOrder", apart := false, narrowed := true }
def FnBothFiltersOrderUptoSaid : Prop := fnBothFiltersOrderUptoRow.holds Try.pinned (OpenSpec.upto fnBothFiltersOrderSpec)

/-- 'laws.FnPasses', WHERE WHAT IT READS IS OF BULK AT MOST 1048576: true; the input reads as it did. -/
def fnPassesUptoRow : OpenClaim := { program := "ytmkfmefkbcfjnaa", sum := "a907b1a61ffb6631729a8d1e56f1f3f6145dbb665fa115580b65e13d9542f94d", func := "loop.example/vectorstore/laws.FnPasses", spec := "fnPasses", apart := false, narrowed := true }
def FnPassesUptoSaid : Prop := fnPassesUptoRow.holds Try.pinned (OpenSpec.upto fnPassesSpec)

/-- 'laws.FnPassesBits', WHERE WHAT IT READS IS OF BULK AT MOST 1048576: true; the input reads as it did. -/
def fnPassesBitsUptoRow : OpenClaim := { program := "ytmkfmefkbcfjnaa", sum := "a907b1a61ffb6631729a8d1e56f1f3f6145dbb665fa115580b65e13d9542f94d", func := "loop.example/vectorstore/laws.FnPassesBits", spec := "fnPassesBits", apart := false, narrowed := true }
def FnPassesBitsUptoSaid : Prop := fnPassesBitsUptoRow.holds Try.pinned (OpenSpec.upto fnPassesBitsSpec)

/-- 'laws.FnBothFilters', WHERE WHAT IT READS IS OF BULK AT MOST 1048576: true; the input reads as it did. -/
def fnBothFiltersUptoRow : OpenClaim := { program := "ytmkfmefkbcfjnaa", sum := "a907b1a61ffb6631729a8d1e56f1f3f6145dbb665fa115580b65e13d9542f94d", func := "loop.example/vectorstore/laws.FnBothFilters", spec := "fnBothFilters", apart := false, narrowed := true }
def FnBothFiltersUptoSaid : Prop := fnBothFiltersUptoRow.holds Try.pinned (OpenSpec.upto fnBothFiltersSpec)

end Rows
end Go.Proofs.Ytmkfmefkbcfjnaa
