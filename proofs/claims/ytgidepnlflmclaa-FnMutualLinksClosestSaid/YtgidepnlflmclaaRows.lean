/-
  No cell of these rows narrows 'for every input' (looked for: loops, veiled, ifaces, maps, wideKeys, modest, calm, conditions, laid).
  DERIVED. THE GIVEN ROWS OF THIS SEAT. 9 by the template 'for every input the law returns true; each argument reads behind the call as it read before'; 0 by the template 'total and deterministic' (their statements: YtgidepnlflmclaaTotals.lean).
  GIVEN WITH THE SEED: the statements are not yours to turn. If you find one false, say at which input.
  Laid BY PROGRAM, IN A SANDBOX (cutbox-rows.mjs): the forced cells as the released guide's own fill.sh prints them over the translation 79ad8d305ecdc632… (all of the seat's roots in one cut). By AI agents, Wed Nov 11 2026. No macro, syntax, notation, axiom, sorry.
-/
import Derived.Test.YtgidepnlflmclaaChecked
import GoSem.Claim
import GoSem.ClaimJoined
import GoSem.ClaimMapViews
import Derived.JoinedTies
import Derived.KernelRfl
namespace Go.Proofs.Ytgidepnlflmclaa
/- THE CELL 'sum', in the pinned program and in every row, IS THE sha256 OF THE DUMP (.gsa) THAT YtgidepnlflmclaaProg.lean LOADS. Nothing in Lean hashes anything: it is a label: what it is worth is what the hold of that sum in a sandbox is worth. -/
noncomputable def Try.pinned : Pinned := { name := "ytgidepnlflmclaa", sum := "79ad8d305ecdc6325d9b061e7d58d1a5045072f0f3ae7926b96730d519e8364e", checked := Try.checked }
namespace Rows
def none {H : Type} : Left H := { results := [], args := [] }

/-- 'laws.FnExactWalkTo': WHATEVER THE INPUT: true; the input reads as it did. -/
def fnExactWalkToSpec : ChangeSpec := { name := "fnExactWalkTo", fn := fun _ => fun
  | [d1, d2, d3, d4, d5] => { results := [.lit (.bool true)], args := [d1, d2, d3, d4, d5] }
  | _ => none }
def fnExactWalkToRow : OpenClaim := { program := "ytgidepnlflmclaa", sum := "79ad8d305ecdc6325d9b061e7d58d1a5045072f0f3ae7926b96730d519e8364e", func := "loop.example/vectorstore/laws.FnExactWalkTo", spec := "fnExactWalkTo", unfollowed := true, recurses := true, apart := false }
def FnExactWalkToSaid : Prop := fnExactWalkToRow.holds Try.pinned (OpenSpec.ofChange fnExactWalkToSpec)

/-- ITS FALSE NEIGHBOUR: 'it returns false'. Refute it at one input. -/
def fnExactWalkToWrong : ChangeSpec := { name := "fnExactWalkTo", fn := fun _ => fun
  | [d1, d2, d3, d4, d5] => { results := [.lit (.bool false)], args := [d1, d2, d3, d4, d5] }
  | _ => none }
def FnExactWalkToWrongFalsely : Prop := fnExactWalkToRow.holds Try.pinned (OpenSpec.ofChange fnExactWalkToWrong)

/-- 'laws.FnWalkToEnd': WHATEVER THE INPUT: true; the input reads as it did. -/
def fnWalkToEndSpec : ChangeSpec := { name := "fnWalkToEnd", fn := fun _ => fun
  | [d] => { results := [.lit (.bool true)], args := [d] }
  | _ => none }
def fnWalkToEndRow : OpenClaim := { program := "ytgidepnlflmclaa", sum := "79ad8d305ecdc6325d9b061e7d58d1a5045072f0f3ae7926b96730d519e8364e", func := "loop.example/vectorstore/laws.FnWalkToEnd", spec := "fnWalkToEnd", unfollowed := true, recurses := true, apart := false }
def FnWalkToEndSaid : Prop := fnWalkToEndRow.holds Try.pinned (OpenSpec.ofChange fnWalkToEndSpec)

/-- ITS FALSE NEIGHBOUR: 'it returns false'. Refute it at one input. -/
def fnWalkToEndWrong : ChangeSpec := { name := "fnWalkToEnd", fn := fun _ => fun
  | [d] => { results := [.lit (.bool false)], args := [d] }
  | _ => none }
def FnWalkToEndWrongFalsely : Prop := fnWalkToEndRow.holds Try.pinned (OpenSpec.ofChange fnWalkToEndWrong)

/-- 'laws.FnWalkToOnce': WHATEVER THE INPUT: true; the input reads as it did. -/
def fnWalkToOnceSpec : ChangeSpec := { name := "fnWalkToOnce", fn := fun _ => fun
  | [d] => { results := [.lit (.bool true)], args := [d] }
  | _ => none }
def fnWalkToOnceRow : OpenClaim := { program := "ytgidepnlflmclaa", sum := "79ad8d305ecdc6325d9b061e7d58d1a5045072f0f3ae7926b96730d519e8364e", func := "loop.example/vectorstore/laws.FnWalkToOnce", spec := "fnWalkToOnce", unfollowed := true, recurses := true, apart := false }
def FnWalkToOnceSaid : Prop := fnWalkToOnceRow.holds Try.pinned (OpenSpec.ofChange fnWalkToOnceSpec)

/-- ITS FALSE NEIGHBOUR: 'it returns false'. Refute it at one input. -/
def fnWalkToOnceWrong : ChangeSpec := { name := "fnWalkToOnce", fn := fun _ => fun
  | [d] => { results := [.lit (.bool false)], args := [d] }
  | _ => none }
def FnWalkToOnceWrongFalsely : Prop := fnWalkToOnceRow.holds Try.pinned (OpenSpec.ofChange fnWalkToOnceWrong)

/-- 'laws.FnWalkToNearest': WHATEVER THE INPUT: true; the input reads as it did. -/
def fnWalkToNearestSpec : ChangeSpec := { name := "fnWalkToNearest", fn := fun _ => fun
  | [d] => { results := [.lit (.bool true)], args := [d] }
  | _ => none }
def fnWalkToNearestRow : OpenClaim := { program := "ytgidepnlflmclaa", sum := "79ad8d305ecdc6325d9b061e7d58d1a5045072f0f3ae7926b96730d519e8364e", func := "loop.example/vectorstore/laws.FnWalkToNearest", spec := "fnWalkToNearest", unfollowed := true, recurses := true, apart := false }
def FnWalkToNearestSaid : Prop := fnWalkToNearestRow.holds Try.pinned (OpenSpec.ofChange fnWalkToNearestSpec)

/-- ITS FALSE NEIGHBOUR: 'it returns false'. Refute it at one input. -/
def fnWalkToNearestWrong : ChangeSpec := { name := "fnWalkToNearest", fn := fun _ => fun
  | [d] => { results := [.lit (.bool false)], args := [d] }
  | _ => none }
def FnWalkToNearestWrongFalsely : Prop := fnWalkToNearestRow.holds Try.pinned (OpenSpec.ofChange fnWalkToNearestWrong)

/-- 'laws.FnWalkTo': WHATEVER THE INPUT: true; the input reads as it did. -/
def fnWalkToSpec : ChangeSpec := { name := "fnWalkTo", fn := fun _ => fun
  | [d] => { results := [.lit (.bool true)], args := [d] }
  | _ => none }
def fnWalkToRow : OpenClaim := { program := "ytgidepnlflmclaa", sum := "79ad8d305ecdc6325d9b061e7d58d1a5045072f0f3ae7926b96730d519e8364e", func := "loop.example/vectorstore/laws.FnWalkTo", spec := "fnWalkTo", unfollowed := true, recurses := true, apart := false }
def FnWalkToSaid : Prop := fnWalkToRow.holds Try.pinned (OpenSpec.ofChange fnWalkToSpec)

/-- ITS FALSE NEIGHBOUR: 'it returns false'. Refute it at one input. -/
def fnWalkToWrong : ChangeSpec := { name := "fnWalkTo", fn := fun _ => fun
  | [d] => { results := [.lit (.bool false)], args := [d] }
  | _ => none }
def FnWalkToWrongFalsely : Prop := fnWalkToRow.holds Try.pinned (OpenSpec.ofChange fnWalkToWrong)

/-- 'laws.FnExactMutualLinks': WHATEVER THE INPUT: true; the input reads as it did. -/
def fnExactMutualLinksSpec : ChangeSpec := { name := "fnExactMutualLinks", fn := fun _ => fun
  | [d1, d2, d3] => { results := [.lit (.bool true)], args := [d1, d2, d3] }
  | _ => none }
def fnExactMutualLinksRow : OpenClaim := { program := "ytgidepnlflmclaa", sum := "79ad8d305ecdc6325d9b061e7d58d1a5045072f0f3ae7926b96730d519e8364e", func := "loop.example/vectorstore/laws.FnExactMutualLinks", spec := "fnExactMutualLinks", unfollowed := true, recurses := true, apart := false }
def FnExactMutualLinksSaid : Prop := fnExactMutualLinksRow.holds Try.pinned (OpenSpec.ofChange fnExactMutualLinksSpec)

/-- ITS FALSE NEIGHBOUR: 'it returns false'. Refute it at one input. -/
def fnExactMutualLinksWrong : ChangeSpec := { name := "fnExactMutualLinks", fn := fun _ => fun
  | [d1, d2, d3] => { results := [.lit (.bool false)], args := [d1, d2, d3] }
  | _ => none }
def FnExactMutualLinksWrongFalsely : Prop := fnExactMutualLinksRow.holds Try.pinned (OpenSpec.ofChange fnExactMutualLinksWrong)

/-- 'laws.FnMutualLinksMore': WHATEVER THE INPUT: true; the input reads as it did. -/
def fnMutualLinksMoreSpec : ChangeSpec := { name := "fnMutualLinksMore", fn := fun _ => fun
  | [d] => { results := [.lit (.bool true)], args := [d] }
  | _ => none }
def fnMutualLinksMoreRow : OpenClaim := { program := "ytgidepnlflmclaa", sum := "79ad8d305ecdc6325d9b061e7d58d1a5045072f0f3ae7926b96730d519e8364e", func := "loop.example/vectorstore/laws.FnMutualLinksMore", spec := "fnMutualLinksMore", unfollowed := true, recurses := true, apart := false }
def FnMutualLinksMoreSaid : Prop := fnMutualLinksMoreRow.holds Try.pinned (OpenSpec.ofChange fnMutualLinksMoreSpec)

/-- ITS FALSE NEIGHBOUR: 'it returns false'. Refute it at one input. -/
def fnMutualLinksMoreWrong : ChangeSpec := { name := "fnMutualLinksMore", fn := fun _ => fun
  | [d] => { results := [.lit (.bool false)], args := [d] }
  | _ => none }
def FnMutualLinksMoreWrongFalsely : Prop := fnMutualLinksMoreRow.holds Try.pinned (OpenSpec.ofChange fnMutualLinksMoreWrong)

/-- 'laws.FnMutualLinks': WHATEVER THE INPUT: true; the input reads as it did. -/
def fnMutualLinksSpec : ChangeSpec := { name := "fnMutualLinks", fn := fun _ => fun
  | [d] => { results := [.lit (.bool true)], args := [d] }
  | _ => none }
def fnMutualLinksRow : OpenClaim := { program := "ytgidepnlflmclaa", sum := "79ad8d305ecdc6325d9b061e7d58d1a5045072f0f3ae7926b96730d519e8364e", func := "loop.example/vectorstore/laws.FnMutualLinks", spec := "fnMutualLinks", unfollowed := true, recurses := true, apart := false }
def FnMutualLinksSaid : Prop := fnMutualLinksRow.holds Try.pinned (OpenSpec.ofChange fnMutualLinksSpec)

/-- ITS FALSE NEIGHBOUR: 'it returns false'. Refute it at one input. -/
def fnMutualLinksWrong : ChangeSpec := { name := "fnMutualLinks", fn := fun _ => fun
  | [d] => { results := [.lit (.bool false)], args := [d] }
  | _ => none }
def FnMutualLinksWrongFalsely : Prop := fnMutualLinksRow.holds Try.pinned (OpenSpec.ofChange fnMutualLinksWrong)

/-- 'laws.FnMutualLinksClosest': WHATEVER THE INPUT: true; the input reads as it did. -/
def fnMutualLinksClosestSpec : ChangeSpec := { name := "fnMutualLinksClosest", fn := fun _ => fun
  | [d] => { results := [.lit (.bool true)], args := [d] }
  | _ => none }
def fnMutualLinksClosestRow : OpenClaim := { program := "ytgidepnlflmclaa", sum := "79ad8d305ecdc6325d9b061e7d58d1a5045072f0f3ae7926b96730d519e8364e", func := "loop.example/vectorstore/laws.FnMutualLinksClosest", spec := "fnMutualLinksClosest", unfollowed := true, recurses := true, apart := false }
def FnMutualLinksClosestSaid : Prop := fnMutualLinksClosestRow.holds Try.pinned (OpenSpec.ofChange fnMutualLinksClosestSpec)

/-- ITS FALSE NEIGHBOUR: 'it returns false'. Refute it at one input. -/
def fnMutualLinksClosestWrong : ChangeSpec := { name := "fnMutualLinksClosest", fn := fun _ => fun
  | [d] => { results := [.lit (.bool false)], args := [d] }
  | _ => none }
def FnMutualLinksClosestWrongFalsely : Prop := fnMutualLinksClosestRow.holds Try.pinned (OpenSpec.ofChange fnMutualLinksClosestWrong)

/- THE SECOND FORM. 'bulk': how many values and letters a reading holds, each counted each time it is reached (what is shared counts as often as it is met; a slice's spare places count too). A statement '..UptoSaid' is the law's where the arguments, and the package variables that the reading takes, are together of bulk at most 1048576: NARROWER than '..Said'. Prove '..Said' where nothing that the law and all that it calls make is longer than what came in: it says more and counts as full. Else prove '..UptoSaid'. A law counts once. -/
mutual
def uptoBulk {H : Type} : DataW H → Nat
  | .lit (.string bytes) => bytes.length + 1
  | .lit _ => 1
  | .nil => 1
  | .ptr d => uptoBulk d + 1
  | .slice elems spare => uptoBulkAll elems + uptoBulkAll spare + 1
  | .agg parts => uptoBulkAll parts + 1
  | .iface _ d => uptoBulk d + 1
  | .map entries => uptoBulkEntries entries + 1
  | .held _ => 1
def uptoBulkAll {H : Type} : List (DataW H) → Nat
  | [] => 0
  | d :: r => uptoBulk d + uptoBulkAll r
def uptoBulkEntries {H : Type} : List (Lit × DataW H) → Nat
  | [] => 0
  | x :: r => uptoBulkEntry x + uptoBulkEntries r
def uptoBulkEntry {H : Type} : Lit × DataW H → Nat
  | (.string bytes, d) => bytes.length + uptoBulk d + 1
  | (_, d) => uptoBulk d + 1
 end
def uptoSmall : (H : Type) → List (DataW H) → Bool := fun _ ds => decide (uptoBulkAll ds ≤ 1048576)
def OpenSpec.upto (s : _root_.Go.ChangeSpec) : _root_.Go.OpenSpec := { _root_.Go.OpenSpec.ofChange s with cond := some uptoSmall }

/-- 'laws.FnExactWalkTo', WHERE WHAT IT READS IS OF BULK AT MOST 1048576: true; the input reads as it did. -/
def fnExactWalkToUptoRow : OpenClaim := { program := "ytgidepnlflmclaa", sum := "79ad8d305ecdc6325d9b061e7d58d1a5045072f0f3ae7926b96730d519e8364e", func := "loop.example/vectorstore/laws.FnExactWalkTo", spec := "fnExactWalkTo", unfollowed := true, recurses := true, apart := false, narrowed := true }
def FnExactWalkToUptoSaid : Prop := fnExactWalkToUptoRow.holds Try.pinned (OpenSpec.upto fnExactWalkToSpec)

/-- 'laws.FnWalkToEnd', WHERE WHAT IT READS IS OF BULK AT MOST 1048576: true; the input reads as it did. -/
def fnWalkToEndUptoRow : OpenClaim := { program := "ytgidepnlflmclaa", sum := "79ad8d305ecdc6325d9b061e7d58d1a5045072f0f3ae7926b96730d519e8364e", func := "loop.example/vectorstore/laws.FnWalkToEnd", spec := "fnWalkToEnd", unfollowed := true, recurses := true, apart := false, narrowed := true }
def FnWalkToEndUptoSaid : Prop := fnWalkToEndUptoRow.holds Try.pinned (OpenSpec.upto fnWalkToEndSpec)

/-- 'laws.FnWalkToOnce', WHERE WHAT IT READS IS OF BULK AT MOST 1048576: true; the input reads as it did. -/
def fnWalkToOnceUptoRow : OpenClaim := { program := "ytgidepnlflmclaa", sum := "79ad8d305ecdc6325d9b061e7d58d1a5045072f0f3ae7926b96730d519e8364e", func := "loop.example/vectorstore/laws.FnWalkToOnce", spec := "fnWalkToOnce", unfollowed := true, recurses := true, apart := false, narrowed := true }
def FnWalkToOnceUptoSaid : Prop := fnWalkToOnceUptoRow.holds Try.pinned (OpenSpec.upto fnWalkToOnceSpec)

/-- 'laws.FnWalkToNearest', WHERE WHAT IT READS IS OF BULK AT MOST 1048576: true; the input reads as it did. -/
def fnWalkToNearestUptoRow : OpenClaim := { program := "ytgidepnlflmclaa", sum := "79ad8d305ecdc6325d9b061e7d58d1a5045072f0f3ae7926b96730d519e8364e", func := "loop.example/vectorstore/laws.FnWalkToNearest", spec := "fnWalkToNearest", unfollowed := true, recurses := true, apart := false, narrowed := true }
def FnWalkToNearestUptoSaid : Prop := fnWalkToNearestUptoRow.holds Try.pinned (OpenSpec.upto fnWalkToNearestSpec)

/-- 'laws.FnWalkTo', WHERE WHAT IT READS IS OF BULK AT MOST 1048576: true; the input reads as it did. -/
def fnWalkToUptoRow : OpenClaim := { program := "ytgidepnlflmclaa", sum := "79ad8d305ecdc6325d9b061e7d58d1a5045072f0f3ae7926b96730d519e8364e", func := "loop.example/vectorstore/laws.FnWalkTo", spec := "fnWalkTo", unfollowed := true, recurses := true, apart := false, narrowed := true }
def FnWalkToUptoSaid : Prop := fnWalkToUptoRow.holds Try.pinned (OpenSpec.upto fnWalkToSpec)

/-- 'laws.FnExactMutualLinks', WHERE WHAT IT READS IS OF BULK AT MOST 1048576: true; the input reads as it did. -/
def fnExactMutualLinksUptoRow : OpenClaim := { program := "ytgidepnlflmclaa", sum := "79ad8d305ecdc6325d9b061e7d58d1a5045072f0f3ae7926b96730d519e8364e", func := "loop.example/vectorstore/laws.FnExactMutualLinks", spec := "fnExactMutualLinks", unfollowed := true, recurses := true, apart := false, narrowed := true }
def FnExactMutualLinksUptoSaid : Prop := fnExactMutualLinksUptoRow.holds Try.pinned (OpenSpec.upto fnExactMutualLinksSpec)

/-- 'laws.FnMutualLinksMore', WHERE WHAT IT READS IS OF BULK AT MOST 1048576: true; the input reads as it did. -/
def fnMutualLinksMoreUptoRow : OpenClaim := { program := "ytgidepnlflmclaa", sum := "79ad8d305ecdc6325d9b061e7d58d1a5045072f0f3ae7926b96730d519e8364e", func := "loop.example/vectorstore/laws.FnMutualLinksMore", spec := "fnMutualLinksMore", unfollowed := true, recurses := true, apart := false, narrowed := true }
def FnMutualLinksMoreUptoSaid : Prop := fnMutualLinksMoreUptoRow.holds Try.pinned (OpenSpec.upto fnMutualLinksMoreSpec)

/-- 'laws.FnMutualLinks', WHERE WHAT IT READS IS OF BULK AT MOST 1048576: true; the input reads as it did. -/
def fnMutualLinksUptoRow : OpenClaim := { program := "ytgidepnlflmclaa", sum := "79ad8d305ecdc6325d9b061e7d58d1a5045072f0f3ae7926b96730d519e8364e", func := "loop.example/vectorstore/laws.FnMutualLinks", spec := "fnMutualLinks", unfollowed := true, recurses := true, apart := false, narrowed := true }
def FnMutualLinksUptoSaid : Prop := fnMutualLinksUptoRow.holds Try.pinned (OpenSpec.upto fnMutualLinksSpec)

/-- 'laws.FnMutualLinksClosest', WHERE WHAT IT READS IS OF BULK AT MOST 1048576: true; the input reads as it did. -/
def fnMutualLinksClosestUptoRow : OpenClaim := { program := "ytgidepnlflmclaa", sum := "79ad8d305ecdc6325d9b061e7d58d1a5045072f0f3ae7926b96730d519e8364e", func := "loop.example/vectorstore/laws.FnMutualLinksClosest", spec := "fnMutualLinksClosest", unfollowed := true, recurses := true, apart := false, narrowed := true }
def FnMutualLinksClosestUptoSaid : Prop := fnMutualLinksClosestUptoRow.holds Try.pinned (OpenSpec.upto fnMutualLinksClosestSpec)

end Rows
end Go.Proofs.Ytgidepnlflmclaa
