/-
  No cell of these rows narrows 'for every input' (looked for: loops, veiled, ifaces, maps, wideKeys, modest, calm, conditions, laid).
  DERIVED. THE GIVEN ROWS OF THIS SEAT. 8 by the template 'for every input the law returns true; each argument reads behind the call as it read before'; 0 by the template 'total and deterministic' (their statements: YtkglmhhihpofiaaTotals.lean).
  GIVEN WITH THE SEED: the statements are not yours to turn. If you find one false, say at which input.
  Laid BY PROGRAM, IN A SANDBOX (cutbox-rows.mjs): the forced cells as the released guide's own fill.sh prints them over the translation a4dd2cb61f02ee61… (all of the seat's roots in one cut). By AI agents, Wed Nov 11 2026. No macro, syntax, notation, axiom, sorry.
-/
import Derived.Test.YtkglmhhihpofiaaChecked
import GoSem.Claim
import GoSem.ClaimJoined
import GoSem.ClaimMapViews
import Derived.JoinedTies
import Derived.KernelRfl
namespace Go.Proofs.Ytkglmhhihpofiaa
/- THE CELL 'sum', in the pinned program and in every row, IS THE sha256 OF THE DUMP (.gsa) THAT YtkglmhhihpofiaaProg.lean LOADS. Nothing in Lean hashes anything: it is a label: what it is worth is what the hold of that sum in a sandbox is worth. -/
noncomputable def Try.pinned : Pinned := { name := "ytkglmhhihpofiaa", sum := "a4dd2cb61f02ee61849af48e5017168744fc69661141c7aa77b26a3068b3f690", checked := Try.checked }
namespace Rows
def none {H : Type} : Left H := { results := [], args := [] }

/-- 'laws.FnRecallOfNearest': WHATEVER THE INPUT: true; the input reads as it did. -/
def fnRecallOfNearestSpec : ChangeSpec := { name := "fnRecallOfNearest", fn := fun _ => fun
  | [d] => { results := [.lit (.bool true)], args := [d] }
  | _ => none }
def fnRecallOfNearestRow : OpenClaim := { program := "ytkglmhhihpofiaa", sum := "a4dd2cb61f02ee61849af48e5017168744fc69661141c7aa77b26a3068b3f690", func := "loop.example/vectorstore/laws.FnRecallOfNearest", spec := "fnRecallOfNearest", unfollowed := true, recurses := true, apart := false }
def FnRecallOfNearestSaid : Prop := fnRecallOfNearestRow.holds Try.pinned (OpenSpec.ofChange fnRecallOfNearestSpec)

/-- ITS FALSE NEIGHBOUR: 'it returns false'. Refute it at one input. -/
def fnRecallOfNearestWrong : ChangeSpec := { name := "fnRecallOfNearest", fn := fun _ => fun
  | [d] => { results := [.lit (.bool false)], args := [d] }
  | _ => none }
def FnRecallOfNearestWrongFalsely : Prop := fnRecallOfNearestRow.holds Try.pinned (OpenSpec.ofChange fnRecallOfNearestWrong)

/-- 'laws.FnExactFilterNearest': WHATEVER THE INPUT: true; the input reads as it did. -/
def fnExactFilterNearestSpec : ChangeSpec := { name := "fnExactFilterNearest", fn := fun _ => fun
  | [d1, d2, d3, d4, d5] => { results := [.lit (.bool true)], args := [d1, d2, d3, d4, d5] }
  | _ => none }
def fnExactFilterNearestRow : OpenClaim := { program := "ytkglmhhihpofiaa", sum := "a4dd2cb61f02ee61849af48e5017168744fc69661141c7aa77b26a3068b3f690", func := "loop.example/vectorstore/laws.FnExactFilterNearest", spec := "fnExactFilterNearest", unfollowed := true, recurses := true, apart := false }
def FnExactFilterNearestSaid : Prop := fnExactFilterNearestRow.holds Try.pinned (OpenSpec.ofChange fnExactFilterNearestSpec)

/-- ITS FALSE NEIGHBOUR: 'it returns false'. Refute it at one input. -/
def fnExactFilterNearestWrong : ChangeSpec := { name := "fnExactFilterNearest", fn := fun _ => fun
  | [d1, d2, d3, d4, d5] => { results := [.lit (.bool false)], args := [d1, d2, d3, d4, d5] }
  | _ => none }
def FnExactFilterNearestWrongFalsely : Prop := fnExactFilterNearestRow.holds Try.pinned (OpenSpec.ofChange fnExactFilterNearestWrong)

/-- 'laws.FnMergeHitsStores': WHATEVER THE INPUT: true; the input reads as it did. -/
def fnMergeHitsStoresSpec : ChangeSpec := { name := "fnMergeHitsStores", fn := fun _ => fun
  | [d] => { results := [.lit (.bool true)], args := [d] }
  | _ => none }
def fnMergeHitsStoresRow : OpenClaim := { program := "ytkglmhhihpofiaa", sum := "a4dd2cb61f02ee61849af48e5017168744fc69661141c7aa77b26a3068b3f690", func := "loop.example/vectorstore/laws.FnMergeHitsStores", spec := "fnMergeHitsStores", unfollowed := true, recurses := true, apart := false }
def FnMergeHitsStoresSaid : Prop := fnMergeHitsStoresRow.holds Try.pinned (OpenSpec.ofChange fnMergeHitsStoresSpec)

/-- ITS FALSE NEIGHBOUR: 'it returns false'. Refute it at one input. -/
def fnMergeHitsStoresWrong : ChangeSpec := { name := "fnMergeHitsStores", fn := fun _ => fun
  | [d] => { results := [.lit (.bool false)], args := [d] }
  | _ => none }
def FnMergeHitsStoresWrongFalsely : Prop := fnMergeHitsStoresRow.holds Try.pinned (OpenSpec.ofChange fnMergeHitsStoresWrong)

/-- 'laws.FnFilterNearestOpen': WHATEVER THE INPUT: true; the input reads as it did. -/
def fnFilterNearestOpenSpec : ChangeSpec := { name := "fnFilterNearestOpen", fn := fun _ => fun
  | [d] => { results := [.lit (.bool true)], args := [d] }
  | _ => none }
def fnFilterNearestOpenRow : OpenClaim := { program := "ytkglmhhihpofiaa", sum := "a4dd2cb61f02ee61849af48e5017168744fc69661141c7aa77b26a3068b3f690", func := "loop.example/vectorstore/laws.FnFilterNearestOpen", spec := "fnFilterNearestOpen", unfollowed := true, recurses := true, apart := false }
def FnFilterNearestOpenSaid : Prop := fnFilterNearestOpenRow.holds Try.pinned (OpenSpec.ofChange fnFilterNearestOpenSpec)

/-- ITS FALSE NEIGHBOUR: 'it returns false'. Refute it at one input. -/
def fnFilterNearestOpenWrong : ChangeSpec := { name := "fnFilterNearestOpen", fn := fun _ => fun
  | [d] => { results := [.lit (.bool false)], args := [d] }
  | _ => none }
def FnFilterNearestOpenWrongFalsely : Prop := fnFilterNearestOpenRow.holds Try.pinned (OpenSpec.ofChange fnFilterNearestOpenWrong)

/-- 'laws.FnNearest': WHATEVER THE INPUT: true; the input reads as it did. -/
def fnNearestSpec : ChangeSpec := { name := "fnNearest", fn := fun _ => fun
  | [d] => { results := [.lit (.bool true)], args := [d] }
  | _ => none }
def fnNearestRow : OpenClaim := { program := "ytkglmhhihpofiaa", sum := "a4dd2cb61f02ee61849af48e5017168744fc69661141c7aa77b26a3068b3f690", func := "loop.example/vectorstore/laws.FnNearest", spec := "fnNearest", unfollowed := true, recurses := true, apart := false }
def FnNearestSaid : Prop := fnNearestRow.holds Try.pinned (OpenSpec.ofChange fnNearestSpec)

/-- ITS FALSE NEIGHBOUR: 'it returns false'. Refute it at one input. -/
def fnNearestWrong : ChangeSpec := { name := "fnNearest", fn := fun _ => fun
  | [d] => { results := [.lit (.bool false)], args := [d] }
  | _ => none }
def FnNearestWrongFalsely : Prop := fnNearestRow.holds Try.pinned (OpenSpec.ofChange fnNearestWrong)

/-- 'laws.FnWithinDist': WHATEVER THE INPUT: true; the input reads as it did. -/
def fnWithinDistSpec : ChangeSpec := { name := "fnWithinDist", fn := fun _ => fun
  | [d] => { results := [.lit (.bool true)], args := [d] }
  | _ => none }
def fnWithinDistRow : OpenClaim := { program := "ytkglmhhihpofiaa", sum := "a4dd2cb61f02ee61849af48e5017168744fc69661141c7aa77b26a3068b3f690", func := "loop.example/vectorstore/laws.FnWithinDist", spec := "fnWithinDist", unfollowed := true, recurses := true, apart := false }
def FnWithinDistSaid : Prop := fnWithinDistRow.holds Try.pinned (OpenSpec.ofChange fnWithinDistSpec)

/-- ITS FALSE NEIGHBOUR: 'it returns false'. Refute it at one input. -/
def fnWithinDistWrong : ChangeSpec := { name := "fnWithinDist", fn := fun _ => fun
  | [d] => { results := [.lit (.bool false)], args := [d] }
  | _ => none }
def FnWithinDistWrongFalsely : Prop := fnWithinDistRow.holds Try.pinned (OpenSpec.ofChange fnWithinDistWrong)

/-- 'laws.FnFilterNearest': WHATEVER THE INPUT: true; the input reads as it did. -/
def fnFilterNearestSpec : ChangeSpec := { name := "fnFilterNearest", fn := fun _ => fun
  | [d] => { results := [.lit (.bool true)], args := [d] }
  | _ => none }
def fnFilterNearestRow : OpenClaim := { program := "ytkglmhhihpofiaa", sum := "a4dd2cb61f02ee61849af48e5017168744fc69661141c7aa77b26a3068b3f690", func := "loop.example/vectorstore/laws.FnFilterNearest", spec := "fnFilterNearest", unfollowed := true, recurses := true, apart := false }
def FnFilterNearestSaid : Prop := fnFilterNearestRow.holds Try.pinned (OpenSpec.ofChange fnFilterNearestSpec)

/-- ITS FALSE NEIGHBOUR: 'it returns false'. Refute it at one input. -/
def fnFilterNearestWrong : ChangeSpec := { name := "fnFilterNearest", fn := fun _ => fun
  | [d] => { results := [.lit (.bool false)], args := [d] }
  | _ => none }
def FnFilterNearestWrongFalsely : Prop := fnFilterNearestRow.holds Try.pinned (OpenSpec.ofChange fnFilterNearestWrong)

/-- 'laws.FnFilterNearestCount': WHATEVER THE INPUT: true; the input reads as it did. -/
def fnFilterNearestCountSpec : ChangeSpec := { name := "fnFilterNearestCount", fn := fun _ => fun
  | [d] => { results := [.lit (.bool true)], args := [d] }
  | _ => none }
def fnFilterNearestCountRow : OpenClaim := { program := "ytkglmhhihpofiaa", sum := "a4dd2cb61f02ee61849af48e5017168744fc69661141c7aa77b26a3068b3f690", func := "loop.example/vectorstore/laws.FnFilterNearestCount", spec := "fnFilterNearestCount", unfollowed := true, recurses := true, apart := false }
def FnFilterNearestCountSaid : Prop := fnFilterNearestCountRow.holds Try.pinned (OpenSpec.ofChange fnFilterNearestCountSpec)

/-- ITS FALSE NEIGHBOUR: 'it returns false'. Refute it at one input. -/
def fnFilterNearestCountWrong : ChangeSpec := { name := "fnFilterNearestCount", fn := fun _ => fun
  | [d] => { results := [.lit (.bool false)], args := [d] }
  | _ => none }
def FnFilterNearestCountWrongFalsely : Prop := fnFilterNearestCountRow.holds Try.pinned (OpenSpec.ofChange fnFilterNearestCountWrong)

/- THE SECOND FORM. 'bulk': how many values and letters a reading holds, each counted each time it is reached (what is shared counts as often as it is met; a slice's spare places count too). A statement '..UptoSaid' is the law's where the arguments, and the package variables that the reading takes, are together of bulk at most 1048576: NARROWER than '..Said'. Prove '..Said' where nothing that the law and all that it calls make is longer than what came in: it says more and counts as full. Else prove '..UptoSaid'. A law counts once. -/
mutual
def uptoBulk {H : Type} : DataW H → Nat
  | .lit (.string bytes) => bytes.length + 1
  | .lit _ => 1
  | .nil => 1
  | .ptr d => uptoBulk d + 1
  | .slice elems spare => uptoBulkAll elems + uptoBulkAll spare + 1
  | .agg parts => uptoBulkAll parts + 1
  | .iface _ d => uptoBulk d + 1
  | .map entries => uptoBulkEntries entries + 1
  | .held _ => 1
def uptoBulkAll {H : Type} : List (DataW H) → Nat
  | [] => 0
  | d :: r => uptoBulk d + uptoBulkAll r
def uptoBulkEntries {H : Type} : List (Lit × DataW H) → Nat
  | [] => 0
  | x :: r => uptoBulkEntry x + uptoBulkEntries r
def uptoBulkEntry {H : Type} : Lit × DataW H → Nat
  | (.string bytes, d) => bytes.length + uptoBulk d + 1
  | (_, d) => uptoBulk d + 1
 end
def uptoSmall : (H : Type) → List (DataW H) → Bool := fun _ ds => decide (uptoBulkAll ds ≤ 1048576)
def OpenSpec.upto (s : _root_.Go.ChangeSpec) : _root_.Go.OpenSpec := { _root_.Go.OpenSpec.ofChange s with cond := some uptoSmall }

/-- 'laws.FnRecallOfNearest', WHERE WHAT IT READS IS OF BULK AT MOST 1048576: true; the input reads as it did. -/
def fnRecallOfNearestUptoRow : OpenClaim := { program := "ytkglmhhihpofiaa", sum := "a4dd2cb61f02ee61849af48e5017168744fc69661141c7aa77b26a3068b3f690", func := "loop.example/vectorstore/laws.FnRecallOfNearest", spec := "fnRecallOfNearest", unfollowed := true, recurses := true, apart := false, narrowed := true }
def FnRecallOfNearestUptoSaid : Prop := fnRecallOfNearestUptoRow.holds Try.pinned (OpenSpec.upto fnRecallOfNearestSpec)

/-- 'laws.FnExactFilterNearest', WHERE WHAT IT READS IS OF BULK AT MOST 1048576: true; the input reads as it did. -/
def fnExactFilterNearestUptoRow : OpenClaim := { program := "ytkglmhhihpofiaa", sum := "a4dd2cb61f02ee61849af48e5017168744fc69661141c7aa77b26a3068b3f690", func := "loop.example/vectorstore/laws.FnExactFilterNearest", spec := "fnExactFilterNearest", unfollowed := true, recurses := true, apart := false, narrowed := true }
def FnExactFilterNearestUptoSaid : Prop := fnExactFilterNearestUptoRow.holds Try.pinned (OpenSpec.upto fnExactFilterNearestSpec)

/-- 'laws.FnMergeHitsStores', WHERE WHAT IT READS IS OF BULK AT MOST 1048576: true; the input reads as it did. -/
def fnMergeHitsStoresUptoRow : OpenClaim := { program := "ytkglmhhihpofiaa", sum := "a4dd2cb61f02ee61849af48e5017168744fc69661141c7aa77b26a3068b3f690", func := "loop.example/vectorstore/laws.FnMergeHitsStores", spec := "fnMergeHitsStores", unfollowed := true, recurses := true, apart := false, narrowed := true }
def FnMergeHitsStoresUptoSaid : Prop := fnMergeHitsStoresUptoRow.holds Try.pinned (OpenSpec.upto fnMergeHitsStoresSpec)

/-- 'laws.FnFilterNearestOpen', WHERE WHAT IT READS IS OF BULK AT MOST 1048576: true; the input reads as it did. -/
def fnFilterNearestOpenUptoRow : OpenClaim := { program := "ytkglmhhihpofiaa", sum := "a4dd2cb61f02ee61849af48e5017168744fc69661141c7aa77b26a3068b3f690", func := "loop.example/vectorstore/laws.FnFilterNearestOpen", spec := "fnFilterNearestOpen", unfollowed := true, recurses := true, apart := false, narrowed := true }
def FnFilterNearestOpenUptoSaid : Prop := fnFilterNearestOpenUptoRow.holds Try.pinned (OpenSpec.upto fnFilterNearestOpenSpec)

/-- 'laws.FnNearest', WHERE WHAT IT READS IS OF BULK AT MOST 1048576: true; the input reads as it did. -/
def fnNearestUptoRow : OpenClaim := { program := "ytkglmhhihpofiaa", sum := "a4dd2cb61f02ee61849af48e5017168744fc69661141c7aa77b26a3068b3f690", func := "loop.example/vectorstore/laws.FnNearest", spec := "fnNearest", unfollowed := true, recurses := true, apart := false, narrowed := true }
def FnNearestUptoSaid : Prop := fnNearestUptoRow.holds Try.pinned (OpenSpec.upto fnNearestSpec)

/-- 'laws.FnWithinDist', WHERE WHAT IT READS IS OF BULK AT MOST 1048576: true; the input reads as it did. -/
def fnWithinDistUptoRow : OpenClaim := { program := "ytkglmhhihpofiaa", sum := "a4dd2cb61f02ee61849af48e5017168744fc69661141c7aa77b26a3068b3f690", func := "loop.example/vectorstore/laws.FnWithinDist", spec := "fnWithinDist", unfollowed := true, recurses := true, apart := false, narrowed := true }
def FnWithinDistUptoSaid : Prop := fnWithinDistUptoRow.holds Try.pinned (OpenSpec.upto fnWithinDistSpec)

/-- 'laws.FnFilterNearest', WHERE WHAT IT READS IS OF BULK AT MOST 1048576: true; the input reads as it did. -/
def fnFilterNearestUptoRow : OpenClaim := { program := "ytkglmhhihpofiaa", sum := "a4dd2cb61f02ee61849af48e5017168744fc69661141c7aa77b26a3068b3f690", func := "loop.example/vectorstore/laws.FnFilterNearest", spec := "fnFilterNearest", unfollowed := true, recurses := true, apart := false, narrowed := true }
def FnFilterNearestUptoSaid : Prop := fnFilterNearestUptoRow.holds Try.pinned (OpenSpec.upto fnFilterNearestSpec)

/-- 'laws.FnFilterNearestCount', WHERE WHAT IT READS IS OF BULK AT MOST 1048576: true; the input reads as it did. -/
def fnFilterNearestCountUptoRow : OpenClaim := { program := "ytkglmhhihpofiaa", sum := "a4dd2cb61f02ee61849af48e5017168744fc69661141c7aa77b26a3068b3f690", func := "loop.example/vectorstore/laws.FnFilterNearestCount", spec := "fnFilterNearestCount", unfollowed := true, recurses := true, apart := false, narrowed := true }
def FnFilterNearestCountUptoSaid : Prop := fnFilterNearestCountUptoRow.holds Try.pinned (OpenSpec.upto fnFilterNearestCountSpec)

end Rows
end Go.Proofs.Ytkglmhhihpofiaa
