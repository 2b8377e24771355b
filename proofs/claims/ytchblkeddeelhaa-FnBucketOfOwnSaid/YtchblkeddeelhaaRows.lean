/-
  No cell of these rows narrows 'for every input' (looked for: loops, veiled, ifaces, maps, wideKeys, modest, calm, conditions, laid).
  DERIVED. THE GIVEN ROWS OF THIS SEAT. 9 by the template 'for every input the law returns true; each argument reads behind the call as it read before'; 0 by the template 'total and deterministic' (their statements: YtchblkeddeelhaaTotals.lean).
  GIVEN WITH THE SEED: the statements are not yours to turn. If you find one false, say at which input.
  Laid BY PROGRAM, IN A SANDBOX (cutbox-rows.mjs): the forced cells as the released guide's own fill.sh prints them over the translation bc8c8ed6a1835f35… (all of the seat's roots in one cut). By AI agents, Wed Nov 11 2026. No macro, syntax, notation, axiom, sorry.
-/
import Derived.Test.YtchblkeddeelhaaChecked
import GoSem.Claim
import GoSem.ClaimJoined
import GoSem.ClaimMapViews
import Derived.JoinedTies
import Derived.KernelRfl
namespace Go.Proofs.Ytchblkeddeelhaa
/- THE CELL 'sum', in the pinned program and in every row, IS THE sha256 OF THE DUMP (.gsa) THAT YtchblkeddeelhaaProg.lean LOADS. Nothing in Lean hashes anything: it is a label: what it is worth is what the hold of that sum in a sandbox is worth. -/
noncomputable def Try.pinned : Pinned := { name := "ytchblkeddeelhaa", sum := "bc8c8ed6a1835f35e34fe3166c4cdf46d72720807ff174ce4baf0d2bd27627a7", checked := Try.checked }
namespace Rows
def none {H : Type} : Left H := { results := [], args := [] }

/-- 'laws.FnExactFilterStore': WHATEVER THE INPUT: true; the input reads as it did. -/
def fnExactFilterStoreSpec : ChangeSpec := { name := "fnExactFilterStore", fn := fun _ => fun
  | [d1, d2] => { results := [.lit (.bool true)], args := [d1, d2] }
  | _ => none }
def fnExactFilterStoreRow : OpenClaim := { program := "ytchblkeddeelhaa", sum := "bc8c8ed6a1835f35e34fe3166c4cdf46d72720807ff174ce4baf0d2bd27627a7", func := "loop.example/vectorstore/laws.FnExactFilterStore", spec := "fnExactFilterStore", apart := false }
def FnExactFilterStoreSaid : Prop := fnExactFilterStoreRow.holds Try.pinned (OpenSpec.ofChange fnExactFilterStoreSpec)

/-- ITS FALSE NEIGHBOUR: 'it returns false'. Refute it at one input. -/
def fnExactFilterStoreWrong : ChangeSpec := { name := "fnExactFilterStore", fn := fun _ => fun
  | [d1, d2] => { results := [.lit (.bool false)], args := [d1, d2] }
  | _ => none }
def FnExactFilterStoreWrongFalsely : Prop := fnExactFilterStoreRow.holds Try.pinned (OpenSpec.ofChange fnExactFilterStoreWrong)

/-- 'laws.FnFilterStoreTwice': WHATEVER THE INPUT: true; the input reads as it did. -/
def fnFilterStoreTwiceSpec : ChangeSpec := { name := "fnFilterStoreTwice", fn := fun _ => fun
  | [d] => { results := [.lit (.bool true)], args := [d] }
  | _ => none }
def fnFilterStoreTwiceRow : OpenClaim := { program := "ytchblkeddeelhaa", sum := "bc8c8ed6a1835f35e34fe3166c4cdf46d72720807ff174ce4baf0d2bd27627a7", func := "loop.example/vectorstore/laws.FnFilterStoreTwice", spec := "fnFilterStoreTwice", apart := false }
def FnFilterStoreTwiceSaid : Prop := fnFilterStoreTwiceRow.holds Try.pinned (OpenSpec.ofChange fnFilterStoreTwiceSpec)

/-- ITS FALSE NEIGHBOUR: 'it returns false'. Refute it at one input. -/
def fnFilterStoreTwiceWrong : ChangeSpec := { name := "fnFilterStoreTwice", fn := fun _ => fun
  | [d] => { results := [.lit (.bool false)], args := [d] }
  | _ => none }
def FnFilterStoreTwiceWrongFalsely : Prop := fnFilterStoreTwiceRow.holds Try.pinned (OpenSpec.ofChange fnFilterStoreTwiceWrong)

/-- 'laws.FnFilterStore': WHATEVER THE INPUT: true; the input reads as it did. -/
def fnFilterStoreSpec : ChangeSpec := { name := "fnFilterStore", fn := fun _ => fun
  | [d] => { results := [.lit (.bool true)], args := [d] }
  | _ => none }
def fnFilterStoreRow : OpenClaim := { program := "ytchblkeddeelhaa", sum := "bc8c8ed6a1835f35e34fe3166c4cdf46d72720807ff174ce4baf0d2bd27627a7", func := "loop.example/vectorstore/laws.FnFilterStore", spec := "fnFilterStore", apart := false }
def FnFilterStoreSaid : Prop := fnFilterStoreRow.holds Try.pinned (OpenSpec.ofChange fnFilterStoreSpec)

/-- ITS FALSE NEIGHBOUR: 'it returns false'. Refute it at one input. -/
def fnFilterStoreWrong : ChangeSpec := { name := "fnFilterStore", fn := fun _ => fun
  | [d] => { results := [.lit (.bool false)], args := [d] }
  | _ => none }
def FnFilterStoreWrongFalsely : Prop := fnFilterStoreRow.holds Try.pinned (OpenSpec.ofChange fnFilterStoreWrong)

/-- 'laws.FnFilterStoreBoth': WHATEVER THE INPUT: true; the input reads as it did. -/
def fnFilterStoreBothSpec : ChangeSpec := { name := "fnFilterStoreBoth", fn := fun _ => fun
  | [d] => { results := [.lit (.bool true)], args := [d] }
  | _ => none }
def fnFilterStoreBothRow : OpenClaim := { program := "ytchblkeddeelhaa", sum := "bc8c8ed6a1835f35e34fe3166c4cdf46d72720807ff174ce4baf0d2bd27627a7", func := "loop.example/vectorstore/laws.FnFilterStoreBoth", spec := "fnFilterStoreBoth", apart := false }
def FnFilterStoreBothSaid : Prop := fnFilterStoreBothRow.holds Try.pinned (OpenSpec.ofChange fnFilterStoreBothSpec)

/-- ITS FALSE NEIGHBOUR: 'it returns false'. Refute it at one input. -/
def fnFilterStoreBothWrong : ChangeSpec := { name := "fnFilterStoreBoth", fn := fun _ => fun
  | [d] => { results := [.lit (.bool false)], args := [d] }
  | _ => none }
def FnFilterStoreBothWrongFalsely : Prop := fnFilterStoreBothRow.holds Try.pinned (OpenSpec.ofChange fnFilterStoreBothWrong)

/-- 'laws.FnHashOfOpposite': WHATEVER THE INPUT: true; the input reads as it did. -/
def fnHashOfOppositeSpec : ChangeSpec := { name := "fnHashOfOpposite", fn := fun _ => fun
  | [d] => { results := [.lit (.bool true)], args := [d] }
  | _ => none }
def fnHashOfOppositeRow : OpenClaim := { program := "ytchblkeddeelhaa", sum := "bc8c8ed6a1835f35e34fe3166c4cdf46d72720807ff174ce4baf0d2bd27627a7", func := "loop.example/vectorstore/laws.FnHashOfOpposite", spec := "fnHashOfOpposite", unfollowed := true, recurses := true, apart := false }
def FnHashOfOppositeSaid : Prop := fnHashOfOppositeRow.holds Try.pinned (OpenSpec.ofChange fnHashOfOppositeSpec)

/-- ITS FALSE NEIGHBOUR: 'it returns false'. Refute it at one input. -/
def fnHashOfOppositeWrong : ChangeSpec := { name := "fnHashOfOpposite", fn := fun _ => fun
  | [d] => { results := [.lit (.bool false)], args := [d] }
  | _ => none }
def FnHashOfOppositeWrongFalsely : Prop := fnHashOfOppositeRow.holds Try.pinned (OpenSpec.ofChange fnHashOfOppositeWrong)

/-- 'laws.FnExactBucketOf': WHATEVER THE INPUT: true; the input reads as it did. -/
def fnExactBucketOfSpec : ChangeSpec := { name := "fnExactBucketOf", fn := fun _ => fun
  | [d1, d2, d3, d4] => { results := [.lit (.bool true)], args := [d1, d2, d3, d4] }
  | _ => none }
def fnExactBucketOfRow : OpenClaim := { program := "ytchblkeddeelhaa", sum := "bc8c8ed6a1835f35e34fe3166c4cdf46d72720807ff174ce4baf0d2bd27627a7", func := "loop.example/vectorstore/laws.FnExactBucketOf", spec := "fnExactBucketOf", unfollowed := true, recurses := true, apart := false }
def FnExactBucketOfSaid : Prop := fnExactBucketOfRow.holds Try.pinned (OpenSpec.ofChange fnExactBucketOfSpec)

/-- ITS FALSE NEIGHBOUR: 'it returns false'. Refute it at one input. -/
def fnExactBucketOfWrong : ChangeSpec := { name := "fnExactBucketOf", fn := fun _ => fun
  | [d1, d2, d3, d4] => { results := [.lit (.bool false)], args := [d1, d2, d3, d4] }
  | _ => none }
def FnExactBucketOfWrongFalsely : Prop := fnExactBucketOfRow.holds Try.pinned (OpenSpec.ofChange fnExactBucketOfWrong)

/-- 'laws.FnBucketOfMore': WHATEVER THE INPUT: true; the input reads as it did. -/
def fnBucketOfMoreSpec : ChangeSpec := { name := "fnBucketOfMore", fn := fun _ => fun
  | [d] => { results := [.lit (.bool true)], args := [d] }
  | _ => none }
def fnBucketOfMoreRow : OpenClaim := { program := "ytchblkeddeelhaa", sum := "bc8c8ed6a1835f35e34fe3166c4cdf46d72720807ff174ce4baf0d2bd27627a7", func := "loop.example/vectorstore/laws.FnBucketOfMore", spec := "fnBucketOfMore", unfollowed := true, recurses := true, apart := false }
def FnBucketOfMoreSaid : Prop := fnBucketOfMoreRow.holds Try.pinned (OpenSpec.ofChange fnBucketOfMoreSpec)

/-- ITS FALSE NEIGHBOUR: 'it returns false'. Refute it at one input. -/
def fnBucketOfMoreWrong : ChangeSpec := { name := "fnBucketOfMore", fn := fun _ => fun
  | [d] => { results := [.lit (.bool false)], args := [d] }
  | _ => none }
def FnBucketOfMoreWrongFalsely : Prop := fnBucketOfMoreRow.holds Try.pinned (OpenSpec.ofChange fnBucketOfMoreWrong)

/-- 'laws.FnBucketOfOwn': WHATEVER THE INPUT: true; the input reads as it did. -/
def fnBucketOfOwnSpec : ChangeSpec := { name := "fnBucketOfOwn", fn := fun _ => fun
  | [d] => { results := [.lit (.bool true)], args := [d] }
  | _ => none }
def fnBucketOfOwnRow : OpenClaim := { program := "ytchblkeddeelhaa", sum := "bc8c8ed6a1835f35e34fe3166c4cdf46d72720807ff174ce4baf0d2bd27627a7", func := "loop.example/vectorstore/laws.FnBucketOfOwn", spec := "fnBucketOfOwn", unfollowed := true, recurses := true, apart := false }
def FnBucketOfOwnSaid : Prop := fnBucketOfOwnRow.holds Try.pinned (OpenSpec.ofChange fnBucketOfOwnSpec)

/-- ITS FALSE NEIGHBOUR: 'it returns false'. Refute it at one input. -/
def fnBucketOfOwnWrong : ChangeSpec := { name := "fnBucketOfOwn", fn := fun _ => fun
  | [d] => { results := [.lit (.bool false)], args := [d] }
  | _ => none }
def FnBucketOfOwnWrongFalsely : Prop := fnBucketOfOwnRow.holds Try.pinned (OpenSpec.ofChange fnBucketOfOwnWrong)

/-- 'laws.FnBucketOf': WHATEVER THE INPUT: true; the input reads as it did. -/
def fnBucketOfSpec : ChangeSpec := { name := "fnBucketOf", fn := fun _ => fun
  | [d] => { results := [.lit (.bool true)], args := [d] }
  | _ => none }
def fnBucketOfRow : OpenClaim := { program := "ytchblkeddeelhaa", sum := "bc8c8ed6a1835f35e34fe3166c4cdf46d72720807ff174ce4baf0d2bd27627a7", func := "loop.example/vectorstore/laws.FnBucketOf", spec := "fnBucketOf", unfollowed := true, recurses := true, apart := false }
def FnBucketOfSaid : Prop := fnBucketOfRow.holds Try.pinned (OpenSpec.ofChange fnBucketOfSpec)

/-- ITS FALSE NEIGHBOUR: 'it returns false'. Refute it at one input. -/
def fnBucketOfWrong : ChangeSpec := { name := "fnBucketOf", fn := fun _ => fun
  | [d] => { results := [.lit (.bool false)], args := [d] }
  | _ => none }
def FnBucketOfWrongFalsely : Prop := fnBucketOfRow.holds Try.pinned (OpenSpec.ofChange fnBucketOfWrong)

/- THE SECOND FORM. 'bulk': how many values and letters a reading holds, each counted each time it is reached (what is shared counts as often as it is met; a slice's spare places count too). A statement '..UptoSaid' is the law's where the arguments, and the package variables that the reading takes, are together of bulk at most 1048576: NARROWER than '..Said'. Prove '..Said' where nothing that the law and all that it calls make is longer than what came in: it says more and counts as full. Else prove '..UptoSaid'. A law counts once. -/
mutual
def uptoBulk {H : Type} : DataW H → Nat
  | .lit (.string bytes) => bytes.length + 1
  | .lit _ => 1
  | .nil => 1
  | .ptr d => uptoBulk d + 1
  | .slice elems spare => uptoBulkAll elems + uptoBulkAll spare + 1
  | .agg parts => uptoBulkAll parts + 1
  | .iface _ d => uptoBulk d + 1
  | .map entries => uptoBulkEntries entries + 1
  | .held _ => 1
def uptoBulkAll {H : Type} : List (DataW H) → Nat
  | [] => 0
  | d :: r => uptoBulk d + uptoBulkAll r
def uptoBulkEntries {H : Type} : List (Lit × DataW H) → Nat
  | [] => 0
  | x :: r => uptoBulkEntry x + uptoBulkEntries r
def uptoBulkEntry {H : Type} : Lit × DataW H → Nat
  | (.string bytes, d) => bytes.length + uptoBulk d + 1
  | (_, d) => uptoBulk d + 1
 end
def uptoSmall : (H : Type) → List (DataW H) → Bool := fun _ ds => decide (uptoBulkAll ds ≤ 1048576)
def OpenSpec.upto (s : _root_.Go.ChangeSpec) : _root_.Go.OpenSpec := { _root_.Go.OpenSpec.ofChange s with cond := some uptoSmall }

/-- 'laws.FnExactFilterStore', WHERE WHAT IT READS IS OF BULK AT MOST 1048576: true; the input reads as it did. -/
def fnExactFilterStoreUptoRow : OpenClaim := { program := "ytchblkeddeelhaa", sum := "bc8c8ed6a1835f35e34fe3166c4cdf46d72720807ff174ce4baf0d2bd27627a7", func := "loop.example/vectorstore/laws.FnExactFilterStore", spec := "fnExactFilterStore", apart := false, narrowed := true }
def FnExactFilterStoreUptoSaid : Prop := fnExactFilterStoreUptoRow.holds Try.pinned (OpenSpec.upto fnExactFilterStoreSpec)

/-- 'laws.FnFilterStoreTwice', WHERE WHAT IT READS IS OF BULK AT MOST 1048576: true; the input reads as it did. -/
def fnFilterStoreTwiceUptoRow : OpenClaim := { program := "ytchblkeddeelhaa", sum := "bc8c8ed6a1835f35e34fe3166c4cdf46d72720807ff174ce4baf0d2bd27627a7", func := "loop.example/vectorstore/laws.FnFilterStoreTwice", spec := "fnFilterStoreTwice", apart := false, narrowed := true }
def FnFilterStoreTwiceUptoSaid : Prop := fnFilterStoreTwiceUptoRow.holds Try.pinned (OpenSpec.upto fnFilterStoreTwiceSpec)

/-- 'laws.FnFilterStore', WHERE WHAT IT READS IS OF BULK AT MOST 1048576: true; the input reads as it did. -/
def fnFilterStoreUptoRow : OpenClaim := { program := "ytchblkeddeelhaa", sum := "bc8c8ed6a1835f35e34fe3166c4cdf46d72720807ff174ce4baf0d2bd27627a7", func := "loop.example/vectorstore/laws.FnFilterStore", spec := "fnFilterStore", apart := false, narrowed := true }
def FnFilterStoreUptoSaid : Prop := fnFilterStoreUptoRow.holds Try.pinned (OpenSpec.upto fnFilterStoreSpec)

/-- 'laws.FnFilterStoreBoth', WHERE WHAT IT READS IS OF BULK AT MOST 1048576: true; the input reads as it did. -/
def fnFilterStoreBothUptoRow : OpenClaim := { program := "ytchblkeddeelhaa", sum := "bc8c8ed6a1835f35e34fe3166c4cdf46d72720807ff174ce4baf0d2bd27627a7", func := "loop.example/vectorstore/laws.FnFilterStoreBoth", spec := "fnFilterStoreBoth", apart := false, narrowed := true }
def FnFilterStoreBothUptoSaid : Prop := fnFilterStoreBothUptoRow.holds Try.pinned (OpenSpec.upto fnFilterStoreBothSpec)

/-- 'laws.FnHashOfOpposite', WHERE WHAT IT READS IS OF BULK AT MOST 1048576: true; the input reads as it did. -/
def fnHashOfOppositeUptoRow : OpenClaim := { program := "ytchblkeddeelhaa", sum := "bc8c8ed6a1835f35e34fe3166c4cdf46d72720807ff174ce4baf0d2bd27627a7", func := "loop.example/vectorstore/laws.FnHashOfOpposite", spec := "fnHashOfOpposite", unfollowed := true, recurses := true, apart := false, narrowed := true }
def FnHashOfOppositeUptoSaid : Prop := fnHashOfOppositeUptoRow.holds Try.pinned (OpenSpec.upto fnHashOfOppositeSpec)

/-- 'laws.FnExactBucketOf', WHERE WHAT IT READS IS OF BULK AT MOST 1048576: true; the input reads as it did. -/
def fnExactBucketOfUptoRow : OpenClaim := { program := "ytchblkeddeelhaa", sum := "bc8c8ed6a1835f35e34fe3166c4cdf46d72720807ff174ce4baf0d2bd27627a7", func := "loop.example/vectorstore/laws.FnExactBucketOf", spec := "fnExactBucketOf", unfollowed := true, recurses := true, apart := false, narrowed := true }
def FnExactBucketOfUptoSaid : Prop := fnExactBucketOfUptoRow.holds Try.pinned (OpenSpec.upto fnExactBucketOfSpec)

/-- 'laws.FnBucketOfMore', WHERE WHAT IT READS IS OF BULK AT MOST 1048576: true; the input reads as it did. -/
def fnBucketOfMoreUptoRow : OpenClaim := { program := "ytchblkeddeelhaa", sum := "bc8c8ed6a1835f35e34fe3166c4cdf46d72720807ff174ce4baf0d2bd27627a7", func := "loop.example/vectorstore/laws.FnBucketOfMore", spec := "fnBucketOfMore", unfollowed := true, recurses := true, apart := false, narrowed := true }
def FnBucketOfMoreUptoSaid : Prop := fnBucketOfMoreUptoRow.holds Try.pinned (OpenSpec.upto fnBucketOfMoreSpec)

/-- 'laws.FnBucketOfOwn', WHERE WHAT IT READS IS OF BULK AT MOST 1048576: true; the input reads as it did. -/
def fnBucketOfOwnUptoRow : OpenClaim := { program := "ytchblkeddeelhaa", sum := "bc8c8ed6a1835f35e34fe3166c4cdf46d72720807ff174ce4baf0d2bd27627a7", func := "loop.example/vectorstore/laws.FnBucketOfOwn", spec := "fnBucketOfOwn", unfollowed := true, recurses := true, apart := false, narrowed := true }
def FnBucketOfOwnUptoSaid : Prop := fnBucketOfOwnUptoRow.holds Try.pinned (OpenSpec.upto fnBucketOfOwnSpec)

/-- 'laws.FnBucketOf', WHERE WHAT IT READS IS OF BULK AT MOST 1048576: true; the input reads as it did. -/
def fnBucketOfUptoRow : OpenClaim := { program := "ytchblkeddeelhaa", sum := "bc8c8ed6a1835f35e34fe3166c4cdf46d72720807ff174ce4baf0d2bd27627a7", func := "loop.example/vectorstore/laws.FnBucketOf", spec := "fnBucketOf", unfollowed := true, recurses := true, apart := false, narrowed := true }
def FnBucketOfUptoSaid : Prop := fnBucketOfUptoRow.holds Try.pinned (OpenSpec.upto fnBucketOfSpec)

end Rows
end Go.Proofs.Ytchblkeddeelhaa
