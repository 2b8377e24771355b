/-
  No cell of these rows narrows 'for every input' (looked for: loops, veiled, ifaces, maps, wideKeys, modest, calm, conditions, laid).
  DERIVED. THE GIVEN ROWS OF THIS SEAT. 7 by the template 'for every input the law returns true; each argument reads behind the call as it read before'; 0 by the template 'total and deterministic' (their statements: YtofbjganahbekaaTotals.lean).
  GIVEN WITH THE SEED: the statements are not yours to turn. If you find one false, say at which input.
  Laid BY PROGRAM, IN A SANDBOX (cutbox-rows.mjs): the forced cells as the released guide's own fill.sh prints them over the translation d88506a10d97a342… (all of the seat's roots in one cut). By AI agents, Wed Nov 11 2026. No macro, syntax, notation, axiom, sorry.
-/
import Derived.Test.YtofbjganahbekaaChecked
import GoSem.Claim
import GoSem.ClaimJoined
import GoSem.ClaimMapViews
import Derived.JoinedTies
import Derived.KernelRfl
namespace Go.Proofs.Ytofbjganahbekaa
/- THE CELL 'sum', in the pinned program and in every row, IS THE sha256 OF THE DUMP (.gsa) THAT YtofbjganahbekaaProg.lean LOADS. Nothing in Lean hashes anything: it is a label: what it is worth is what the hold of that sum in a sandbox is worth. -/
noncomputable def Try.pinned : Pinned := { name := "ytofbjganahbekaa", sum := "d88506a10d97a3424fa7acab70421a790703caa99ff723a2348ab1ce272f9500", checked := Try.checked }
namespace Rows
def none {H : Type} : Left H := { results := [], args := [] }

/-- 'laws.FnExactMergeHits': WHATEVER THE INPUT: true; the input reads as it did. -/
def fnExactMergeHitsSpec : ChangeSpec := { name := "fnExactMergeHits", fn := fun _ => fun
  | [d1, d2, d3] => { results := [.lit (.bool true)], args := [d1, d2, d3] }
  | _ => none }
def fnExactMergeHitsRow : OpenClaim := { program := "ytofbjganahbekaa", sum := "d88506a10d97a3424fa7acab70421a790703caa99ff723a2348ab1ce272f9500", func := "loop.example/vectorstore/laws.FnExactMergeHits", spec := "fnExactMergeHits", unfollowed := true, recurses := true, apart := false }
def FnExactMergeHitsSaid : Prop := fnExactMergeHitsRow.holds Try.pinned (OpenSpec.ofChange fnExactMergeHitsSpec)

/-- ITS FALSE NEIGHBOUR: 'it returns false'. Refute it at one input. -/
def fnExactMergeHitsWrong : ChangeSpec := { name := "fnExactMergeHits", fn := fun _ => fun
  | [d1, d2, d3] => { results := [.lit (.bool false)], args := [d1, d2, d3] }
  | _ => none }
def FnExactMergeHitsWrongFalsely : Prop := fnExactMergeHitsRow.holds Try.pinned (OpenSpec.ofChange fnExactMergeHitsWrong)

/-- 'laws.FnExactFuseRanks': WHATEVER THE INPUT: true; the input reads as it did. -/
def fnExactFuseRanksSpec : ChangeSpec := { name := "fnExactFuseRanks", fn := fun _ => fun
  | [d1, d2] => { results := [.lit (.bool true)], args := [d1, d2] }
  | _ => none }
def fnExactFuseRanksRow : OpenClaim := { program := "ytofbjganahbekaa", sum := "d88506a10d97a3424fa7acab70421a790703caa99ff723a2348ab1ce272f9500", func := "loop.example/vectorstore/laws.FnExactFuseRanks", spec := "fnExactFuseRanks", unfollowed := true, recurses := true, apart := false }
def FnExactFuseRanksSaid : Prop := fnExactFuseRanksRow.holds Try.pinned (OpenSpec.ofChange fnExactFuseRanksSpec)

/-- ITS FALSE NEIGHBOUR: 'it returns false'. Refute it at one input. -/
def fnExactFuseRanksWrong : ChangeSpec := { name := "fnExactFuseRanks", fn := fun _ => fun
  | [d1, d2] => { results := [.lit (.bool false)], args := [d1, d2] }
  | _ => none }
def FnExactFuseRanksWrongFalsely : Prop := fnExactFuseRanksRow.holds Try.pinned (OpenSpec.ofChange fnExactFuseRanksWrong)

/-- 'laws.FnMergeHits': WHATEVER THE INPUT: true; the input reads as it did. -/
def fnMergeHitsSpec : ChangeSpec := { name := "fnMergeHits", fn := fun _ => fun
  | [d] => { results := [.lit (.bool true)], args := [d] }
  | _ => none }
def fnMergeHitsRow : OpenClaim := { program := "ytofbjganahbekaa", sum := "d88506a10d97a3424fa7acab70421a790703caa99ff723a2348ab1ce272f9500", func := "loop.example/vectorstore/laws.FnMergeHits", spec := "fnMergeHits", unfollowed := true, recurses := true, apart := false }
def FnMergeHitsSaid : Prop := fnMergeHitsRow.holds Try.pinned (OpenSpec.ofChange fnMergeHitsSpec)

/-- ITS FALSE NEIGHBOUR: 'it returns false'. Refute it at one input. -/
def fnMergeHitsWrong : ChangeSpec := { name := "fnMergeHits", fn := fun _ => fun
  | [d] => { results := [.lit (.bool false)], args := [d] }
  | _ => none }
def FnMergeHitsWrongFalsely : Prop := fnMergeHitsRow.holds Try.pinned (OpenSpec.ofChange fnMergeHitsWrong)

/-- 'laws.FnMergeHitsOrder': WHATEVER THE INPUT: true; the input reads as it did. -/
def fnMergeHitsOrderSpec : ChangeSpec := { name := "fnMergeHitsOrder", fn := fun _ => fun
  | [d] => { results := [.lit (.bool true)], args := [d] }
  | _ => none }
def fnMergeHitsOrderRow : OpenClaim := { program := "ytofbjganahbekaa", sum := "d88506a10d97a3424fa7acab70421a790703caa99ff723a2348ab1ce272f9500", func := "loop.example/vectorstore/laws.FnMergeHitsOrder", spec := "fnMergeHitsOrder", unfollowed := true, recurses := true, apart := false }
def FnMergeHitsOrderSaid : Prop := fnMergeHitsOrderRow.holds Try.pinned (OpenSpec.ofChange fnMergeHitsOrderSpec)

/-- ITS FALSE NEIGHBOUR: 'it returns false'. Refute it at one input. -/
def fnMergeHitsOrderWrong : ChangeSpec := { name := "fnMergeHitsOrder", fn := fun _ => fun
  | [d] => { results := [.lit (.bool false)], args := [d] }
  | _ => none }
def FnMergeHitsOrderWrongFalsely : Prop := fnMergeHitsOrderRow.holds Try.pinned (OpenSpec.ofChange fnMergeHitsOrderWrong)

/-- 'laws.FnMergeHitsThree': WHATEVER THE INPUT: true; the input reads as it did. -/
def fnMergeHitsThreeSpec : ChangeSpec := { name := "fnMergeHitsThree", fn := fun _ => fun
  | [d] => { results := [.lit (.bool true)], args := [d] }
  | _ => none }
def fnMergeHitsThreeRow : OpenClaim := { program := "ytofbjganahbekaa", sum := "d88506a10d97a3424fa7acab70421a790703caa99ff723a2348ab1ce272f9500", func := "loop.example/vectorstore/laws.FnMergeHitsThree", spec := "fnMergeHitsThree", unfollowed := true, recurses := true, apart := false }
def FnMergeHitsThreeSaid : Prop := fnMergeHitsThreeRow.holds Try.pinned (OpenSpec.ofChange fnMergeHitsThreeSpec)

/-- ITS FALSE NEIGHBOUR: 'it returns false'. Refute it at one input. -/
def fnMergeHitsThreeWrong : ChangeSpec := { name := "fnMergeHitsThree", fn := fun _ => fun
  | [d] => { results := [.lit (.bool false)], args := [d] }
  | _ => none }
def FnMergeHitsThreeWrongFalsely : Prop := fnMergeHitsThreeRow.holds Try.pinned (OpenSpec.ofChange fnMergeHitsThreeWrong)

/-- 'laws.FnFuseRanksSelf': WHATEVER THE INPUT: true; the input reads as it did. -/
def fnFuseRanksSelfSpec : ChangeSpec := { name := "fnFuseRanksSelf", fn := fun _ => fun
  | [d] => { results := [.lit (.bool true)], args := [d] }
  | _ => none }
def fnFuseRanksSelfRow : OpenClaim := { program := "ytofbjganahbekaa", sum := "d88506a10d97a3424fa7acab70421a790703caa99ff723a2348ab1ce272f9500", func := "loop.example/vectorstore/laws.FnFuseRanksSelf", spec := "fnFuseRanksSelf", unfollowed := true, recurses := true, apart := false }
def FnFuseRanksSelfSaid : Prop := fnFuseRanksSelfRow.holds Try.pinned (OpenSpec.ofChange fnFuseRanksSelfSpec)

/-- ITS FALSE NEIGHBOUR: 'it returns false'. Refute it at one input. -/
def fnFuseRanksSelfWrong : ChangeSpec := { name := "fnFuseRanksSelf", fn := fun _ => fun
  | [d] => { results := [.lit (.bool false)], args := [d] }
  | _ => none }
def FnFuseRanksSelfWrongFalsely : Prop := fnFuseRanksSelfRow.holds Try.pinned (OpenSpec.ofChange fnFuseRanksSelfWrong)

/-- 'laws.FnFuseRanks': WHATEVER THE INPUT: true; the input reads as it did. -/
def fnFuseRanksSpec : ChangeSpec := { name := "fnFuseRanks", fn := fun _ => fun
  | [d] => { results := [.lit (.bool true)], args := [d] }
  | _ => none }
def fnFuseRanksRow : OpenClaim := { program := "ytofbjganahbekaa", sum := "d88506a10d97a3424fa7acab70421a790703caa99ff723a2348ab1ce272f9500", func := "loop.example/vectorstore/laws.FnFuseRanks", spec := "fnFuseRanks", unfollowed := true, recurses := true, apart := false }
def FnFuseRanksSaid : Prop := fnFuseRanksRow.holds Try.pinned (OpenSpec.ofChange fnFuseRanksSpec)

/-- ITS FALSE NEIGHBOUR: 'it returns false'. Refute it at one input. -/
def fnFuseRanksWrong : ChangeSpec := { name := "fnFuseRanks", fn := fun _ => fun
  | [d] => { results := [.lit (.bool false)], args := [d] }
  | _ => none }
def FnFuseRanksWrongFalsely : Prop := fnFuseRanksRow.holds Try.pinned (OpenSpec.ofChange fnFuseRanksWrong)

/- THE SECOND FORM. 'bulk': how many values and letters a reading holds, each counted each time it is reached (what is shared counts as often as it is met; a slice's spare places count too). A statement '..UptoSaid' is the law's where the arguments, and the package variables that the reading takes, are together of bulk at most 1048576: NARROWER than '..Said'. Prove '..Said' where nothing that the law and all that it calls make is longer than what came in: it says more and counts as full. Else prove '..UptoSaid'. A law counts once. -/
mutual
def uptoBulk {H : Type} : DataW H → Nat
  | .lit (.string bytes) => bytes.length + 1
  | .lit _ => 1
  | .nil => 1
  | .ptr d => uptoBulk d + 1
  | .slice elems spare => uptoBulkAll elems + uptoBulkAll spare + 1
  | .agg parts => uptoBulkAll parts + 1
  | .iface _ d => uptoBulk d + 1
  | .map entries => uptoBulkEntries entries + 1
  | .held _ => 1
def uptoBulkAll {H : Type} : List (DataW H) → Nat
  | [] => 0
  | d :: r => uptoBulk d + uptoBulkAll r
def uptoBulkEntries {H : Type} : List (Lit × DataW H) → Nat
  | [] => 0
  | x :: r => uptoBulkEntry x + uptoBulkEntries r
def uptoBulkEntry {H : Type} : Lit × DataW H → Nat
  | (.string bytes, d) => bytes.length + uptoBulk d + 1
  | (_, d) => uptoBulk d + 1
 end
def uptoSmall : (H : Type) → List (DataW H) → Bool := fun _ ds => decide (uptoBulkAll ds ≤ 1048576)
def OpenSpec.upto (s : _root_.Go.ChangeSpec) : _root_.Go.OpenSpec := { _root_.Go.OpenSpec.ofChange s with cond := some uptoSmall }

/-- 'laws.FnExactMergeHits', WHERE WHAT IT READS IS OF BULK AT MOST 1048576: true; the input reads as it did. -/
def fnExactMergeHitsUptoRow : OpenClaim := { program := "ytofbjganahbekaa", sum := "d88506a10d97a3424fa7acab70421a790703caa99ff723a2348ab1ce272f9500", func := "loop.example/vectorstore/laws.FnExactMergeHits", spec := "fnExactMergeHits", unfollowed := true, recurses := true, apart := false, narrowed := true }
def FnExactMergeHitsUptoSaid : Prop := fnExactMergeHitsUptoRow.holds Try.pinned (OpenSpec.upto fnExactMergeHitsSpec)

/-- 'laws.FnExactFuseRanks', WHERE WHAT IT READS IS OF BULK AT MOST 1048576: true; the input reads as it did. -/
def fnExactFuseRanksUptoRow : OpenClaim := { program := "ytofbjganahbekaa", sum := "d88506a10d97a3424fa7acab70421a790703caa99ff723a2348ab1ce272f9500", func := "loop.example/vectorstore/laws.FnExactFuseRanks", spec := "fnExactFuseRanks", unfollowed := true, recurses := true, apart := false, narrowed := true }
def FnExactFuseRanksUptoSaid : Prop := fnExactFuseRanksUptoRow.holds Try.pinned (OpenSpec.upto fnExactFuseRanksSpec)

/-- 'laws.FnMergeHits', WHERE WHAT IT READS IS OF BULK AT MOST 1048576: true; the input reads as it did. -/
def fnMergeHitsUptoRow : OpenClaim := { program := "ytofbjganahbekaa", sum := "d88506a10d97a3424fa7acab70421a790703caa99ff723a2348ab1ce272f9500", func := "loop.example/vectorstore/laws.FnMergeHits", spec := "fnMergeHits", unfollowed := true, recurses := true, apart := false, narrowed := true }
def FnMergeHitsUptoSaid : Prop := fnMergeHitsUptoRow.holds Try.pinned (OpenSpec.upto fnMergeHitsSpec)

/-- 'laws.FnMergeHitsOrder', WHERE WHAT IT READS IS OF BULK AT MOST 1048576: true; the input reads as it did. -/
def fnMergeHitsOrderUptoRow : OpenClaim := { program := "ytofbjganahbekaa", sum := "d88506a10d97a3424fa7acab70421a790703caa99ff723a2348ab1ce272f9500", func := "loop.example/vectorstore/laws.FnMergeHitsOrder", spec := "fnMergeHitsOrder", unfollowed := true, recurses := true, apart := false, narrowed := true }
def FnMergeHitsOrderUptoSaid : Prop := fnMergeHitsOrderUptoRow.holds Try.pinned (OpenSpec.upto fnMergeHitsOrderSpec)

/-- 'laws.FnMergeHitsThree', WHERE WHAT IT READS IS OF BULK AT MOST 1048576: true; the input reads as it did. -/
def fnMergeHitsThreeUptoRow : OpenClaim := { program := "ytofbjganahbekaa", sum := "d88506a10d97a3424fa7acab70421a790703caa99ff723a2348ab1ce272f9500", func := "loop.example/vectorstore/laws.FnMergeHitsThree", spec := "fnMergeHitsThree", unfollowed := true, recurses := true, apart := false, narrowed := true }
def FnMergeHitsThreeUptoSaid : Prop := fnMergeHitsThreeUptoRow.holds Try.pinned (OpenSpec.upto fnMergeHitsThreeSpec)

/-- 'laws.FnFuseRanksSelf', WHERE WHAT IT READS IS OF BULK AT MOST 1048576: true; the input reads as it did. -/
def fnFuseRanksSelfUptoRow : OpenClaim := { program := "ytofbjganahbekaa", sum := "d88506a10d97a3424fa7acab70421a790703caa99ff723a2348ab1ce272f9500", func := "loop.example/vectorstore/laws.FnFuseRanksSelf", spec := "fnFuseRanksSelf", unfollowed := true, recurses := true, apart := false, narrowed := true }
def FnFuseRanksSelfUptoSaid : Prop := fnFuseRanksSelfUptoRow.holds Try.pinned (OpenSpec.upto fnFuseRanksSelfSpec)

/-- 'laws.FnFuseRanks', WHERE WHAT IT READS IS OF BULK AT MOST 1048576: true; the input reads as it did. -/
def fnFuseRanksUptoRow : OpenClaim := { program := "ytofbjganahbekaa", sum := "d88506a10d97a3424fa7acab70421a790703caa99ff723a2348ab1ce272f9500", func := "loop.example/vectorstore/laws.FnFuseRanks", spec := "fnFuseRanks", unfollowed := true, recurses := true, apart := false, narrowed := true }
def FnFuseRanksUptoSaid : Prop := fnFuseRanksUptoRow.holds Try.pinned (OpenSpec.upto fnFuseRanksSpec)

end Rows
end Go.Proofs.Ytofbjganahbekaa
