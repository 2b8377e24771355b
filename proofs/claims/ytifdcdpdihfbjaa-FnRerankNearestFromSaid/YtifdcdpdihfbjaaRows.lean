/-
  No cell of these rows narrows 'for every input' (looked for: loops, veiled, ifaces, maps, wideKeys, modest, calm, conditions, laid).
  DERIVED. THE GIVEN ROWS OF THIS SEAT. 5 by the template 'for every input the law returns true; each argument reads behind the call as it read before'; 0 by the template 'total and deterministic' (their statements: YtifdcdpdihfbjaaTotals.lean).
  GIVEN WITH THE SEED: the statements are not yours to turn. If you find one false, say at which input.
  Laid BY PROGRAM, IN A SANDBOX (cutbox-rows.mjs): the forced cells as the released guide's own fill.sh prints them over the translation 73e6578ba0790190… (all of the seat's roots in one cut). By AI agents, Wed Nov 11 2026. No macro, syntax, notation, axiom, sorry.
-/
import Derived.Test.YtifdcdpdihfbjaaChecked
import GoSem.Claim
import GoSem.ClaimJoined
import GoSem.ClaimMapViews
import Derived.JoinedTies
import Derived.KernelRfl
namespace Go.Proofs.Ytifdcdpdihfbjaa
/- THE CELL 'sum', in the pinned program and in every row, IS THE sha256 OF THE DUMP (.gsa) THAT YtifdcdpdihfbjaaProg.lean LOADS. Nothing in Lean hashes anything: it is a label: what it is worth is what the hold of that sum in a sandbox is worth. -/
noncomputable def Try.pinned : Pinned := { name := "ytifdcdpdihfbjaa", sum := "73e6578ba0790190491969e947331bd5ff14bef31866c6d169cba98933109a8e", checked := Try.checked }
namespace Rows
def none {H : Type} : Left H := { results := [], args := [] }

/-- 'laws.FnCodeNearest': WHATEVER THE INPUT: true; the input reads as it did. -/
def fnCodeNearestSpec : ChangeSpec := { name := "fnCodeNearest", fn := fun _ => fun
  | [d] => { results := [.lit (.bool true)], args := [d] }
  | _ => none }
def fnCodeNearestRow : OpenClaim := { program := "ytifdcdpdihfbjaa", sum := "73e6578ba0790190491969e947331bd5ff14bef31866c6d169cba98933109a8e", func := "loop.example/vectorstore/laws.FnCodeNearest", spec := "fnCodeNearest", unfollowed := true, recurses := true, apart := false }
def FnCodeNearestSaid : Prop := fnCodeNearestRow.holds Try.pinned (OpenSpec.ofChange fnCodeNearestSpec)

/-- ITS FALSE NEIGHBOUR: 'it returns false'. Refute it at one input. -/
def fnCodeNearestWrong : ChangeSpec := { name := "fnCodeNearest", fn := fun _ => fun
  | [d] => { results := [.lit (.bool false)], args := [d] }
  | _ => none }
def FnCodeNearestWrongFalsely : Prop := fnCodeNearestRow.holds Try.pinned (OpenSpec.ofChange fnCodeNearestWrong)

/-- 'laws.FnRerankNearestFrom': WHATEVER THE INPUT: true; the input reads as it did. -/
def fnRerankNearestFromSpec : ChangeSpec := { name := "fnRerankNearestFrom", fn := fun _ => fun
  | [d] => { results := [.lit (.bool true)], args := [d] }
  | _ => none }
def fnRerankNearestFromRow : OpenClaim := { program := "ytifdcdpdihfbjaa", sum := "73e6578ba0790190491969e947331bd5ff14bef31866c6d169cba98933109a8e", func := "loop.example/vectorstore/laws.FnRerankNearestFrom", spec := "fnRerankNearestFrom", unfollowed := true, recurses := true, apart := false }
def FnRerankNearestFromSaid : Prop := fnRerankNearestFromRow.holds Try.pinned (OpenSpec.ofChange fnRerankNearestFromSpec)

/-- ITS FALSE NEIGHBOUR: 'it returns false'. Refute it at one input. -/
def fnRerankNearestFromWrong : ChangeSpec := { name := "fnRerankNearestFrom", fn := fun _ => fun
  | [d] => { results := [.lit (.bool false)], args := [d] }
  | _ => none }
def FnRerankNearestFromWrongFalsely : Prop := fnRerankNearestFromRow.holds Try.pinned (OpenSpec.ofChange fnRerankNearestFromWrong)

/-- 'laws.FnExactHashNearest': WHATEVER THE INPUT: true; the input reads as it did. -/
def fnExactHashNearestSpec : ChangeSpec := { name := "fnExactHashNearest", fn := fun _ => fun
  | [d1, d2, d3, d4, d5] => { results := [.lit (.bool true)], args := [d1, d2, d3, d4, d5] }
  | _ => none }
def fnExactHashNearestRow : OpenClaim := { program := "ytifdcdpdihfbjaa", sum := "73e6578ba0790190491969e947331bd5ff14bef31866c6d169cba98933109a8e", func := "loop.example/vectorstore/laws.FnExactHashNearest", spec := "fnExactHashNearest", unfollowed := true, recurses := true, apart := false }
def FnExactHashNearestSaid : Prop := fnExactHashNearestRow.holds Try.pinned (OpenSpec.ofChange fnExactHashNearestSpec)

/-- ITS FALSE NEIGHBOUR: 'it returns false'. Refute it at one input. -/
def fnExactHashNearestWrong : ChangeSpec := { name := "fnExactHashNearest", fn := fun _ => fun
  | [d1, d2, d3, d4, d5] => { results := [.lit (.bool false)], args := [d1, d2, d3, d4, d5] }
  | _ => none }
def FnExactHashNearestWrongFalsely : Prop := fnExactHashNearestRow.holds Try.pinned (OpenSpec.ofChange fnExactHashNearestWrong)

/-- 'laws.FnHashNearestRecall': WHATEVER THE INPUT: true; the input reads as it did. -/
def fnHashNearestRecallSpec : ChangeSpec := { name := "fnHashNearestRecall", fn := fun _ => fun
  | [d] => { results := [.lit (.bool true)], args := [d] }
  | _ => none }
def fnHashNearestRecallRow : OpenClaim := { program := "ytifdcdpdihfbjaa", sum := "73e6578ba0790190491969e947331bd5ff14bef31866c6d169cba98933109a8e", func := "loop.example/vectorstore/laws.FnHashNearestRecall", spec := "fnHashNearestRecall", unfollowed := true, recurses := true, apart := false }
def FnHashNearestRecallSaid : Prop := fnHashNearestRecallRow.holds Try.pinned (OpenSpec.ofChange fnHashNearestRecallSpec)

/-- ITS FALSE NEIGHBOUR: 'it returns false'. Refute it at one input. -/
def fnHashNearestRecallWrong : ChangeSpec := { name := "fnHashNearestRecall", fn := fun _ => fun
  | [d] => { results := [.lit (.bool false)], args := [d] }
  | _ => none }
def FnHashNearestRecallWrongFalsely : Prop := fnHashNearestRecallRow.holds Try.pinned (OpenSpec.ofChange fnHashNearestRecallWrong)

/-- 'laws.FnHashNearest': WHATEVER THE INPUT: true; the input reads as it did. -/
def fnHashNearestSpec : ChangeSpec := { name := "fnHashNearest", fn := fun _ => fun
  | [d] => { results := [.lit (.bool true)], args := [d] }
  | _ => none }
def fnHashNearestRow : OpenClaim := { program := "ytifdcdpdihfbjaa", sum := "73e6578ba0790190491969e947331bd5ff14bef31866c6d169cba98933109a8e", func := "loop.example/vectorstore/laws.FnHashNearest", spec := "fnHashNearest", unfollowed := true, recurses := true, apart := false }
def FnHashNearestSaid : Prop := fnHashNearestRow.holds Try.pinned (OpenSpec.ofChange fnHashNearestSpec)

/-- ITS FALSE NEIGHBOUR: 'it returns false'. Refute it at one input. -/
def fnHashNearestWrong : ChangeSpec := { name := "fnHashNearest", fn := fun _ => fun
  | [d] => { results := [.lit (.bool false)], args := [d] }
  | _ => none }
def FnHashNearestWrongFalsely : Prop := fnHashNearestRow.holds Try.pinned (OpenSpec.ofChange fnHashNearestWrong)

/- THE SECOND FORM. 'bulk': how many values and letters a reading holds, each counted each time it is reached (what is shared counts as often as it is met; a slice's spare places count too). A statement '..UptoSaid' is the law's where the arguments, and the package variables that the reading takes, are together of bulk at most 1048576: NARROWER than '..Said'. Prove '..Said' where nothing that the law and all that it calls make is longer than what came in: it says more and counts as full. Else prove '..UptoSaid'. A law counts once. -/
mutual
def uptoBulk {H : Type} : DataW H → Nat
  | .lit (.string bytes) => bytes.length + 1
  | .lit _ => 1
  | .nil => 1
  | .ptr d => uptoBulk d + 1
  | .slice elems spare => uptoBulkAll elems + uptoBulkAll spare + 1
  | .agg parts => uptoBulkAll parts + 1
  | .iface _ d => uptoBulk d + 1
  | .map entries => uptoBulkEntries entries + 1
  | .held _ => 1
def uptoBulkAll {H : Type} : List (DataW H) → Nat
  | [] => 0
  | d :: r => uptoBulk d + uptoBulkAll r
def uptoBulkEntries {H : Type} : List (Lit × DataW H) → Nat
  | [] => 0
  | x :: r => uptoBulkEntry x + uptoBulkEntries r
def uptoBulkEntry {H : Type} : Lit × DataW H → Nat
  | (.string bytes, d) => bytes.length + uptoBulk d + 1
  | (_, d) => uptoBulk d + 1
 end
def uptoSmall : (H : Type) → List (DataW H) → Bool := fun _ ds => decide (uptoBulkAll ds ≤ 1048576)
def OpenSpec.upto (s : _root_.Go.ChangeSpec) : _root_.Go.OpenSpec := { _root_.Go.OpenSpec.ofChange s with cond := some uptoSmall }

/-- 'laws.FnCodeNearest', WHERE WHAT IT READS IS OF BULK AT MOST 1048576: true; the input reads as it did. -/
def fnCodeNearestUptoRow : OpenClaim := { program := "ytifdcdpdihfbjaa", sum := "73e6578ba0790190491969e947331bd5ff14bef31866c6d169cba98933109a8e", func := "loop.example/vectorstore/laws.FnCodeNearest", spec := "fnCodeNearest", unfollowed := true, recurses := true, apart := false, narrowed := true }
def FnCodeNearestUptoSaid : Prop := fnCodeNearestUptoRow.holds Try.pinned (OpenSpec.upto fnCodeNearestSpec)

/-- 'laws.FnRerankNearestFrom', WHERE WHAT IT READS IS OF BULK AT MOST 1048576: true; the input reads as it did. -/
def fnRerankNearestFromUptoRow : OpenClaim := { program := "ytifdcdpdihfbjaa", sum := "73e6578ba0790190491969e947331bd5ff14bef31866c6d169cba98933109a8e", func := "loop.example/vectorstore/laws.FnRerankNearestFrom", spec := "fnRerankNearestFrom", unfollowed := true, recurses := true, apart := false, narrowed := true }
def FnRerankNearestFromUptoSaid : Prop := fnRerankNearestFromUptoRow.holds Try.pinned (OpenSpec.upto fnRerankNearestFromSpec)

/-- 'laws.FnExactHashNearest', WHERE WHAT IT READS IS OF BULK AT MOST 1048576: true; the input reads as it did. -/
def fnExactHashNearestUptoRow : OpenClaim := { program := "ytifdcdpdihfbjaa", sum := "73e6578ba0790190491969e947331bd5ff14bef31866c6d169cba98933109a8e", func := "loop.example/vectorstore/laws.FnExactHashNearest", spec := "fnExactHashNearest", unfollowed := true, recurses := true, apart := false, narrowed := true }
def FnExactHashNearestUptoSaid : Prop := fnExactHashNearestUptoRow.holds Try.pinned (OpenSpec.upto fnExactHashNearestSpec)

/-- 'laws.FnHashNearestRecall', WHERE WHAT IT READS IS OF BULK AT MOST 1048576: true; the input reads as it did. -/
def fnHashNearestRecallUptoRow : OpenClaim := { program := "ytifdcdpdihfbjaa", sum := "73e6578ba0790190491969e947331bd5ff14bef31866c6d169cba98933109a8e", func := "loop.example/vectorstore/laws.FnHashNearestRecall", spec := "fnHashNearestRecall", unfollowed := true, recurses := true, apart := false, narrowed := true }
def FnHashNearestRecallUptoSaid : Prop := fnHashNearestRecallUptoRow.holds Try.pinned (OpenSpec.upto fnHashNearestRecallSpec)

/-- 'laws.FnHashNearest', WHERE WHAT IT READS IS OF BULK AT MOST 1048576: true; the input reads as it did. -/
def fnHashNearestUptoRow : OpenClaim := { program := "ytifdcdpdihfbjaa", sum := "73e6578ba0790190491969e947331bd5ff14bef31866c6d169cba98933109a8e", func := "loop.example/vectorstore/laws.FnHashNearest", spec := "fnHashNearest", unfollowed := true, recurses := true, apart := false, narrowed := true }
def FnHashNearestUptoSaid : Prop := fnHashNearestUptoRow.holds Try.pinned (OpenSpec.upto fnHashNearestSpec)

end Rows
end Go.Proofs.Ytifdcdpdihfbjaa
