/-
  No cell of these rows narrows 'for every input' (looked for: loops, veiled, ifaces, maps, wideKeys, modest, calm, conditions, laid).
  DERIVED. THE GIVEN ROWS OF THIS SEAT. 8 by the template 'for every input the law returns true; each argument reads behind the call as it read before'; 0 by the template 'total and deterministic' (their statements: YthbakgblchhooaaTotals.lean).
  GIVEN WITH THE SEED: the statements are not yours to turn. If you find one false, say at which input.
  Laid BY PROGRAM, IN A SANDBOX (cutbox-rows.mjs): the forced cells as the released guide's own fill.sh prints them over the translation 5af9ae73886c4ad3… (all of the seat's roots in one cut). By AI agents, Wed Nov 11 2026. No macro, syntax, notation, axiom, sorry.
-/
import Derived.Test.YthbakgblchhooaaChecked
import GoSem.Claim
import GoSem.ClaimJoined
import GoSem.ClaimMapViews
import Derived.JoinedTies
import Derived.KernelRfl
namespace Go.Proofs.Ythbakgblchhooaa
/- THE CELL 'sum', in the pinned program and in every row, IS THE sha256 OF THE DUMP (.gsa) THAT YthbakgblchhooaaProg.lean LOADS. Nothing in Lean hashes anything: it is a label: what it is worth is what the hold of that sum in a sandbox is worth. -/
noncomputable def Try.pinned : Pinned := { name := "ythbakgblchhooaa", sum := "5af9ae73886c4ad3b829489336556b68d8f9e86cecae80a94b7eee0ad150c7bf", checked := Try.checked }
namespace Rows
def none {H : Type} : Left H := { results := [], args := [] }

/-- 'laws.FnExactValidHits': WHATEVER THE INPUT: true; the input reads as it did. -/
def fnExactValidHitsSpec : ChangeSpec := { name := "fnExactValidHits", fn := fun _ => fun
  | [d] => { results := [.lit (.bool true)], args := [d] }
  | _ => none }
def fnExactValidHitsRow : OpenClaim := { program := "ythbakgblchhooaa", sum := "5af9ae73886c4ad3b829489336556b68d8f9e86cecae80a94b7eee0ad150c7bf", func := "loop.example/vectorstore/laws.FnExactValidHits", spec := "fnExactValidHits", unfollowed := true, recurses := true, apart := false }
def FnExactValidHitsSaid : Prop := fnExactValidHitsRow.holds Try.pinned (OpenSpec.ofChange fnExactValidHitsSpec)

/-- ITS FALSE NEIGHBOUR: 'it returns false'. Refute it at one input. -/
def fnExactValidHitsWrong : ChangeSpec := { name := "fnExactValidHits", fn := fun _ => fun
  | [d] => { results := [.lit (.bool false)], args := [d] }
  | _ => none }
def FnExactValidHitsWrongFalsely : Prop := fnExactValidHitsRow.holds Try.pinned (OpenSpec.ofChange fnExactValidHitsWrong)

/-- 'laws.FnExactRankScore': WHATEVER THE INPUT: true; the input reads as it did. -/
def fnExactRankScoreSpec : ChangeSpec := { name := "fnExactRankScore", fn := fun _ => fun
  | [d1, d2] => { results := [.lit (.bool true)], args := [d1, d2] }
  | _ => none }
def fnExactRankScoreRow : OpenClaim := { program := "ythbakgblchhooaa", sum := "5af9ae73886c4ad3b829489336556b68d8f9e86cecae80a94b7eee0ad150c7bf", func := "loop.example/vectorstore/laws.FnExactRankScore", spec := "fnExactRankScore", unfollowed := true, recurses := true, apart := false }
def FnExactRankScoreSaid : Prop := fnExactRankScoreRow.holds Try.pinned (OpenSpec.ofChange fnExactRankScoreSpec)

/-- ITS FALSE NEIGHBOUR: 'it returns false'. Refute it at one input. -/
def fnExactRankScoreWrong : ChangeSpec := { name := "fnExactRankScore", fn := fun _ => fun
  | [d1, d2] => { results := [.lit (.bool false)], args := [d1, d2] }
  | _ => none }
def FnExactRankScoreWrongFalsely : Prop := fnExactRankScoreRow.holds Try.pinned (OpenSpec.ofChange fnExactRankScoreWrong)

/-- 'laws.FnExactRecallOf': WHATEVER THE INPUT: true; the input reads as it did. -/
def fnExactRecallOfSpec : ChangeSpec := { name := "fnExactRecallOf", fn := fun _ => fun
  | [d1, d2] => { results := [.lit (.bool true)], args := [d1, d2] }
  | _ => none }
def fnExactRecallOfRow : OpenClaim := { program := "ythbakgblchhooaa", sum := "5af9ae73886c4ad3b829489336556b68d8f9e86cecae80a94b7eee0ad150c7bf", func := "loop.example/vectorstore/laws.FnExactRecallOf", spec := "fnExactRecallOf", unfollowed := true, recurses := true, apart := false }
def FnExactRecallOfSaid : Prop := fnExactRecallOfRow.holds Try.pinned (OpenSpec.ofChange fnExactRecallOfSpec)

/-- ITS FALSE NEIGHBOUR: 'it returns false'. Refute it at one input. -/
def fnExactRecallOfWrong : ChangeSpec := { name := "fnExactRecallOf", fn := fun _ => fun
  | [d1, d2] => { results := [.lit (.bool false)], args := [d1, d2] }
  | _ => none }
def FnExactRecallOfWrongFalsely : Prop := fnExactRecallOfRow.holds Try.pinned (OpenSpec.ofChange fnExactRecallOfWrong)

/-- 'laws.FnValidHits': WHATEVER THE INPUT: true; the input reads as it did. -/
def fnValidHitsSpec : ChangeSpec := { name := "fnValidHits", fn := fun _ => fun
  | [d] => { results := [.lit (.bool true)], args := [d] }
  | _ => none }
def fnValidHitsRow : OpenClaim := { program := "ythbakgblchhooaa", sum := "5af9ae73886c4ad3b829489336556b68d8f9e86cecae80a94b7eee0ad150c7bf", func := "loop.example/vectorstore/laws.FnValidHits", spec := "fnValidHits", unfollowed := true, recurses := true, apart := false }
def FnValidHitsSaid : Prop := fnValidHitsRow.holds Try.pinned (OpenSpec.ofChange fnValidHitsSpec)

/-- ITS FALSE NEIGHBOUR: 'it returns false'. Refute it at one input. -/
def fnValidHitsWrong : ChangeSpec := { name := "fnValidHits", fn := fun _ => fun
  | [d] => { results := [.lit (.bool false)], args := [d] }
  | _ => none }
def FnValidHitsWrongFalsely : Prop := fnValidHitsRow.holds Try.pinned (OpenSpec.ofChange fnValidHitsWrong)

/-- 'laws.FnRecallOf': WHATEVER THE INPUT: true; the input reads as it did. -/
def fnRecallOfSpec : ChangeSpec := { name := "fnRecallOf", fn := fun _ => fun
  | [d] => { results := [.lit (.bool true)], args := [d] }
  | _ => none }
def fnRecallOfRow : OpenClaim := { program := "ythbakgblchhooaa", sum := "5af9ae73886c4ad3b829489336556b68d8f9e86cecae80a94b7eee0ad150c7bf", func := "loop.example/vectorstore/laws.FnRecallOf", spec := "fnRecallOf", unfollowed := true, recurses := true, apart := false }
def FnRecallOfSaid : Prop := fnRecallOfRow.holds Try.pinned (OpenSpec.ofChange fnRecallOfSpec)

/-- ITS FALSE NEIGHBOUR: 'it returns false'. Refute it at one input. -/
def fnRecallOfWrong : ChangeSpec := { name := "fnRecallOf", fn := fun _ => fun
  | [d] => { results := [.lit (.bool false)], args := [d] }
  | _ => none }
def FnRecallOfWrongFalsely : Prop := fnRecallOfRow.holds Try.pinned (OpenSpec.ofChange fnRecallOfWrong)

/-- 'laws.FnRecallOfPart': WHATEVER THE INPUT: true; the input reads as it did. -/
def fnRecallOfPartSpec : ChangeSpec := { name := "fnRecallOfPart", fn := fun _ => fun
  | [d] => { results := [.lit (.bool true)], args := [d] }
  | _ => none }
def fnRecallOfPartRow : OpenClaim := { program := "ythbakgblchhooaa", sum := "5af9ae73886c4ad3b829489336556b68d8f9e86cecae80a94b7eee0ad150c7bf", func := "loop.example/vectorstore/laws.FnRecallOfPart", spec := "fnRecallOfPart", unfollowed := true, recurses := true, apart := false }
def FnRecallOfPartSaid : Prop := fnRecallOfPartRow.holds Try.pinned (OpenSpec.ofChange fnRecallOfPartSpec)

/-- ITS FALSE NEIGHBOUR: 'it returns false'. Refute it at one input. -/
def fnRecallOfPartWrong : ChangeSpec := { name := "fnRecallOfPart", fn := fun _ => fun
  | [d] => { results := [.lit (.bool false)], args := [d] }
  | _ => none }
def FnRecallOfPartWrongFalsely : Prop := fnRecallOfPartRow.holds Try.pinned (OpenSpec.ofChange fnRecallOfPartWrong)

/-- 'laws.FnRankScore': WHATEVER THE INPUT: true; the input reads as it did. -/
def fnRankScoreSpec : ChangeSpec := { name := "fnRankScore", fn := fun _ => fun
  | [d] => { results := [.lit (.bool true)], args := [d] }
  | _ => none }
def fnRankScoreRow : OpenClaim := { program := "ythbakgblchhooaa", sum := "5af9ae73886c4ad3b829489336556b68d8f9e86cecae80a94b7eee0ad150c7bf", func := "loop.example/vectorstore/laws.FnRankScore", spec := "fnRankScore", unfollowed := true, recurses := true, apart := false }
def FnRankScoreSaid : Prop := fnRankScoreRow.holds Try.pinned (OpenSpec.ofChange fnRankScoreSpec)

/-- ITS FALSE NEIGHBOUR: 'it returns false'. Refute it at one input. -/
def fnRankScoreWrong : ChangeSpec := { name := "fnRankScore", fn := fun _ => fun
  | [d] => { results := [.lit (.bool false)], args := [d] }
  | _ => none }
def FnRankScoreWrongFalsely : Prop := fnRankScoreRow.holds Try.pinned (OpenSpec.ofChange fnRankScoreWrong)

/-- 'laws.FnRankScoreFirst': WHATEVER THE INPUT: true; the input reads as it did. -/
def fnRankScoreFirstSpec : ChangeSpec := { name := "fnRankScoreFirst", fn := fun _ => fun
  | [d] => { results := [.lit (.bool true)], args := [d] }
  | _ => none }
def fnRankScoreFirstRow : OpenClaim := { program := "ythbakgblchhooaa", sum := "5af9ae73886c4ad3b829489336556b68d8f9e86cecae80a94b7eee0ad150c7bf", func := "loop.example/vectorstore/laws.FnRankScoreFirst", spec := "fnRankScoreFirst", unfollowed := true, recurses := true, apart := false }
def FnRankScoreFirstSaid : Prop := fnRankScoreFirstRow.holds Try.pinned (OpenSpec.ofChange fnRankScoreFirstSpec)

/-- ITS FALSE NEIGHBOUR: 'it returns false'. Refute it at one input. -/
def fnRankScoreFirstWrong : ChangeSpec := { name := "fnRankScoreFirst", fn := fun _ => fun
  | [d] => { results := [.lit (.bool false)], args := [d] }
  | _ => none }
def FnRankScoreFirstWrongFalsely : Prop := fnRankScoreFirstRow.holds Try.pinned (OpenSpec.ofChange fnRankScoreFirstWrong)

/- THE SECOND FORM. 'bulk': how many values and letters a reading holds, each counted each time it is reached (what is shared counts as often as it is met; a slice's spare places count too). A statement '..UptoSaid' is the law's where the arguments, and the package variables that the reading takes, are together of bulk at most 1048576: NARROWER than '..Said'. Prove '..Said' where nothing that the law and all that it calls make is longer than what came in: it says more and counts as full. Else prove '..UptoSaid'. A law counts once. -/
mutual
def uptoBulk {H : Type} : DataW H → Nat
  | .lit (.string bytes) => bytes.length + 1
  | .lit _ => 1
  | .nil => 1
  | .ptr d => uptoBulk d + 1
  | .slice elems spare => uptoBulkAll elems + uptoBulkAll spare + 1
  | .agg parts => uptoBulkAll parts + 1
  | .iface _ d => uptoBulk d + 1
  | .map entries => uptoBulkEntries entries + 1
  | .held _ => 1
def uptoBulkAll {H : Type} : List (DataW H) → Nat
  | [] => 0
  | d :: r => uptoBulk d + uptoBulkAll r
def uptoBulkEntries {H : Type} : List (Lit × DataW H) → Nat
  | [] => 0
  | x :: r => uptoBulkEntry x + uptoBulkEntries r
def uptoBulkEntry {H : Type} : Lit × DataW H → Nat
  | (.string bytes, d) => bytes.length + uptoBulk d + 1
  | (_, d) => uptoBulk d + 1
 end
def uptoSmall : (H : Type) → List (DataW H) → Bool := fun _ ds => decide (uptoBulkAll ds ≤ 1048576)
def OpenSpec.upto (s : _root_.Go.ChangeSpec) : _root_.Go.OpenSpec := { _root_.Go.OpenSpec.ofChange s with cond := some uptoSmall }

/-- 'laws.FnExactValidHits', WHERE WHAT IT READS IS OF BULK AT MOST 1048576: true; the input reads as it did. -/
def fnExactValidHitsUptoRow : OpenClaim := { program := "ythbakgblchhooaa", sum := "5af9ae73886c4ad3b829489336556b68d8f9e86cecae80a94b7eee0ad150c7bf", func := "loop.example/vectorstore/laws.FnExactValidHits", spec := "fnExactValidHits", unfollowed := true, recurses := true, apart := false, narrowed := true }
def FnExactValidHitsUptoSaid : Prop := fnExactValidHitsUptoRow.holds Try.pinned (OpenSpec.upto fnExactValidHitsSpec)

/-- 'laws.FnExactRankScore', WHERE WHAT IT READS IS OF BULK AT MOST 1048576: true; the input reads as it did. -/
def fnExactRankScoreUptoRow : OpenClaim := { program := "ythbakgblchhooaa", sum := "5af9ae73886c4ad3b829489336556b68d8f9e86cecae80a94b7eee0ad150c7bf", func := "loop.example/vectorstore/laws.FnExactRankScore", spec := "fnExactRankScore", unfollowed := true, recurses := true, apart := false, narrowed := true }
def FnExactRankScoreUptoSaid : Prop := fnExactRankScoreUptoRow.holds Try.pinned (OpenSpec.upto fnExactRankScoreSpec)

/-- 'laws.FnExactRecallOf', WHERE WHAT IT READS IS OF BULK AT MOST 1048576: true; the input reads as it did. -/
def fnExactRecallOfUptoRow : OpenClaim := { program := "ythbakgblchhooaa", sum := "5af9ae73886c4ad3b829489336556b68d8f9e86cecae80a94b7eee0ad150c7bf", func := "loop.example/vectorstore/laws.FnExactRecallOf", spec := "fnExactRecallOf", unfollowed := true, recurses := true, apart := false, narrowed := true }
def FnExactRecallOfUptoSaid : Prop := fnExactRecallOfUptoRow.holds Try.pinned (OpenSpec.upto fnExactRecallOfSpec)

/-- 'laws.FnValidHits', WHERE WHAT IT READS IS OF BULK AT MOST 1048576: true; the input reads as it did. -/
def fnValidHitsUptoRow : OpenClaim := { program := "ythbakgblchhooaa", sum := "5af9ae73886c4ad3b829489336556b68d8f9e86cecae80a94b7eee0ad150c7bf", func := "loop.example/vectorstore/laws.FnValidHits", spec := "fnValidHits", unfollowed := true, recurses := true, apart := false, narrowed := true }
def FnValidHitsUptoSaid : Prop := fnValidHitsUptoRow.holds Try.pinned (OpenSpec.upto fnValidHitsSpec)

/-- 'laws.FnRecallOf', WHERE WHAT IT READS IS OF BULK AT MOST 1048576: true; the input reads as it did. -/
def fnRecallOfUptoRow : OpenClaim := { program := "ythbakgblchhooaa", sum := "5af9ae73886c4ad3b829489336556b68d8f9e86cecae80a94b7eee0ad150c7bf", func := "loop.example/vectorstore/laws.FnRecallOf", spec := "fnRecallOf", unfollowed := true, recurses := true, apart := false, narrowed := true }
def FnRecallOfUptoSaid : Prop := fnRecallOfUptoRow.holds Try.pinned (OpenSpec.upto fnRecallOfSpec)

/-- 'laws.FnRecallOfPart', WHERE WHAT IT READS IS OF BULK AT MOST 1048576: true; the input reads as it did. -/
def fnRecallOfPartUptoRow : OpenClaim := { program := "ythbakgblchhooaa", sum := "5af9ae73886c4ad3b829489336556b68d8f9e86cecae80a94b7eee0ad150c7bf", func := "loop.example/vectorstore/laws.FnRecallOfPart", spec := "fnRecallOfPart", unfollowed := true, recurses := true, apart := false, narrowed := true }
def FnRecallOfPartUptoSaid : Prop := fnRecallOfPartUptoRow.holds Try.pinned (OpenSpec.upto fnRecallOfPartSpec)

/-- 'laws.FnRankScore', WHERE WHAT IT READS IS OF BULK AT MOST 1048576: true; the input reads as it did. -/
def fnRankScoreUptoRow : OpenClaim := { program := "ythbakgblchhooaa", sum := "5af9ae73886c4ad3b829489336556b68d8f9e86cecae80a94b7eee0ad150c7bf", func := "loop.example/vectorstore/laws.FnRankScore", spec := "fnRankScore", unfollowed := true, recurses := true, apart := false, narrowed := true }
def FnRankScoreUptoSaid : Prop := fnRankScoreUptoRow.holds Try.pinned (OpenSpec.upto fnRankScoreSpec)

/-- 'laws.FnRankScoreFirst', WHERE WHAT IT READS IS OF BULK AT MOST 1048576: true; the input reads as it did. -/
def fnRankScoreFirstUptoRow : OpenClaim := { program := "ythbakgblchhooaa", sum := "5af9ae73886c4ad3b829489336556b68d8f9e86cecae80a94b7eee0ad150c7bf", func := "loop.example/vectorstore/laws.FnRankScoreFirst", spec := "fnRankScoreFirst", unfollowed := true, recurses := true, apart := false, narrowed := true }
def FnRankScoreFirstUptoSaid : Prop := fnRankScoreFirstUptoRow.holds Try.pinned (OpenSpec.upto fnRankScoreFirstSpec)

end Rows
end Go.Proofs.Ythbakgblchhooaa
