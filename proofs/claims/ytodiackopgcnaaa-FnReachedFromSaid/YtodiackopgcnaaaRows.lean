/-
  No cell of these rows narrows 'for every input' (looked for: loops, veiled, ifaces, maps, wideKeys, modest, calm, conditions, laid).
  DERIVED. THE GIVEN ROWS OF THIS SEAT. 8 by the template 'for every input the law returns true; each argument reads behind the call as it read before'; 0 by the template 'total and deterministic' (their statements: YtodiackopgcnaaaTotals.lean).
  GIVEN WITH THE SEED: the statements are not yours to turn. If you find one false, say at which input.
  Laid BY PROGRAM, IN A SANDBOX (cutbox-rows.mjs): the forced cells as the released guide's own fill.sh prints them over the translation c1ab6d2c9fbd0f5d… (all of the seat's roots in one cut). By AI agents, Wed Nov 11 2026. No macro, syntax, notation, axiom, sorry.
-/
import Derived.Test.YtodiackopgcnaaaChecked
import GoSem.Claim
import GoSem.ClaimJoined
import GoSem.ClaimMapViews
import Derived.JoinedTies
import Derived.KernelRfl
namespace Go.Proofs.Ytodiackopgcnaaa
/- THE CELL 'sum', in the pinned program and in every row, IS THE sha256 OF THE DUMP (.gsa) THAT YtodiackopgcnaaaProg.lean LOADS. Nothing in Lean hashes anything: it is a label: what it is worth is what the hold of that sum in a sandbox is worth. -/
noncomputable def Try.pinned : Pinned := { name := "ytodiackopgcnaaa", sum := "c1ab6d2c9fbd0f5dcf98dcb0d6117f8e51f6342d50cbe876c8a300457f46a359", checked := Try.checked }
namespace Rows
def none {H : Type} : Left H := { results := [], args := [] }

/-- 'laws.FnReachedFromMore': WHATEVER THE INPUT: true; the input reads as it did. -/
def fnReachedFromMoreSpec : ChangeSpec := { name := "fnReachedFromMore", fn := fun _ => fun
  | [d] => { results := [.lit (.bool true)], args := [d] }
  | _ => none }
def fnReachedFromMoreRow : OpenClaim := { program := "ytodiackopgcnaaa", sum := "c1ab6d2c9fbd0f5dcf98dcb0d6117f8e51f6342d50cbe876c8a300457f46a359", func := "loop.example/vectorstore/laws.FnReachedFromMore", spec := "fnReachedFromMore", unfollowed := true, recurses := true, apart := false }
def FnReachedFromMoreSaid : Prop := fnReachedFromMoreRow.holds Try.pinned (OpenSpec.ofChange fnReachedFromMoreSpec)

/-- ITS FALSE NEIGHBOUR: 'it returns false'. Refute it at one input. -/
def fnReachedFromMoreWrong : ChangeSpec := { name := "fnReachedFromMore", fn := fun _ => fun
  | [d] => { results := [.lit (.bool false)], args := [d] }
  | _ => none }
def FnReachedFromMoreWrongFalsely : Prop := fnReachedFromMoreRow.holds Try.pinned (OpenSpec.ofChange fnReachedFromMoreWrong)

/-- 'laws.FnReachedFromClosed': WHATEVER THE INPUT: true; the input reads as it did. -/
def fnReachedFromClosedSpec : ChangeSpec := { name := "fnReachedFromClosed", fn := fun _ => fun
  | [d] => { results := [.lit (.bool true)], args := [d] }
  | _ => none }
def fnReachedFromClosedRow : OpenClaim := { program := "ytodiackopgcnaaa", sum := "c1ab6d2c9fbd0f5dcf98dcb0d6117f8e51f6342d50cbe876c8a300457f46a359", func := "loop.example/vectorstore/laws.FnReachedFromClosed", spec := "fnReachedFromClosed", unfollowed := true, recurses := true, apart := false }
def FnReachedFromClosedSaid : Prop := fnReachedFromClosedRow.holds Try.pinned (OpenSpec.ofChange fnReachedFromClosedSpec)

/-- ITS FALSE NEIGHBOUR: 'it returns false'. Refute it at one input. -/
def fnReachedFromClosedWrong : ChangeSpec := { name := "fnReachedFromClosed", fn := fun _ => fun
  | [d] => { results := [.lit (.bool false)], args := [d] }
  | _ => none }
def FnReachedFromClosedWrongFalsely : Prop := fnReachedFromClosedRow.holds Try.pinned (OpenSpec.ofChange fnReachedFromClosedWrong)

/-- 'laws.FnReachedFrom': WHATEVER THE INPUT: true; the input reads as it did. -/
def fnReachedFromSpec : ChangeSpec := { name := "fnReachedFrom", fn := fun _ => fun
  | [d] => { results := [.lit (.bool true)], args := [d] }
  | _ => none }
def fnReachedFromRow : OpenClaim := { program := "ytodiackopgcnaaa", sum := "c1ab6d2c9fbd0f5dcf98dcb0d6117f8e51f6342d50cbe876c8a300457f46a359", func := "loop.example/vectorstore/laws.FnReachedFrom", spec := "fnReachedFrom", unfollowed := true, recurses := true, apart := false }
def FnReachedFromSaid : Prop := fnReachedFromRow.holds Try.pinned (OpenSpec.ofChange fnReachedFromSpec)

/-- ITS FALSE NEIGHBOUR: 'it returns false'. Refute it at one input. -/
def fnReachedFromWrong : ChangeSpec := { name := "fnReachedFrom", fn := fun _ => fun
  | [d] => { results := [.lit (.bool false)], args := [d] }
  | _ => none }
def FnReachedFromWrongFalsely : Prop := fnReachedFromRow.holds Try.pinned (OpenSpec.ofChange fnReachedFromWrong)

/-- 'laws.FnExactLinksOf': WHATEVER THE INPUT: true; the input reads as it did. -/
def fnExactLinksOfSpec : ChangeSpec := { name := "fnExactLinksOf", fn := fun _ => fun
  | [d1, d2, d3] => { results := [.lit (.bool true)], args := [d1, d2, d3] }
  | _ => none }
def fnExactLinksOfRow : OpenClaim := { program := "ytodiackopgcnaaa", sum := "c1ab6d2c9fbd0f5dcf98dcb0d6117f8e51f6342d50cbe876c8a300457f46a359", func := "loop.example/vectorstore/laws.FnExactLinksOf", spec := "fnExactLinksOf", unfollowed := true, recurses := true, apart := false }
def FnExactLinksOfSaid : Prop := fnExactLinksOfRow.holds Try.pinned (OpenSpec.ofChange fnExactLinksOfSpec)

/-- ITS FALSE NEIGHBOUR: 'it returns false'. Refute it at one input. -/
def fnExactLinksOfWrong : ChangeSpec := { name := "fnExactLinksOf", fn := fun _ => fun
  | [d1, d2, d3] => { results := [.lit (.bool false)], args := [d1, d2, d3] }
  | _ => none }
def FnExactLinksOfWrongFalsely : Prop := fnExactLinksOfRow.holds Try.pinned (OpenSpec.ofChange fnExactLinksOfWrong)

/-- 'laws.FnLinksOfMore': WHATEVER THE INPUT: true; the input reads as it did. -/
def fnLinksOfMoreSpec : ChangeSpec := { name := "fnLinksOfMore", fn := fun _ => fun
  | [d] => { results := [.lit (.bool true)], args := [d] }
  | _ => none }
def fnLinksOfMoreRow : OpenClaim := { program := "ytodiackopgcnaaa", sum := "c1ab6d2c9fbd0f5dcf98dcb0d6117f8e51f6342d50cbe876c8a300457f46a359", func := "loop.example/vectorstore/laws.FnLinksOfMore", spec := "fnLinksOfMore", unfollowed := true, recurses := true, apart := false }
def FnLinksOfMoreSaid : Prop := fnLinksOfMoreRow.holds Try.pinned (OpenSpec.ofChange fnLinksOfMoreSpec)

/-- ITS FALSE NEIGHBOUR: 'it returns false'. Refute it at one input. -/
def fnLinksOfMoreWrong : ChangeSpec := { name := "fnLinksOfMore", fn := fun _ => fun
  | [d] => { results := [.lit (.bool false)], args := [d] }
  | _ => none }
def FnLinksOfMoreWrongFalsely : Prop := fnLinksOfMoreRow.holds Try.pinned (OpenSpec.ofChange fnLinksOfMoreWrong)

/-- 'laws.FnLinksOfCount': WHATEVER THE INPUT: true; the input reads as it did. -/
def fnLinksOfCountSpec : ChangeSpec := { name := "fnLinksOfCount", fn := fun _ => fun
  | [d] => { results := [.lit (.bool true)], args := [d] }
  | _ => none }
def fnLinksOfCountRow : OpenClaim := { program := "ytodiackopgcnaaa", sum := "c1ab6d2c9fbd0f5dcf98dcb0d6117f8e51f6342d50cbe876c8a300457f46a359", func := "loop.example/vectorstore/laws.FnLinksOfCount", spec := "fnLinksOfCount", unfollowed := true, recurses := true, apart := false }
def FnLinksOfCountSaid : Prop := fnLinksOfCountRow.holds Try.pinned (OpenSpec.ofChange fnLinksOfCountSpec)

/-- ITS FALSE NEIGHBOUR: 'it returns false'. Refute it at one input. -/
def fnLinksOfCountWrong : ChangeSpec := { name := "fnLinksOfCount", fn := fun _ => fun
  | [d] => { results := [.lit (.bool false)], args := [d] }
  | _ => none }
def FnLinksOfCountWrongFalsely : Prop := fnLinksOfCountRow.holds Try.pinned (OpenSpec.ofChange fnLinksOfCountWrong)

/-- 'laws.FnLinksOf': WHATEVER THE INPUT: true; the input reads as it did. -/
def fnLinksOfSpec : ChangeSpec := { name := "fnLinksOf", fn := fun _ => fun
  | [d] => { results := [.lit (.bool true)], args := [d] }
  | _ => none }
def fnLinksOfRow : OpenClaim := { program := "ytodiackopgcnaaa", sum := "c1ab6d2c9fbd0f5dcf98dcb0d6117f8e51f6342d50cbe876c8a300457f46a359", func := "loop.example/vectorstore/laws.FnLinksOf", spec := "fnLinksOf", unfollowed := true, recurses := true, apart := false }
def FnLinksOfSaid : Prop := fnLinksOfRow.holds Try.pinned (OpenSpec.ofChange fnLinksOfSpec)

/-- ITS FALSE NEIGHBOUR: 'it returns false'. Refute it at one input. -/
def fnLinksOfWrong : ChangeSpec := { name := "fnLinksOf", fn := fun _ => fun
  | [d] => { results := [.lit (.bool false)], args := [d] }
  | _ => none }
def FnLinksOfWrongFalsely : Prop := fnLinksOfRow.holds Try.pinned (OpenSpec.ofChange fnLinksOfWrong)

/-- 'laws.FnExactReachedFrom': WHATEVER THE INPUT: true; the input reads as it did. -/
def fnExactReachedFromSpec : ChangeSpec := { name := "fnExactReachedFrom", fn := fun _ => fun
  | [d1, d2, d3, d4] => { results := [.lit (.bool true)], args := [d1, d2, d3, d4] }
  | _ => none }
def fnExactReachedFromRow : OpenClaim := { program := "ytodiackopgcnaaa", sum := "c1ab6d2c9fbd0f5dcf98dcb0d6117f8e51f6342d50cbe876c8a300457f46a359", func := "loop.example/vectorstore/laws.FnExactReachedFrom", spec := "fnExactReachedFrom", unfollowed := true, recurses := true, apart := false }
def FnExactReachedFromSaid : Prop := fnExactReachedFromRow.holds Try.pinned (OpenSpec.ofChange fnExactReachedFromSpec)

/-- ITS FALSE NEIGHBOUR: 'it returns false'. Refute it at one input. -/
def fnExactReachedFromWrong : ChangeSpec := { name := "fnExactReachedFrom", fn := fun _ => fun
  | [d1, d2, d3, d4] => { results := [.lit (.bool false)], args := [d1, d2, d3, d4] }
  | _ => none }
def FnExactReachedFromWrongFalsely : Prop := fnExactReachedFromRow.holds Try.pinned (OpenSpec.ofChange fnExactReachedFromWrong)

/- THE SECOND FORM. 'bulk': how many values and letters a reading holds, each counted each time it is reached (what is shared counts as often as it is met; a slice's spare places count too). A statement '..UptoSaid' is the law's where the arguments, and the package variables that the reading takes, are together of bulk at most 1048576: NARROWER than '..Said'. Prove '..Said' where nothing that the law and all that it calls make is longer than what came in: it says more and counts as full. Else prove '..UptoSaid'. A law counts once. -/
mutual
def uptoBulk {H : Type} : DataW H → Nat
  | .lit (.string bytes) => bytes.length + 1
  | .lit _ => 1
  | .nil => 1
  | .ptr d => uptoBulk d + 1
  | .slice elems spare => uptoBulkAll elems + uptoBulkAll spare + 1
  | .agg parts => uptoBulkAll parts + 1
  | .iface _ d => uptoBulk d + 1
  | .map entries => uptoBulkEntries entries + 1
  | .held _ => 1
def uptoBulkAll {H : Type} : List (DataW H) → Nat
  | [] => 0
  | d :: r => uptoBulk d + uptoBulkAll r
def uptoBulkEntries {H : Type} : List (Lit × DataW H) → Nat
  | [] => 0
  | x :: r => uptoBulkEntry x + uptoBulkEntries r
def uptoBulkEntry {H : Type} : Lit × DataW H → Nat
  | (.string bytes, d) => bytes.length + uptoBulk d + 1
  | (_, d) => uptoBulk d + 1
 end
def uptoSmall : (H : Type) → List (DataW H) → Bool := fun _ ds => decide (uptoBulkAll ds ≤ 1048576)
def OpenSpec.upto (s : _root_.Go.ChangeSpec) : _root_.Go.OpenSpec := { _root_.Go.OpenSpec.ofChange s with cond := some uptoSmall }

/-- 'laws.FnReachedFromMore', WHERE WHAT IT READS IS OF BULK AT MOST 1048576: true; the input reads as it did. -/
def fnReachedFromMoreUptoRow : OpenClaim := { program := "ytodiackopgcnaaa", sum := "c1ab6d2c9fbd0f5dcf98dcb0d6117f8e51f6342d50cbe876c8a300457f46a359", func := "loop.example/vectorstore/laws.FnReachedFromMore", spec := "fnReachedFromMore", unfollowed := true, recurses := true, apart := false, narrowed := true }
def FnReachedFromMoreUptoSaid : Prop := fnReachedFromMoreUptoRow.holds Try.pinned (OpenSpec.upto fnReachedFromMoreSpec)

/-- 'laws.FnReachedFromClosed', WHERE WHAT IT READS IS OF BULK AT MOST 1048576: true; the input reads as it did. -/
def fnReachedFromClosedUptoRow : OpenClaim := { program := "ytodiackopgcnaaa", sum := "c1ab6d2c9fbd0f5dcf98dcb0d6117f8e51f6342d50cbe876c8a300457f46a359", func := "loop.example/vectorstore/laws.FnReachedFromClosed", spec := "fnReachedFromClosed", unfollowed := true, recurses := true, apart := false, narrowed := true }
def FnReachedFromClosedUptoSaid : Prop := fnReachedFromClosedUptoRow.holds Try.pinned (OpenSpec.upto fnReachedFromClosedSpec)

/-- 'laws.FnReachedFrom', WHERE WHAT IT READS IS OF BULK AT MOST 1048576: true; the input reads as it did. -/
def fnReachedFromUptoRow : OpenClaim := { program := "ytodiackopgcnaaa", sum := "c1ab6d2c9fbd0f5dcf98dcb0d6117f8e51f6342d50cbe876c8a300457f46a359", func := "loop.example/vectorstore/laws.FnReachedFrom", spec := "fnReachedFrom", unfollowed := true, recurses := true, apart := false, narrowed := true }
def FnReachedFromUptoSaid : Prop := fnReachedFromUptoRow.holds Try.pinned (OpenSpec.upto fnReachedFromSpec)

/-- 'laws.FnExactLinksOf', WHERE WHAT IT READS IS OF BULK AT MOST 1048576: true; the input reads as it did. -/
def fnExactLinksOfUptoRow : OpenClaim := { program := "ytodiackopgcnaaa", sum := "c1ab6d2c9fbd0f5dcf98dcb0d6117f8e51f6342d50cbe876c8a300457f46a359", func := "loop.example/vectorstore/laws.FnExactLinksOf", spec := "fnExactLinksOf", unfollowed := true, recurses := true, apart := false, narrowed := true }
def FnExactLinksOfUptoSaid : Prop := fnExactLinksOfUptoRow.holds Try.pinned (OpenSpec.upto fnExactLinksOfSpec)

/-- 'laws.FnLinksOfMore', WHERE WHAT IT READS IS OF BULK AT MOST 1048576: true; the input reads as it did. -/
def fnLinksOfMoreUptoRow : OpenClaim := { program := "ytodiackopgcnaaa", sum := "c1ab6d2c9fbd0f5dcf98dcb0d6117f8e51f6342d50cbe876c8a300457f46a359", func := "loop.example/vectorstore/laws.FnLinksOfMore", spec := "fnLinksOfMore", unfollowed := true, recurses := true, apart := false, narrowed := true }
def FnLinksOfMoreUptoSaid : Prop := fnLinksOfMoreUptoRow.holds Try.pinned (OpenSpec.upto fnLinksOfMoreSpec)

/-- 'laws.FnLinksOfCount', WHERE WHAT IT READS IS OF BULK AT MOST 1048576: true; the input reads as it did. -/
def fnLinksOfCountUptoRow : OpenClaim := { program := "ytodiackopgcnaaa", sum := "c1ab6d2c9fbd0f5dcf98dcb0d6117f8e51f6342d50cbe876c8a300457f46a359", func := "loop.example/vectorstore/laws.FnLinksOfCount", spec := "fnLinksOfCount", unfollowed := true, recurses := true, apart := false, narrowed := true }
def FnLinksOfCountUptoSaid : Prop := fnLinksOfCountUptoRow.holds Try.pinned (OpenSpec.upto fnLinksOfCountSpec)

/-- 'laws.FnLinksOf', WHERE WHAT IT READS IS OF BULK AT MOST 1048576: true; the input reads as it did. -/
def fnLinksOfUptoRow : OpenClaim := { program := "ytodiackopgcnaaa", sum := "c1ab6d2c9fbd0f5dcf98dcb0d6117f8e51f6342d50cbe876c8a300457f46a359", func := "loop.example/vectorstore/laws.FnLinksOf", spec := "fnLinksOf", unfollowed := true, recurses := true, apart := false, narrowed := true }
def FnLinksOfUptoSaid : Prop := fnLinksOfUptoRow.holds Try.pinned (OpenSpec.upto fnLinksOfSpec)

/-- 'laws.FnExactReachedFrom', WHERE WHAT IT READS IS OF BULK AT MOST 1048576: true; the input reads as it did. -/
def fnExactReachedFromUptoRow : OpenClaim := { program := "ytodiackopgcnaaa", sum := "c1ab6d2c9fbd0f5dcf98dcb0d6117f8e51f6342d50cbe876c8a300457f46a359", func := "loop.example/vectorstore/laws.FnExactReachedFrom", spec := "fnExactReachedFrom", unfollowed := true, recurses := true, apart := false, narrowed := true }
def FnExactReachedFromUptoSaid : Prop := fnExactReachedFromUptoRow.holds Try.pinned (OpenSpec.upto fnExactReachedFromSpec)

end Rows
end Go.Proofs.Ytodiackopgcnaaa
