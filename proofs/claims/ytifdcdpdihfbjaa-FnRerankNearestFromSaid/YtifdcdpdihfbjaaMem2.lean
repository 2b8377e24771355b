/- Blocks that are known whole: a variable, an array just made. -/
import Derived.Test.YtifdcdpdihfbjaaMem
namespace Go.Proofs.Ytifdcdpdihfbjaa
open Go.RowKit
set_option linter.unusedVariables false

/-- behind a step that writes the reader alone, where the reader is the call's own -/
theorem Chg.at_ {S : Nat → Prop} {a b c : World} {g : Nat} (h : Chg S a b) (k : Chg (At g) b c) (hg : a.heap.size ≤ g) : Chg S a c := h.trans k (fun i hi (e : i = g) => by omega)
/-- Block g is just these cells; nothing of it is frozen. -/
def Box (w : World) (g : Nat) (cs : List Value) : Prop := ∃ T, w.heap[g]? = some (.cells cs.toArray T (0, 0))
section
variable {S : Nat → Prop} {w w' : World} {g : Nat} {cs : List Value}
theorem Box.lt (h : Box w g cs) : g < w.heap.size := by
  obtain ⟨T, h⟩ := h
  exact (Array.getElem?_eq_some_iff.1 h).1
theorem Box.keep (h : Box w g cs) (hc : Chg S w w') (hs : ¬ S g) : Box w' g cs := by
  have := h.lt
  obtain ⟨T, h⟩ := h
  exact ⟨T, (hc.block g this hs).trans h⟩
theorem Box.no (h : Box w g cs) (hc : Chg No w w') : Box w' g cs := h.keep hc (fun e => e)
theorem Box.new (cs : List Value) (T : TypeId) (hg : g = w.heap.size) : Box (w.alloc (.cells cs.toArray T)) g cs := ⟨T, heap_top hg⟩
theorem Box.alloc (h : Box w g cs) (o : Obj) : Box (w.alloc o) g cs := h.no ((Chg.refl _ _).alloc _)
theorem Box.drew (h : Box w g cs) : Box w.drew g cs := h
theorem Box.drewN (h : Box w g cs) (n : Nat) : Box (w.drewN n) g cs := h
theorem Box.set_ (h : Box w g cs) (i : Nat) (u : Value) : Box (w.setCell ⟨g, i, none⟩ u) g (cs.set i u) := by
  obtain ⟨T, h⟩ := h
  refine ⟨T, ?_⟩
  simp [World.setCell, Array.getElem?_modify, h]
theorem Box.far (h : Box w g cs) {p : Addr} (hp : g ≠ p.block) (u : Value) : Box (w.setCell p u) g cs := by
  obtain ⟨T, h⟩ := h
  exact ⟨T, (Below.heap_setCell w p u g hp).trans h⟩
theorem Box.grown (h : Box w g cs) {row : Option Nat} (hg : w.grownBy w' row) (hne : row ≠ some g) : Box w' g cs := by
  obtain ⟨T, h⟩ := h
  exact ⟨T, (hg.block g (Array.getElem?_eq_some_iff.1 h).1 (fun e => hne e.symm)).trans h⟩
theorem Box.cell (h : Box w g cs) (i : Nat) : w.cell? ⟨g, i, none⟩ = cs[i]? := by
  obtain ⟨T, h⟩ := h
  rw [cell_of_row w g i _ T (0, 0) h]; simp
theorem Box.frozen (h : Box w g cs) (i : Nat) : w.frozen? ⟨g, i, none⟩ = false := by
  obtain ⟨T, h⟩ := h
  simp [World.frozen?, h]
end
/-- what the walk asks of a variable of one, two, three cells -/
theorem Box.f1 {w : World} {g : Nat} {x : Value} (h : Box w g [x]) : w.cell? ⟨g, 0, none⟩ = some x ∧ w.frozen? ⟨g, 0, none⟩ = false := ⟨h.cell 0, h.frozen 0⟩
theorem Box.f2 {w : World} {g : Nat} {x y : Value} (h : Box w g [x, y]) : w.cell? ⟨g, 0, none⟩ = some x ∧ w.cell? ⟨g, 1, none⟩ = some y ∧ w.frozen? ⟨g, 0, none⟩ = false ∧ w.frozen? ⟨g, 1, none⟩ = false := ⟨h.cell 0, h.cell 1, h.frozen 0, h.frozen 1⟩
theorem Box.f3 {w : World} {g : Nat} {x y z : Value} (h : Box w g [x, y, z]) : w.cell? ⟨g, 0, none⟩ = some x ∧ w.cell? ⟨g, 1, none⟩ = some y ∧ w.cell? ⟨g, 2, none⟩ = some z ∧ w.frozen? ⟨g, 0, none⟩ = false ∧ w.frozen? ⟨g, 1, none⟩ = false ∧ w.frozen? ⟨g, 2, none⟩ = false :=
  ⟨h.cell 0, h.cell 1, h.cell 2, h.frozen 0, h.frozen 1, h.frozen 2⟩
end Go.Proofs.Ytifdcdpdihfbjaa
