/- Plain facts on neighbours: the rows of links. No program is named here. -/
import Derived.Test.YtifdcdpdihfbjaaPNear
namespace Go.Proofs.Ytifdcdpdihfbjaa
open Go.RowKit
set_option linter.unusedVariables false
set_option linter.unusedSimpArgs false

/-- all items but one -/
def cutL {α : Type} (l : List α) (i : Nat) : List α := l.take i ++ l.drop (i + 1)
theorem cutL_sub {α : Type} (l : List α) (i : Nat) : (cutL l i).Sublist l := cut_sub l i
theorem cutL_len {α : Type} {l : List α} {i : Nat} (h : i < l.length) : (cutL l i).length = l.length - 1 := by
  unfold cutL; rw [List.length_append, List.length_take, List.length_drop]; omega
/-- a place of the others is a place of all -/
theorem cutL_get {α : Type} {l : List α} {i j : Nat} (h : i < l.length) : (cutL l i)[j]? = l[if j < i then j else j + 1]? := by
  unfold cutL
  by_cases hj : j < i
  · rw [if_pos hj, List.getElem?_append_left (by rw [List.length_take]; omega), List.getElem?_take, if_pos hj]
  · rw [if_neg hj, List.getElem?_append_right (by rw [List.length_take]; omega), List.length_take, List.getElem?_drop]
    congr 1
    omega
/-- the keys of the neighbours of the item at a place -/
def linkAt (l : List It) (kind many : Int) (i : Nat) : List Int := (nearestF (cutL l i) kind ((l.getD i default).vec) many).map Prod.fst
theorem linkAt_eq {l : List It} {kind many : Int} {i : Nat} {x : It} (h : l[i]? = some x) : linkAt l kind many i = (nearestF (cutL l i) kind x.vec many).map Prod.fst := by
  unfold linkAt; rw [List.getD_eq_getElem?_getD, h]; rfl
def linksL (l : List It) (kind many : Int) : List (List Int) := (List.range l.length).map (linkAt l kind many)
theorem linksL_len (l : List It) (kind many : Int) : (linksL l kind many).length = l.length := by unfold linksL; simp
theorem linksL_at {l : List It} {kind many : Int} {i : Nat} (h : i < l.length) : (linksL l kind many)[i]? = some (linkAt l kind many i) := by
  unfold linksL
  rw [List.getElem?_map, List.getElem?_range h]; rfl
theorem range_snoc {α : Type} (f : Nat → α) (k : Nat) : (List.range (k + 1)).map f = (List.range k).map f ++ [f k] := by rw [List.range_succ, List.map_append]; rfl
theorem linkAt_len {l : List It} {kind many : Int} {i : Nat} (h : i < l.length) : (linkAt l kind many i).length = min many.toNat (l.length - 1) := by
  unfold linkAt; rw [List.length_map, nearestF_length, cutL_len h]
theorem linkAt_mem {l : List It} {kind many : Int} {i : Nat} {k : Int} (h : k ∈ linkAt l kind many i) : ∃ z ∈ cutL l i, k = z.key := by
  unfold linkAt at h
  obtain ⟨x, hx, rfl⟩ := List.mem_map.1 h
  unfold nearestF at hx
  obtain ⟨z, hz, rfl⟩ := hits_mem.1 ((insAll_perm _).mem_iff.1 (List.take_subset _ _ hx))
  exact ⟨z, hz, rfl⟩
theorem linkAt_key {l : List It} {kind many : Int} {i : Nat} {k : Int} (h : k ∈ linkAt l kind many i) : ∃ z ∈ l, k = z.key := by
  obtain ⟨z, hz, e⟩ := linkAt_mem h
  exact ⟨z, (cutL_sub l i).subset hz, e⟩
/-- nobody is a neighbour of itself -/
theorem link_self {l : List It} (hs : storeB l = true) {kind many : Int} {i : Nat} {x : It} (hi : l[i]? = some x) : x.key ∉ linkAt l kind many i := by
  intro h
  obtain ⟨z, hz, e⟩ := linkAt_mem h
  obtain ⟨j, hj⟩ := List.getElem?_of_mem hz
  rw [cutL_get (List.getElem?_eq_some_iff.1 hi).1] at hj
  split at hj
  · rename_i h1
    have := storeB_lt hs hj hi h1; omega
  · rename_i h1
    have := storeB_lt hs hi hj (by omega); omega
/-- more neighbours begin with fewer -/
theorem link_more (l : List It) (kind : Int) {many : Int} (i : Nat) (hm : 0 ≤ many) : (linkAt l kind (many + 1) i).take (linkAt l kind many i).length = linkAt l kind many i := by
  unfold linkAt nearestF
  generalize insAll (hitsOf kind (l.getD i default).vec (cutL l i)) = S
  rw [List.length_map, List.length_take, ← List.map_take, List.take_take]
  congr 1
  by_cases h : many.toNat ≤ S.length
  · congr 1; omega
  · rw [List.take_of_length_le (by omega), List.take_of_length_le (by omega)]
/-- the others, by their keys -/
theorem cut_filter {l : List It} (hs : storeB l = true) {i : Nat} {x : It} (hi : l[i]? = some x) : l.filter (fun y => decide (y.key ≠ x.key)) = cutL l i := by
  have hl := List.getElem?_eq_some_iff.1 hi
  have e : l = l.take i ++ x :: l.drop (i + 1) := by
    rw [← hl.2, ← List.drop_eq_getElem_cons hl.1, List.take_append_drop]
  unfold cutL
  have h1 : (l.take i).filter (fun y => decide (y.key ≠ x.key)) = l.take i := by
    rw [List.filter_eq_self]
    intro y hy
    obtain ⟨j, hj⟩ := List.getElem?_of_mem hy
    rw [List.getElem?_take] at hj
    split at hj
    · rename_i h1
      have := storeB_lt hs hj hi h1
      exact decide_eq_true (by omega)
    · cases hj
  have h2 : (l.drop (i + 1)).filter (fun y => decide (y.key ≠ x.key)) = l.drop (i + 1) := by
    rw [List.filter_eq_self]
    intro y hy
    obtain ⟨j, hj⟩ := List.getElem?_of_mem hy
    rw [List.getElem?_drop] at hj
    have := storeB_lt hs hi hj (by omega)
    exact decide_eq_true (by omega)
  rw [show l.filter (fun y => decide (y.key ≠ x.key)) = (l.take i ++ x :: l.drop (i + 1)).filter (fun y => decide (y.key ≠ x.key)) from by rw [← e], List.filter_append, h1, List.filter_cons_of_neg (by simp), h2]
end Go.Proofs.Ytifdcdpdihfbjaa
