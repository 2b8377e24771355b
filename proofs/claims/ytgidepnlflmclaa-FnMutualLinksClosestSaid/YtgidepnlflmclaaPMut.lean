/- Plain facts on mutual links. No program is named here. -/
import Derived.Test.YtgidepnlflmclaaPReach
namespace Go.Proofs.Ytgidepnlflmclaa
open Go.RowKit
set_option linter.unusedVariables false
set_option linter.unusedSimpArgs false

/-- the key of the item at a place -/
def keyI (l : List It) (i : Nat) : Int := (l.getD i default).key
theorem keyI_eq {l : List It} {i : Nat} {x : It} (h : l[i]? = some x) : keyI l i = x.key := by unfold keyI; rw [List.getD_eq_getElem?_getD, h]; rfl
/-- two items are neighbours of each other -/
def mutB (l : List It) (kind many : Int) (i k : Nat) : Bool := decide (keyI l k ∈ linkAt l kind many i) && decide (keyI l i ∈ linkAt l kind many k)
/-- the pairs of the item at a place with those behind it, below m -/
def mutRow (l : List It) (kind many : Int) (i m : Nat) : List (List Int) := ((List.range m).filter fun k => decide (i < k) && mutB l kind many i k).map fun k => [keyI l i, keyI l k]
theorem mutRow_start (l : List It) (kind many : Int) (i : Nat) : mutRow l kind many i (i + 1) = [] := by
  unfold mutRow
  rw [List.filter_eq_nil_iff.2]
  · rfl
  · intro k hk
    have := List.mem_range.1 hk
    rw [decide_eq_false (by omega)]; simp
theorem mutRow_snoc {l : List It} {kind many : Int} {i k : Nat} (h : i < k) : mutRow l kind many i (k + 1) = mutRow l kind many i k ++ (if mutB l kind many i k = true then [[keyI l i, keyI l k]] else []) := by
  unfold mutRow
  rw [List.range_succ, List.filter_append, List.map_append]
  congr 1
  rw [List.filter_cons, decide_eq_true h]
  cases mutB l kind many i k <;> rfl
theorem mutRow_len (l : List It) (kind many : Int) (i m : Nat) : (mutRow l kind many i m).length ≤ m := by
  unfold mutRow
  rw [List.length_map]
  have := List.length_filter_le (fun k => decide (i < k) && mutB l kind many i k) (List.range m)
  rw [List.length_range] at this
  exact this
/-- the pairs of the first items -/
def mutTo (l : List It) (kind many : Int) (i : Nat) : List (List Int) := (List.range i).flatMap fun i => mutRow l kind many i l.length
theorem mutTo_snoc (l : List It) (kind many : Int) (i : Nat) : mutTo l kind many (i + 1) = mutTo l kind many i ++ mutRow l kind many i l.length := by
  unfold mutTo
  rw [List.range_succ, List.flatMap_append]
  simp
theorem mutTo_len (l : List It) (kind many : Int) : ∀ i, (mutTo l kind many i).length ≤ i * l.length
  | 0 => by unfold mutTo; simp
  | i + 1 => by
    rw [mutTo_snoc, List.length_append, Nat.add_mul]
    have := mutTo_len l kind many i
    have := mutRow_len l kind many i l.length
    omega
def mutL (l : List It) (kind many : Int) : List (List Int) := mutTo l kind many l.length
theorem mutL_len (l : List It) (kind many : Int) : (mutL l kind many).length ≤ l.length * l.length := mutTo_len l kind many l.length
theorem mutL_row {l : List It} {kind many : Int} {r : List Int} (h : r ∈ mutL l kind many) : ∃ i k, i < k ∧ k < l.length ∧ mutB l kind many i k = true ∧ r = [keyI l i, keyI l k] := by
  unfold mutL mutTo at h
  obtain ⟨i, _, hr⟩ := List.mem_flatMap.1 h
  unfold mutRow at hr
  obtain ⟨k, hk, rfl⟩ := List.mem_map.1 hr
  obtain ⟨h1, h2⟩ := List.mem_filter.1 hk
  simp only [Bool.and_eq_true, decide_eq_true_eq] at h2
  exact ⟨i, k, h2.1, List.mem_range.1 h1, h2.2, rfl⟩
theorem mutL_in {l : List It} {kind many : Int} {i k : Nat} (hik : i < k) (hk : k < l.length) (hb : mutB l kind many i k = true) : [keyI l i, keyI l k] ∈ mutL l kind many := by
  unfold mutL mutTo
  refine List.mem_flatMap.2 ⟨i, List.mem_range.2 (by omega), ?_⟩
  unfold mutRow
  exact List.mem_map.2 ⟨k, List.mem_filter.2 ⟨List.mem_range.2 hk, by rw [decide_eq_true hik, hb]; rfl⟩, rfl⟩
/-- what stands where a pair is met -/
theorem mutRow_pre (l : List It) (kind many : Int) (i : Nat) : ∀ d m, mutRow l kind many i m <+: mutRow l kind many i (m + d)
  | 0, m => List.prefix_rfl
  | d + 1, m => by
    refine (mutRow_pre l kind many i d m).trans ?_
    unfold mutRow
    rw [← Nat.add_assoc, List.range_succ, List.filter_append, List.map_append]
    exact List.prefix_append _ _
theorem mutTo_pre (l : List It) (kind many : Int) : ∀ d i, mutTo l kind many i <+: mutTo l kind many (i + d)
  | 0, i => List.prefix_rfl
  | d + 1, i => by
    refine (mutTo_pre l kind many d i).trans ?_
    rw [← Nat.add_assoc, mutTo_snoc]
    exact List.prefix_append _ _
theorem mut_pre {l : List It} {kind many : Int} {i k : Nat} (hi : i < l.length) (hk : k ≤ l.length) : (mutTo l kind many i ++ mutRow l kind many i k) <+: mutL l kind many := by
  have h1 : (mutTo l kind many i ++ mutRow l kind many i k) <+: mutTo l kind many (i + 1) := by
    rw [mutTo_snoc]
    have h2 := mutRow_pre l kind many i (l.length - k) k
    rw [show k + (l.length - k) = l.length from by omega] at h2
    exact (List.prefix_append_right_inj _).2 h2
  have h3 := mutTo_pre l kind many (l.length - (i + 1)) (i + 1)
  rw [show i + 1 + (l.length - (i + 1)) = l.length from by omega] at h3
  exact h1.trans h3
theorem pre_at {α : Type} {p l : List α} {x : α} (h : (p ++ [x]) <+: l) : l[p.length]? = some x := by
  obtain ⟨t, rfl⟩ := h
  rw [List.append_assoc, List.getElem?_append_right (Nat.le_refl _), Nat.sub_self]; rfl
theorem pre_len {α : Type} {p l : List α} {x : α} (h : (p ++ [x]) <+: l) : p.length < l.length := by
  have := h.length_le
  rw [List.length_append, List.length_singleton] at this; omega
/-- more neighbours are more mutual -/
theorem link_in_more {l : List It} {kind many : Int} (hm : 0 ≤ many) {i : Nat} {y : Int} (h : y ∈ linkAt l kind many i) : y ∈ linkAt l kind (many + 1) i := by
  rw [← link_more l kind i hm] at h
  exact List.take_subset _ _ h
theorem mut_more {l : List It} {kind many : Int} (hm : 0 ≤ many) {r : List Int} (h : r ∈ mutL l kind many) : r ∈ mutL l kind (many + 1) := by
  obtain ⟨i, k, hik, hk, hb, rfl⟩ := mutL_row h
  refine mutL_in hik hk ?_
  unfold mutB at hb ⊢
  simp only [Bool.and_eq_true, decide_eq_true_eq] at hb ⊢
  exact ⟨link_in_more hm hb.1, link_in_more hm hb.2⟩
end Go.Proofs.Ytgidepnlflmclaa
