/- Plain facts on valid stores, more. No program is named here. -/
import Derived.Test.YtifdcdpdihfbjaaPStore
namespace Go.Proofs.Ytifdcdpdihfbjaa
open Go.RowKit
set_option linter.unusedVariables false
set_option linter.unusedSimpArgs false
theorem storeB_pw {l : List It} (h : storeB l = true) : l.Pairwise (fun x y => x.key < y.key) :=
  List.pairwise_iff_getElem.2 (fun i j hi hj hij => storeB_lt h (List.getElem?_eq_getElem hi) (List.getElem?_eq_getElem hj) hij)
theorem storeB_mem {l : List It} (h : storeB l = true) {x : It} (hx : x ∈ l) : itemB x = true := by
  obtain ⟨i, hi⟩ := List.getElem?_of_mem hx
  exact storeB_item h hi
theorem storeB_of {l : List It} (h1 : l.length ≤ 16) (h2 : ∀ x ∈ l, itemB x = true) (h3 : l.Pairwise (fun x y => x.key < y.key)) : storeB l = true := by
  rw [storeB_of_up, decide_eq_true h1]
  unfold upTo
  rw [List.all_eq_true]
  intro k hk
  have hk := List.mem_range.1 hk
  by_cases h0 : k = 0
  · rw [storeOkAt_eq (List.getElem?_eq_getElem hk) default (fun h => absurd h (by omega)), h2 _ (List.getElem_mem hk)]
    simp [h0]
  · rw [storeOkAt_eq (List.getElem?_eq_getElem hk) (l[k - 1]'(by omega)) (fun _ => List.getElem?_eq_getElem (by omega)), h2 _ (List.getElem_mem hk)]
    have := List.pairwise_iff_getElem.1 h3 (k - 1) k (by omega) hk (by omega)
    simp [this]
theorem storeB_filter {l : List It} (h : storeB l = true) (p : It → Bool) : storeB (l.filter p) = true :=
  storeB_of (Nat.le_trans (List.length_filter_le _ _) (storeB_len h)) (fun x hx => storeB_mem h (List.mem_filter.1 hx).1) ((storeB_pw h).filter p)
end Go.Proofs.Ytifdcdpdihfbjaa
