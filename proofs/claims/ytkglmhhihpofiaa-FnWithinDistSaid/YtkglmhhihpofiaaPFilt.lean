/- Plain facts on filtered stores. No program is named here. -/
import Derived.Test.YtkglmhhihpofiaaStoreJ
import Derived.Test.YtkglmhhihpofiaaBits
namespace Go.Proofs.Ytkglmhhihpofiaa
open Go.RowKit
set_option linter.unusedVariables false
set_option linter.unusedSimpArgs false
theorem storeB_pw {l : List It} (h : storeB l = true) : l.Pairwise (fun x y => x.key < y.key) :=
  List.pairwise_iff_getElem.2 (fun i j hi hj hij => storeB_lt h (List.getElem?_eq_getElem hi) (List.getElem?_eq_getElem hj) hij)
theorem storeB_mem {l : List It} (h : storeB l = true) {x : It} (hx : x ∈ l) : itemB x = true := by
  obtain ⟨i, hi⟩ := List.getElem?_of_mem hx
  exact storeB_item h hi
theorem storeB_of {l : List It} (h1 : l.length ≤ 16) (h2 : ∀ x ∈ l, itemB x = true) (h3 : l.Pairwise (fun x y => x.key < y.key)) : storeB l = true := by
  rw [storeB_of_up, decide_eq_true h1]
  unfold upTo
  rw [List.all_eq_true]
  intro k hk
  have hk := List.mem_range.1 hk
  by_cases h0 : k = 0
  · rw [storeOkAt_eq (List.getElem?_eq_getElem hk) default (fun h => absurd h (by omega)), h2 _ (List.getElem_mem hk)]
    simp [h0]
  · rw [storeOkAt_eq (List.getElem?_eq_getElem hk) (l[k - 1]'(by omega)) (fun _ => List.getElem?_eq_getElem (by omega)), h2 _ (List.getElem_mem hk)]
    have := List.pairwise_iff_getElem.1 h3 (k - 1) k (by omega) hk (by omega)
    simp [this]
theorem storeB_filter {l : List It} (h : storeB l = true) (p : It → Bool) : storeB (l.filter p) = true :=
  storeB_of (Nat.le_trans (List.length_filter_le _ _) (storeB_len h)) (fun x hx => storeB_mem h (List.mem_filter.1 hx).1) ((storeB_pw h).filter p)
theorem tags_of {x : It} (h : itemB x = true) : tagsB x.tags = true := by
  have := ((itemB_iff x).1 h).2.2
  unfold tagsB inB; simp; omega
/-- a filtered store filtered once more is the same -/
theorem filtF_twice {xs : List It} {a b c : Int} (h1 : storeB xs = true) (h2 : filterB a b c = true) : filtF (filtF xs a b c) a b c = filtF xs a b c := by
  rw [filtF_ok h1 h2, filtF_ok (storeB_filter h1 _) h2, List.filter_filter]
  congr 1
  funext x
  simp
/-- the open filter passes all -/
theorem filtF_open {xs : List It} (h1 : storeB xs = true) : filtF xs 0 0 0 = xs := by
  rw [filtF_ok h1 (by decide)]
  refine List.filter_eq_self.2 (fun x hx => ?_)
  have h9 := pass_open (tags_of (storeB_mem h1 hx))
  unfold PassB at h9
  simp only [Bool.and_eq_true] at h9
  exact h9.2.2
end Go.Proofs.Ytkglmhhihpofiaa
