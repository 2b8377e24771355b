/- Plain facts on filtered stores: the filter of two filters. No program is named here. -/
import Derived.Test.YtkglmhhihpofiaaPFilt
namespace Go.Proofs.Ytkglmhhihpofiaa
open Go.RowKit
set_option linter.unusedVariables false
set_option linter.unusedSimpArgs false
theorem PassB_of {a b c t : Int} (h1 : filterB a b c = true) (h2 : tagsB t = true) : PassB a b c t = passB a b c t := by unfold PassB; rw [h1, h2]; simp
/-- filtered by both at once, or by one after the other -/
theorem filtF_both {xs : List It} {a b c a' b' c' : Int} (h1 : storeB xs = true) (h : bothOk a b c a' b' c' = true) :
    filtF xs (bits .or .i64 a a') (bits .or .i64 b b') (bits .or .i64 c c') = filtF (filtF xs a b c) a' b' c' := by
  have hA : filterB a b c = true := by unfold bothOk at h; simp only [Bool.and_eq_true] at h; exact h.1
  have hB : filterB a' b' c' = true := by unfold bothOk at h; simp only [Bool.and_eq_true] at h; exact h.2.1
  rw [filtF_ok h1 (both_filter h), filtF_ok h1 hA, filtF_ok (storeB_filter h1 _) hB, List.filter_filter]
  refine List.filter_congr (fun x hx => ?_)
  have ht := tags_of (storeB_mem h1 hx)
  have h9 := both_pass h ht
  rw [PassB_of (both_filter h) ht, PassB_of hA ht, PassB_of hB ht] at h9
  rw [h9, Bool.and_comm]
end Go.Proofs.Ytkglmhhihpofiaa
