/- Plain facts on filtered stores: places of the items that pass. No program is named here. -/
import Derived.Test.YtchblkeddeelhaaPFilt
namespace Go.Proofs.Ytchblkeddeelhaa
open Go.RowKit
set_option linter.unusedVariables false
set_option linter.unusedSimpArgs false
/-- the next item that passes stands behind those before it -/
theorem filter_place {α : Type} (p : α → Bool) : ∀ (l : List α) (k : Nat) (x : α), l[k]? = some x → p x = true → (l.filter p)[((l.take k).filter p).length]? = some x
  | [], k, x, h, _ => by simp at h
  | y :: t, 0, x, h, hp => by
    simp at h; subst h
    simp [List.filter_cons, hp]
  | y :: t, k + 1, x, h, hp => by
    have h2 := filter_place p t k x (by simpa using h) hp
    rw [List.take_succ_cons, List.filter_cons, List.filter_cons]
    by_cases hy : p y = true
    · rw [if_pos hy, if_pos hy]; simpa using h2
    · rw [if_neg hy, if_neg hy]; exact h2
theorem filter_count {α : Type} (p : α → Bool) {l : List α} {k : Nat} {x : α} (h : l[k]? = some x) : ((l.take (k + 1)).filter p).length = ((l.take k).filter p).length + (if p x then 1 else 0) := by
  rw [take_snoc h, List.filter_append, List.length_append, List.filter_cons]
  cases p x <;> simp
theorem filter_count_le {α : Type} (p : α → Bool) (l : List α) (k : Nat) : ((l.take k).filter p).length ≤ (l.filter p).length := (List.Sublist.filter p (List.take_sublist k l)).length_le
end Go.Proofs.Ytchblkeddeelhaa
