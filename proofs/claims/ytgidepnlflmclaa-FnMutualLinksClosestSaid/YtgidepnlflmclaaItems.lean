/- Items as they lie in a slice: each with the slice of its vector; parts of a slice of items. -/
import Derived.Test.YtgidepnlflmclaaStoreF
namespace Go.Proofs.Ytgidepnlflmclaa
open Go.RowKit
set_option linter.unusedVariables false
set_option linter.unusedSimpArgs false
theorem items_go {w : World} {lo hi b o : Nat} {xs : List It} (hx : ∀ j x, xs[j]? = some x → EItem w lo hi b (o + j * 3) x) : ∀ m : Nat, m ≤ xs.length → ∃ ps : List ItP, ps.map (·.it) = xs.take m ∧ (∀ j p, ps[j]? = some p → (w.cell? ⟨b, o + j * 3, none⟩ = some (.int .i64 p.it.key) ∧ w.cell? ⟨b, o + j * 3 + 1, none⟩ = some (.slice p.A p.n p.c) ∧ w.cell? ⟨b, o + j * 3 + 2, none⟩ = some (.int .i64 p.it.tags)) ∧ RInts w lo hi p.A p.n p.c p.it.vec)
  | 0, _ => ⟨[], rfl, fun j p h => by simp at h⟩
  | m + 1, hm => by
    obtain ⟨ps, h1, h2⟩ := items_go hx m (by omega)
    have hxm : xs[m]? = some (xs[m]'(by omega)) := List.getElem?_eq_getElem (by omega)
    obtain ⟨e1, ⟨A1, n1, c1, e2, hv⟩, e3⟩ := hx m _ hxm
    have hl : ps.length = m := by have := congrArg List.length h1; rw [List.length_map, List.length_take] at this; omega
    refine ⟨ps ++ [⟨xs[m]'(by omega), A1, n1, c1⟩], (by simp only [List.map_append, h1, take_snoc hxm, List.map_cons, List.map_nil]), fun j p hj => ?_⟩
    by_cases hjm : j < m
    · rw [List.getElem?_append_left (by omega)] at hj
      exact h2 j p hj
    · have hlt := (List.getElem?_eq_some_iff.1 hj).1
      rw [List.length_append, List.length_singleton, hl] at hlt
      obtain rfl : j = m := by omega
      rw [List.getElem?_append_right (by omega), hl, Nat.sub_self] at hj
      simp at hj
      subst hj
      exact ⟨⟨e1, e2, e3⟩, hv⟩
theorem items_ps {w : World} {lo hi n c : Nat} {A : Option Addr} {xs : List It} (h : RItems w lo hi A n c xs) : ∃ ps : List ItP, ps.map (·.it) = xs ∧ Src 3 cItem w A n ps ∧ ∀ p ∈ ps, RInts w lo hi p.A p.n p.c p.it.vec := by
  have hl : xs.length = n := h.len
  by_cases h0 : 0 < n
  · obtain ⟨b, o, hA, hlo, hhi, hx⟩ := h.2.2.2 h0
    obtain ⟨ps, h1, h2⟩ := items_go hx xs.length (Nat.le_refl _)
    rw [List.take_length] at h1
    refine ⟨ps, h1, ⟨by have := congrArg List.length h1; rw [List.length_map] at this; omega, fun _ => ⟨b, o, hA, fun j p hj i u hu => ?_⟩⟩, fun p hp => ?_⟩
    · obtain ⟨⟨e1, e2, e3⟩, _⟩ := h2 j p hj
      match i, hu with
      | 0, hu => simp [cItem] at hu; subst hu; exact e1
      | 1, hu => simp [cItem] at hu; subst hu; exact e2
      | 2, hu => simp [cItem] at hu; subst hu; exact e3
      | i + 3, hu => simp [cItem] at hu
    · obtain ⟨j, hj⟩ := List.getElem?_of_mem hp
      exact (h2 j p hj).2
  · have hx : xs = [] := List.eq_nil_of_length_eq_zero (by omega)
    subst hx
    exact ⟨[], rfl, ⟨hl, fun h => absurd h h0⟩, fun p hp => by cases hp⟩
end Go.Proofs.Ytgidepnlflmclaa
