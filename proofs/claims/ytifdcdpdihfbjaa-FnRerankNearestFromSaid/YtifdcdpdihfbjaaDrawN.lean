/- The drawn arguments: a store, a kind of distances, a vector and a count; .. and a filter; .. and a distance. -/
import Derived.Test.YtifdcdpdihfbjaaDraw7
import Derived.Test.YtifdcdpdihfbjaaDrawK
import Derived.OwnWalk
namespace Go.Proofs.Ytifdcdpdihfbjaa
open Go.RowKit
set_option linter.unusedVariables false
set_option linter.unusedSimpArgs false
theorem Code.up {w : World} {B B' : Nat} {A : Option Addr} {n c : Nat} (h : Code w B A n c) (hB : B ≤ B') : Code w B' A n c :=
  ⟨h.1, h.2.1, fun hn => by
    obtain ⟨b, o, hA, hb, hx⟩ := h.2.2 hn
    exact ⟨b, o, hA, Nat.lt_of_lt_of_le hb hB, hx⟩⟩
theorem nil_pos {xs : List It} (h : ¬ 0 < xs.length) : decide (0 < xs.length) = false := decide_eq_false h
theorem k_of {x : Int} (h : x ∈ [1, 2, 3, 5, 16, 4, 0, 17]) : 0 ≤ x ∧ x ≤ 17 := by
  simp only [List.mem_cons, List.not_mem_nil, or_false] at h
  omega
theorem kind_of {x : Int} (h : x ∈ [1, 2, 3, 4, 1, 2, 3, 4, 1, 2, 0, 5]) : 0 ≤ x ∧ x ≤ 5 := by
  simp only [List.mem_cons, List.not_mem_nil, or_false] at h
  omega
end Go.Proofs.Ytifdcdpdihfbjaa
