/- Stores: FilterStore, the program's and the reference's. -/
import Derived.Test.YtifdcdpdihfbjaaStoreJ
namespace Go.Proofs.Ytifdcdpdihfbjaa
open Go.RowKit
set_option linter.unusedVariables false
set_option linter.unusedSimpArgs false
/-- items of the call's own whose vectors lie where those of another slice lie -/
theorem read_ps {w : World} {base l0 h0 : Nat} {v : Value} {ps : List ItP} (ho : OSl 36 3 cItem w base v ps) (hi : ∀ p ∈ ps, RInts w l0 h0 p.A p.n p.c p.it.vec) :
    ∃ A c, v = .slice A (ps.map (·.it)).length c ∧ RItems w 0 (h0 + w.heap.size) A (ps.map (·.it)).length c (ps.map (·.it)) := by
  obtain ⟨A, c, hv, hr⟩ := OSl.read (E := fun b o (p : ItP) => w.cell? ⟨b, o, none⟩ = some (.int .i64 p.it.key) ∧ w.cell? ⟨b, o + 1, none⟩ = some (.slice p.A p.n p.c) ∧ w.cell? ⟨b, o + 2, none⟩ = some (.int .i64 p.it.tags)) ho (fun _ => rfl) (fun b o p hp => ⟨hp 0 _ rfl, hp 1 _ rfl, hp 2 _ rfl⟩)
  refine ⟨A, c, by rw [hv, List.length_map], by rw [List.length_map], by rw [List.length_map]; exact hr.2.1, hr.2.2.1, fun h0' => ?_⟩
  obtain ⟨b, o, hA, hl, hh, hx⟩ := hr.2.2.2 (by rwa [List.length_map] at h0')
  refine ⟨b, o, hA, by omega, by omega, fun j x hj => ?_⟩
  rw [List.getElem?_map] at hj
  cases hp : ps[j]? with
  | none => rw [hp] at hj; cases hj
  | some p =>
    rw [hp] at hj
    injection hj with hj
    subst hj
    have := hx j p hp
    exact ⟨this.1, ⟨p.A, p.n, p.c, this.2.1, (hi p (List.mem_of_getElem? hp)).wide (by omega) (by omega)⟩, this.2.2⟩
end Go.Proofs.Ytifdcdpdihfbjaa
