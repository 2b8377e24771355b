/- Walks: plain facts, and the answer. -/
import Derived.Test.YtgidepnlflmclaaLinksJ
import Derived.Test.YtgidepnlflmclaaPWalk
import Derived.Test.YtgidepnlflmclaaNearJ
namespace Go.Proofs.Ytgidepnlflmclaa
open Go.RowKit Go.Sort Go.Shelf
set_option linter.unusedVariables false
set_option linter.unusedSimpArgs false
theorem nearB_irr (a : Int × Int) : nearB a a = false := by
  cases h : nearB a a with
  | false => rfl
  | true => have := nearB_asymm h; rw [h] at this; exact this
theorem walk_cons (l : List It) (kind many : Int) (at_ : List Int) (k : Int) : walkL l kind many at_ k = k :: (walkL l kind many at_ k).tail := by
  have h := walk_first l kind many at_ k
  cases hw : walkL l kind many at_ k with
  | nil => rw [hw] at h; cases h
  | cons a t => rw [hw] at h; injection h with h; rw [h]; rfl
theorem next_far {l : List It} {kind many : Int} {at_ : List Int} {k z : Int} (hz : z ∈ gOf l kind many k) (h : nearB (bestOf (hitK l kind at_ z) ((gOf l kind many k).map (hitK l kind at_))) (hitK l kind at_ k) = false) : nextF l kind many at_ k = none := by
  have h1 := best_here (here := hitK l kind at_ k) (List.mem_map.2 ⟨z, hz, rfl⟩ : hitK l kind at_ z ∈ (gOf l kind many k).map (hitK l kind at_))
  rw [h, if_neg (by simp)] at h1
  unfold nextF
  rw [if_pos h1]
theorem next_near {l : List It} {kind many : Int} {at_ : List Int} {k z : Int} (hz : z ∈ gOf l kind many k) (h : nearB (bestOf (hitK l kind at_ z) ((gOf l kind many k).map (hitK l kind at_))) (hitK l kind at_ k) = true) : nextF l kind many at_ k = some (bestOf (hitK l kind at_ z) ((gOf l kind many k).map (hitK l kind at_))).1 := by
  have h1 := best_here (here := hitK l kind at_ k) (List.mem_map.2 ⟨z, hz, rfl⟩ : hitK l kind at_ z ∈ (gOf l kind many k).map (hitK l kind at_))
  rw [h, if_pos rfl] at h1
  unfold nextF
  rw [h1, if_neg]
  intro e
  rw [e, nearB_irr] at h
  cases h
theorem next_empty {l : List It} {kind many : Int} {at_ : List Int} {k : Int} (h : gOf l kind many k = []) : nextF l kind many at_ k = none := by
  have e : bestOf (hitK l kind at_ k) ((gOf l kind many k).map (hitK l kind at_)) = hitK l kind at_ k := by rw [h]; rfl
  unfold nextF
  rw [if_pos e]
/-- how many are nearer than the one at a place -/
def cntAt (l : List It) (kind : Int) (at_ : List Int) (q : Nat) : Nat := cntN l kind at_ ((l.getD q default).key)
theorem cntAt_eq {l : List It} {kind : Int} {at_ : List Int} {q : Nat} {x : It} (h : l[q]? = some x) : cntAt l kind at_ q = cntN l kind at_ x.key := by
  unfold cntAt; rw [List.getD_eq_getElem?_getD, h]; rfl
/-- a walk, of valid arguments -/
def walkB (l : List It) (kind many key : Int) (at_ : List Int) : Bool := linkB l kind many && (vecB at_ && decide (0 ≤ keyAtF l key))
def WalkF (l : List It) (kind many key : Int) (at_ : List Int) : List Int := if walkB l kind many key at_ = true then walkL l kind many at_ key else []
theorem WalkF_no {l : List It} {kind many key : Int} {at_ : List Int} (h : walkB l kind many key at_ = false) : WalkF l kind many key at_ = [] := by unfold WalkF; rw [h]; rfl
theorem WalkF_ok {l : List It} {kind many key : Int} {at_ : List Int} (h : walkB l kind many key at_ = true) : WalkF l kind many key at_ = walkL l kind many at_ key := by unfold WalkF; rw [h]; rfl
/-- a walk comes back -/
def RetWalk (ws : List Int) (b : Bool) (w : World) (e : Ending) (w' : World) : Prop := ∃ v, e = .returned (.tuple #[v, .bool b]) ∧ OInts w' w.heap.size v ws ∧ Chg No w w'
end Go.Proofs.Ytgidepnlflmclaa
