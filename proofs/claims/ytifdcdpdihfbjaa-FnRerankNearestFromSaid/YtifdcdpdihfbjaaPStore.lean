/- Plain facts on stores: valid items, valid stores, what is put, the nearest items. No program is named here. -/
import Derived.Test.YtifdcdpdihfbjaaPHits
import Derived.Test.YtifdcdpdihfbjaaPVec
namespace Go.Proofs.Ytifdcdpdihfbjaa
open Go.RowKit
set_option linter.unusedVariables false

/-- f holds at all places below k -/
def upTo (f : Nat → Bool) (k : Nat) : Bool := (List.range k).all f
theorem upTo_zero (f : Nat → Bool) : upTo f 0 = true := rfl
theorem upTo_snoc (f : Nat → Bool) (k : Nat) : upTo f (k + 1) = (upTo f k && f k) := by
  unfold upTo; rw [List.range_succ, List.all_append]; simp
theorem upTo_of {f : Nat → Bool} {k n : Nat} (hk : k < n) (h : f k = false) : upTo f n = false := by
  unfold upTo
  simp only [List.all_eq_false, List.mem_range]
  exact ⟨k, hk, by simp [h]⟩
theorem upTo_at {f : Nat → Bool} {k n : Nat} (hk : k < n) (h : upTo f n = true) : f k = true := by
  unfold upTo at h
  rw [List.all_eq_true] at h
  exact h k (List.mem_range.2 hk)

instance : Inhabited It := ⟨⟨0, [], 0⟩⟩
/-- the item is valid -/
def itemB (x : It) : Bool := inB x.key 1 99 && (vecB x.vec && inB x.tags 0 15)
/-- the item at a place is as it has to be -/
def storeOkAt (l : List It) (i : Nat) : Bool := itemB (l.getD i default) && (decide (i = 0) || decide ((l.getD (i - 1) default).key < (l.getD i default).key))
/-- the store is valid -/
def storeB (l : List It) : Bool := decide (l.length ≤ 16) && upTo (storeOkAt l) l.length
theorem storeB_false_of {l : List It} {k : Nat} (hk : k < l.length) (h : storeOkAt l k = false) : storeB l = false := by
  unfold storeB; rw [upTo_of hk h]; simp
theorem storeB_of_up {l : List It} (h : upTo (storeOkAt l) l.length = true) : storeB l = decide (l.length ≤ 16) := by unfold storeB; rw [h]; simp
theorem storeB_long {l : List It} (h : 16 < l.length) : storeB l = false := by
  unfold storeB; rw [decide_eq_false (by omega)]; rfl
theorem storeOkAt_eq {l : List It} {i : Nat} {x : It} (hi : l[i]? = some x) (p : It) (hp : 0 < i → l[i - 1]? = some p) :
    storeOkAt l i = (itemB x && (decide (i = 0) || decide (p.key < x.key))) := by
  unfold storeOkAt
  have e1 : l.getD i default = x := by simp [List.getD_eq_getElem?_getD, hi]
  rw [e1]
  by_cases h0 : i = 0
  · simp [h0]
  · have e2 : l.getD (i - 1) default = p := by simp [List.getD_eq_getElem?_getD, hp (by omega)]
    rw [e2]
theorem storeB_item {l : List It} (h : storeB l = true) {i : Nat} {x : It} (hi : l[i]? = some x) : itemB x = true := by
  have hl := (List.getElem?_eq_some_iff.1 hi).1
  unfold storeB at h
  rw [Bool.and_eq_true] at h
  have := upTo_at hl h.2
  unfold storeOkAt at this
  rw [Bool.and_eq_true] at this
  simpa [List.getD_eq_getElem?_getD, hi] using this.1
theorem storeB_len {l : List It} (h : storeB l = true) : l.length ≤ 16 := by
  unfold storeB at h
  rw [Bool.and_eq_true] at h
  exact of_decide_eq_true h.1
theorem storeB_next {l : List It} (h : storeB l = true) {i : Nat} {x y : It} (hi : l[i]? = some x) (hj : l[i + 1]? = some y) : x.key < y.key := by
  have hl := (List.getElem?_eq_some_iff.1 hj).1
  unfold storeB at h
  rw [Bool.and_eq_true] at h
  have := upTo_at hl h.2
  unfold storeOkAt at this
  rw [Bool.and_eq_true] at this
  have h2 := this.2
  simp [List.getD_eq_getElem?_getD, hi, hj] at h2
  exact h2
theorem storeB_lt {l : List It} (h : storeB l = true) {i j : Nat} {x y : It} (hi : l[i]? = some x) (hj : l[j]? = some y) (hij : i < j) : x.key < y.key := by
  obtain ⟨d, rfl⟩ : ∃ d, j = i + 1 + d := ⟨j - (i + 1), by omega⟩
  clear hij
  induction d generalizing y with
  | zero => exact storeB_next h hi hj
  | succ d ih =>
    have hl := (List.getElem?_eq_some_iff.1 hj).1
    have hz : l[i + 1 + d]? = some (l[i + 1 + d]'(by omega)) := List.getElem?_eq_getElem (by omega)
    have h1 := ih hz
    have h2 := storeB_next h hz hj
    omega
theorem itemB_iff (x : It) : itemB x = true ↔ (1 ≤ x.key ∧ x.key ≤ 99) ∧ vecB x.vec = true ∧ (0 ≤ x.tags ∧ x.tags ≤ 15) := by
  unfold itemB inB; simp
theorem vecB_iff (v : List Int) : vecB v = true ↔ v.length = 4 ∧ Small v := by
  unfold vecB allB inB Small; simp
theorem vecB_small {v : List Int} (h : vecB v = true) : Small v := ((vecB_iff v).1 h).2
theorem vecB_len {v : List Int} (h : vecB v = true) : v.length = 4 := ((vecB_iff v).1 h).1

/-- the store with another item -/
def putF (l : List It) (x : It) : List It := (l.filter fun y => decide (y.key < x.key)) ++ (x :: l.filter fun y => decide (x.key < y.key))
theorem putF_length (l : List It) (x : It) : (putF l x).length ≤ l.length + 1 := by
  unfold putF
  have : ∀ l : List It, (l.filter fun y => decide (y.key < x.key)).length + (l.filter fun y => decide (x.key < y.key)).length ≤ l.length := by
    intro l
    induction l with
    | nil => simp
    | cons y t ih =>
      rw [List.filter_cons, List.filter_cons]
      by_cases h1 : y.key < x.key
      · rw [if_pos (by simpa using h1), if_neg (by simp; omega)]; simp; omega
      · rw [if_neg (by simpa using h1)]
        split <;> simp <;> omega
  have := this l
  simp; omega

/-- the hits of all items -/
def hitsOf (kind : Int) (at_ : List Int) (l : List It) : List (Int × Int) := l.map fun x => (x.key, distF kind x.vec at_)
/-- the nearest items -/
def nearestF (l : List It) (kind : Int) (at_ : List Int) (k : Int) : List (Int × Int) := (insAll (hitsOf kind at_ l)).take k.toNat
theorem hitsOf_length (kind : Int) (at_ : List Int) (l : List It) : (hitsOf kind at_ l).length = l.length := by unfold hitsOf; simp
theorem hitsOf_snoc {kind : Int} {at_ : List Int} {l : List It} {k : Nat} {x : It} (h : l[k]? = some x) : hitsOf kind at_ (l.take (k + 1)) = hitsOf kind at_ (l.take k) ++ [(x.key, distF kind x.vec at_)] := by
  unfold hitsOf; rw [take_snoc h]; simp
theorem addAll_snoc (k : Int) (hs : List (Int × Int)) (h : Int × Int) : addAll k (hs ++ [h]) = addHitF (addAll k hs) h k := by
  unfold addAll; rw [List.foldl_append]; rfl
theorem addAll_length (k : Int) (hs : List (Int × Int)) : (addAll k hs).length ≤ hs.length := by
  rw [addAll_eq, List.length_take, (insAll_perm hs).length_eq]; omega
theorem nearestF_length (l : List It) (kind : Int) (at_ : List Int) (k : Int) : (nearestF l kind at_ k).length = min k.toNat l.length := by
  unfold nearestF
  rw [List.length_take, (insAll_perm _).length_eq, hitsOf_length]
theorem nearest_sort (l : List It) (kind : Int) (at_ : List Int) (k : Int) : (sortHits (hitsOf kind at_ l)).take k.toNat = nearestF l kind at_ k := by unfold nearestF; rw [sortHits_eq]
theorem nearest_add (l : List It) (kind : Int) (at_ : List Int) (k : Int) : addAll k (hitsOf kind at_ l) = nearestF l kind at_ k := by rw [addAll_eq]; rfl
end Go.Proofs.Ytifdcdpdihfbjaa
