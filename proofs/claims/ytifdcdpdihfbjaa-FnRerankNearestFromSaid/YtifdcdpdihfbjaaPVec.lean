/- Plain facts on vectors: ranges, valid vectors, distances. No program is named here. -/
import Derived.Test.YtifdcdpdihfbjaaMem
namespace Go.Proofs.Ytifdcdpdihfbjaa
open Go.RowKit
set_option linter.unusedVariables false
/-- lo ≤ n ≤ hi -/
def inB (n lo hi : Int) : Bool := decide (lo ≤ n ∧ n ≤ hi)
/-- all numbers are in the range -/
def allB (xs : List Int) (lo hi : Int) : Bool := xs.all fun x => inB x lo hi
theorem allB_snoc {xs : List Int} {k : Nat} {x : Int} {lo hi : Int} (h : xs[k]? = some x) : allB (xs.take (k + 1)) lo hi = (allB (xs.take k) lo hi && inB x lo hi) := by
  rw [take_snoc h]; simp [allB]
theorem allB_of {xs : List Int} {k : Nat} {x : Int} {lo hi : Int} (h : xs[k]? = some x) (hx : inB x lo hi = false) : allB xs lo hi = false := by
  simp only [allB, List.all_eq_false]
  exact ⟨x, List.mem_of_getElem? h, by simp [hx]⟩
/-- a valid vector -/
def vecB (xs : List Int) : Bool := decide (xs.length = 4) && allB xs (-100) 100
def absI (x : Int) : Int := (x.natAbs : Int)
/-- one coordinate more -/
def dStep (kind n d : Int) : Int := if kind = 1 then n + d else if kind = 2 then max n d else if kind = 3 then n + d * d else n + (if 0 < d then 1 else 0)
/-- the distance of two vectors -/
def distF (kind : Int) (a b : List Int) : Int := (a.zip b).foldl (fun n p => dStep kind n (absI (p.1 - p.2))) 0
/-- coordinates as valid vectors have them -/
def Small (xs : List Int) : Prop := ∀ x ∈ xs, -100 ≤ x ∧ x ≤ 100
theorem zip_snoc {a b : List Int} {k : Nat} {x y : Int} (ha : a[k]? = some x) (hb : b[k]? = some y) : (a.take (k + 1)).zip (b.take (k + 1)) = (a.take k).zip (b.take k) ++ [(x, y)] := by
  have h1 : k < a.length := (List.getElem?_eq_some_iff.1 ha).1
  have h2 : k < b.length := (List.getElem?_eq_some_iff.1 hb).1
  rw [take_snoc ha, take_snoc hb, List.zip_append (by simp; omega)]
  rfl
theorem distF_snoc {kind : Int} {a b : List Int} {k : Nat} {x y : Int} (ha : a[k]? = some x) (hb : b[k]? = some y) : distF kind (a.take (k + 1)) (b.take (k + 1)) = dStep kind (distF kind (a.take k) (b.take k)) (absI (x - y)) := by
  unfold distF
  rw [zip_snoc ha hb, List.foldl_append]
  rfl
theorem dStep_bd {kind n d : Int} (h0 : 0 ≤ n) (hd0 : 0 ≤ d) (hd : d ≤ 200) : 0 ≤ dStep kind n d ∧ dStep kind n d ≤ n + 40000 := by
  have h : d * d ≤ 200 * 200 := Int.mul_le_mul hd hd hd0 (by omega)
  have h' : 0 ≤ d * d := Int.mul_nonneg hd0 hd0
  unfold dStep
  split
  · omega
  · split
    · omega
    · split
      · omega
      · split <;> omega
theorem dist_bd {kind : Int} : ∀ (l : List (Int × Int)), (∀ p ∈ l, (-100 ≤ p.1 ∧ p.1 ≤ 100) ∧ (-100 ≤ p.2 ∧ p.2 ≤ 100)) → ∀ n, 0 ≤ n → 0 ≤ l.foldl (fun n p => dStep kind n (absI (p.1 - p.2))) n ∧ l.foldl (fun n p => dStep kind n (absI (p.1 - p.2))) n ≤ n + 40000 * (l.length : Int)
  | [], _, n, hn => by simp; exact hn
  | p :: l, h, n, hn => by
    have hp := h p (by simp)
    have h1 := dStep_bd (kind := kind) (n := n) (d := absI (p.1 - p.2)) hn (by unfold absI; omega) (by unfold absI; omega)
    have h2 := dist_bd (kind := kind) l (fun q hq => h q (by simp [hq])) (dStep kind n (absI (p.1 - p.2))) h1.1
    simp only [List.foldl_cons, List.length_cons]
    omega
theorem distF_bd {kind : Int} {a b : List Int} (ha : Small a) (hb : Small b) : 0 ≤ distF kind a b ∧ distF kind a b ≤ 40000 * (a.length : Int) := by
  have h := dist_bd (kind := kind) (a.zip b) (fun p hp => by
    have := List.of_mem_zip (a := p.1) (b := p.2) hp
    exact ⟨ha _ this.1, hb _ this.2⟩) 0 (Int.le_refl _)
  have hl : ((a.zip b).length : Int) ≤ a.length := by rw [List.length_zip]; omega
  unfold distF
  omega
theorem Small.take {a : List Int} (h : Small a) (k : Nat) : Small (a.take k) := fun x hx => h x (List.mem_of_mem_take hx)
theorem vecB_comm (xs : List Int) : (allB xs (-100) 100 && decide (xs.length = 4)) = vecB xs := by unfold vecB; rw [Bool.and_comm]
/-- m coordinates, all valid -/
def vecN (m : Nat) (xs : List Int) : Bool := decide (xs.length = m) && allB xs (-100) 100
theorem dSum (t d x : Int) (h : d = absI x) : t + d = dStep 1 t (absI x) := by subst h; rfl
theorem dMost (t d x : Int) (h : d = absI x) : (if t < d then d else t) = dStep 2 t (absI x) := by subst h; simp only [dStep]; split <;> simp <;> omega
theorem dSq (t d x : Int) (h : d = absI x) : t + d * d = dStep 3 t (absI x) := by subst h; rfl
theorem dCnt (t x : Int) (h : 0 < absI x) : t + 1 = dStep 4 t (absI x) := by simp [dStep, h]
theorem dCnt0 (t x : Int) (h : absI x ≤ 0) : t = dStep 4 t (absI x) := by
  have h' : ¬ 0 < absI x := by omega
  simp [dStep, h']
end Go.Proofs.Ytifdcdpdihfbjaa
