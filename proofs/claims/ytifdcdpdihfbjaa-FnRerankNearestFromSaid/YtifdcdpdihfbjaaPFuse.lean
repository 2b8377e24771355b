/- Plain facts on fused ranks. No program is named here. -/
import Derived.Test.YtifdcdpdihfbjaaPHits2
import Derived.Shelf.SlSortCmp.NoneTotal
namespace Go.Proofs.Ytifdcdpdihfbjaa
open Go.RowKit Go.Sort Go.Shelf
set_option linter.unusedVariables false
set_option linter.unusedSimpArgs false

/-- the ranks' sum -/
def sumF (xs ys : List (Int × Int)) (key : Int) : Int := rankF xs key + rankF ys key
theorem sumF_bd (xs ys : List (Int × Int)) (key : Int) : 0 ≤ sumF xs ys key ∧ sumF xs ys key ≤ 3278 := by
  unfold sumF
  have := rankF_bd xs key
  have := rankF_bd ys key
  omega
/-- the higher sum first, of the same sums the smaller key -/
def cmpF (s : Int → Int) (x y : Int) : Int := orF [cmpI (s y) (s x), cmpI x y]
def aheadB (s : Int → Int) (x y : Int) : Bool := decide (s y < s x ∨ (s x = s y ∧ x < y))
theorem aheadB_iff {s : Int → Int} {x y : Int} : aheadB s x y = true ↔ (s y < s x ∨ (s x = s y ∧ x < y)) := by unfold aheadB; rw [decide_eq_true_iff]
theorem aheadB_false {s : Int → Int} {x y : Int} : aheadB s x y = false ↔ ¬ (s y < s x ∨ (s x = s y ∧ x < y)) := by unfold aheadB; rw [decide_eq_false_iff_not]
theorem cmpF_neg (s : Int → Int) (x y : Int) : cmpF s x y < 0 ↔ aheadB s x y = true := by
  rw [aheadB_iff]; unfold cmpF orF orF orF cmpI
  split <;> split <;> (try split) <;> omega
theorem ltCmpF (s : Int → Int) (x y : Int) : ltOf (cmpF s) x y = aheadB s x y := by
  unfold ltOf
  have h := cmpF_neg s x y
  cases hn : aheadB s x y with
  | true => exact decide_eq_true (h.2 hn)
  | false => exact decide_eq_false (fun h2 => by rw [h.1 h2] at hn; cases hn)
theorem ahead_anti {s : Int → Int} {x y : Int} (h : aheadB s x y = false) (k : aheadB s y x = false) : x = y := by rw [aheadB_false] at h k; omega
theorem swoF (s : Int → Int) : SWO (ltOf (cmpF s)) where
  irrefl x := by rw [ltCmpF, aheadB_false]; omega
  trans x y z h1 h2 := by rw [ltCmpF, aheadB_iff] at *; omega
  ntrans x y z h1 h2 := by rw [ltCmpF, aheadB_false] at *; omega
theorem totF (s : Int → Int) (x y : Int) (h1 : ltOf (cmpF s) x y = false) (h2 : ltOf (cmpF s) y x = false) : x = y := by rw [ltCmpF] at h1 h2; exact ahead_anti h1 h2
/-- each once -/
def dedI (l : List Int) : List Int := l.foldl (fun out k => if k ∈ out then out else out ++ [k]) []
theorem dedI_snoc (l : List Int) (k : Int) : dedI (l ++ [k]) = if k ∈ dedI l then dedI l else dedI l ++ [k] := by
  unfold dedI; rw [List.foldl_append]; rfl
theorem dedI_spec (l : List Int) : ∀ n, l.length = n → (dedI l).Nodup ∧ (∀ x, x ∈ dedI l ↔ x ∈ l) ∧ (dedI l).length ≤ l.length := by
  intro n
  induction n generalizing l with
  | zero => intro h; rw [List.length_eq_zero_iff.1 h]; exact ⟨List.Pairwise.nil, fun x => Iff.rfl, Nat.le_refl _⟩
  | succ n ih =>
    intro h
    have hne : l ≠ [] := by intro e; subst e; simp at h
    have e := (List.dropLast_concat_getLast hne).symm
    generalize l.dropLast = m at *
    generalize l.getLast hne = x at *
    subst e
    obtain ⟨h1, h2, h3⟩ := ih m (by simpa using h)
    rw [dedI_snoc]
    split
    · rename_i hx
      refine ⟨h1, fun y => ?_, by simp; omega⟩
      rw [h2, List.mem_append, List.mem_singleton]
      exact ⟨Or.inl, fun h => h.elim id (fun h => by rw [h]; exact (h2 x).1 hx)⟩
    · rename_i hx
      refine ⟨?_, fun y => ?_, by simp; omega⟩
      · refine List.pairwise_append.2 ⟨h1, List.pairwise_singleton _ _, fun a ha b hb => ?_⟩
        rw [List.mem_singleton] at hb
        subst hb
        exact fun e => hx (e ▸ ha)
      · rw [List.mem_append, List.mem_append, h2]
/-- the fused keys -/
def fuseL (xs ys : List (Int × Int)) : List Int := (dedI ((xs ++ ys).map Prod.fst)).mergeSort fun x y => !(ltOf (cmpF (sumF xs ys))) y x
def fuseOk (xs ys : List (Int × Int)) : Bool := hitsB xs && hitsB ys
def FuseF (xs ys : List (Int × Int)) : List Int := if fuseOk xs ys then fuseL xs ys else []
theorem FuseF_ok {xs ys : List (Int × Int)} (h1 : hitsB xs = true) (h2 : hitsB ys = true) : FuseF xs ys = fuseL xs ys := by unfold FuseF fuseOk; rw [h1, h2]; rfl
theorem FuseF_no1 {xs ys : List (Int × Int)} (h1 : hitsB xs = false) : FuseF xs ys = [] := by unfold FuseF fuseOk; rw [h1]; rfl
theorem FuseF_no2 {xs ys : List (Int × Int)} (h1 : hitsB ys = false) : FuseF xs ys = [] := by unfold FuseF fuseOk; rw [h1, Bool.and_false]; rfl
/-- one after the other -/
def SortedF (s : Int → Int) (l : List Int) : Prop := l.Pairwise fun a b => aheadB s b a = false
theorem sortedF_unique {s : Int → Int} : ∀ {l m : List Int}, SortedF s l → SortedF s m → l.Perm m → l = m
  | [], m, _, _, hp => (List.Perm.nil_eq hp)
  | x :: l, [], _, _, hp => by have := hp.length_eq; simp at this
  | x :: l, y :: m, hl, hm, hp => by
    have hl' := List.pairwise_cons.1 hl
    have hm' := List.pairwise_cons.1 hm
    have hxy : x = y := by
      have h1 : x ∈ y :: m := hp.subset (by simp)
      have h2 : y ∈ x :: l := hp.symm.subset (by simp)
      rcases List.mem_cons.1 h1 with e | h1
      · exact e
      · rcases List.mem_cons.1 h2 with e | h2
        · exact e.symm
        · exact ahead_anti (hm'.1 x h1) (hl'.1 y h2)
    subst hxy
    rw [sortedF_unique hl'.2 hm'.2 (List.Perm.cons_inv hp)]
theorem fuseL_sorted (xs ys : List (Int × Int)) : SortedF (sumF xs ys) (fuseL xs ys) := by
  have := List.pairwise_mergeSort (le := fun x y : Int => !(ltOf (cmpF (sumF xs ys))) y x) (fun a b c h k => by
    simp only [ltCmpF, Bool.not_eq_true'] at *
    rw [aheadB_false] at *; omega) (fun a b => by
    simp only [ltCmpF, Bool.or_eq_true, Bool.not_eq_true']
    rw [aheadB_false, aheadB_false]; omega) (dedI ((xs ++ ys).map Prod.fst))
  refine this.imp (fun h => ?_)
  simpa [ltCmpF] using h
theorem fuseL_perm (xs ys : List (Int × Int)) : (fuseL xs ys).Perm (dedI ((xs ++ ys).map Prod.fst)) := List.mergeSort_perm _ _
theorem fuseL_mem (xs ys : List (Int × Int)) (k : Int) : k ∈ fuseL xs ys ↔ k ∈ (xs ++ ys).map Prod.fst := by
  rw [(fuseL_perm xs ys).mem_iff, (dedI_spec _ _ rfl).2.1]
theorem fuseL_nodup (xs ys : List (Int × Int)) : (fuseL xs ys).Nodup := (fuseL_perm xs ys).nodup_iff.2 (dedI_spec _ _ rfl).1
theorem fuseL_len (xs ys : List (Int × Int)) : (fuseL xs ys).length ≤ xs.length + ys.length := by
  rw [(fuseL_perm xs ys).length_eq]
  have := (dedI_spec ((xs ++ ys).map Prod.fst) _ rfl).2.2
  simpa using this
theorem nodup_perm : ∀ {l m : List Int}, l.Nodup → m.Nodup → (∀ x, x ∈ l ↔ x ∈ m) → l.Perm m
  | [], m, _, _, h => by
    cases m with
    | nil => exact List.Perm.nil
    | cons y m => exact absurd ((h y).2 (by simp)) (by simp)
  | x :: l, m, hl, hm, h => by
    have hx : x ∈ m := (h x).1 (by simp)
    have hl' := List.nodup_cons.1 hl
    have h1 := nodup_perm (l := l) (m := m.erase x) hl'.2 (List.Nodup.erase x hm) (fun y => by
      rw [List.Nodup.mem_erase_iff hm]
      constructor
      · intro hy
        exact ⟨fun e => hl'.1 (e ▸ hy), (h y).1 (by simp [hy])⟩
      · rintro ⟨h1, h2⟩
        rcases List.mem_cons.1 ((h y).2 h2) with e | e
        · exact absurd e h1
        · exact e)
    exact (h1.cons x).trans (List.perm_cons_erase hx).symm
/-- a list that is sorted, without doubles, and holds the keys is the fused list -/
theorem fuseL_unique {xs ys : List (Int × Int)} {l : List Int} (h1 : SortedF (sumF xs ys) l) (h2 : l.Nodup) (h3 : ∀ k, k ∈ l ↔ k ∈ (xs ++ ys).map Prod.fst) : l = fuseL xs ys :=
  sortedF_unique h1 (fuseL_sorted xs ys) (nodup_perm h2 (fuseL_nodup xs ys) (fun k => by rw [h3, fuseL_mem]))
end Go.Proofs.Ytifdcdpdihfbjaa
