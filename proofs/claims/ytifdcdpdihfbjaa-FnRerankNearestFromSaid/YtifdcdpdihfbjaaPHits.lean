/- Plain facts on hits: their order, which lists are valid, places of keys, scores, insertion from behind. No program is named here. -/
import Derived.Test.YtifdcdpdihfbjaaPVec
import Derived.Lib.SlBy
namespace Go.Proofs.Ytifdcdpdihfbjaa
open Go.RowKit
set_option linter.unusedVariables false

/-- a hit comes before another one -/
def nearB (a b : Int × Int) : Bool := decide (a.2 < b.2) || (decide (a.2 = b.2) && decide (a.1 < b.1))
theorem nearB_iff (a b : Int × Int) : nearB a b = true ↔ a.2 < b.2 ∨ (a.2 = b.2 ∧ a.1 < b.1) := by unfold nearB; simp
theorem nearB_false (a b : Int × Int) : nearB a b = false ↔ ¬ (a.2 < b.2 ∨ (a.2 = b.2 ∧ a.1 < b.1)) := by rw [← nearB_iff]; cases nearB a b <;> simp
theorem nearB_trans {a b c : Int × Int} (h : nearB a b = true) (k : nearB b c = true) : nearB a c = true := by rw [nearB_iff] at *; omega
theorem nearB_irrefl (a : Int × Int) : nearB a a = false := by rw [nearB_false]; omega
theorem nearB_ntrans {a b c : Int × Int} (h : nearB a b = false) (k : nearB b c = false) : nearB a c = false := by rw [nearB_false] at *; omega
theorem nearB_anti {a b : Int × Int} (h : nearB a b = false) (k : nearB b a = false) : a = b := by rw [nearB_false] at *; exact Prod.ext (by omega) (by omega)
theorem nearB_asymm {a b : Int × Int} (h : nearB a b = true) : nearB b a = false := by rw [nearB_iff] at h; rw [nearB_false]; omega

/-- the hit at a place is as it has to be -/
def hitOkAt (l : List (Int × Int)) (i : Nat) : Bool :=
  decide (1 ≤ (l.getD i default).1 ∧ (l.getD i default).1 ≤ 99) && decide (0 ≤ (l.getD i default).2 ∧ (l.getD i default).2 ≤ 1000000) && (decide (i = 0) || nearB (l.getD (i - 1) default) (l.getD i default)) && !(l.take i).any fun x => decide (x.1 = (l.getD i default).1)
def hitsUp (l : List (Int × Int)) (k : Nat) : Bool := (List.range k).all (hitOkAt l)
/-- the hits are valid -/
def hitsB (l : List (Int × Int)) : Bool := decide (l.length ≤ 16) && hitsUp l l.length
theorem hitsUp_zero (l : List (Int × Int)) : hitsUp l 0 = true := rfl
theorem hitsUp_snoc (l : List (Int × Int)) (k : Nat) : hitsUp l (k + 1) = (hitsUp l k && hitOkAt l k) := by
  unfold hitsUp; rw [List.range_succ, List.all_append]; simp
theorem hitsUp_of {l : List (Int × Int)} {k n : Nat} (hk : k < n) (h : hitOkAt l k = false) : hitsUp l n = false := by
  unfold hitsUp
  simp only [List.all_eq_false, List.mem_range]
  exact ⟨k, hk, by simp [h]⟩
theorem hitsUp_at {l : List (Int × Int)} {k n : Nat} (hk : k < n) (h : hitsUp l n = true) : hitOkAt l k = true := by
  unfold hitsUp at h
  rw [List.all_eq_true] at h
  exact h k (List.mem_range.2 hk)
theorem hitsB_false_of {l : List (Int × Int)} {k : Nat} (hk : k < l.length) (h : hitOkAt l k = false) : hitsB l = false := by
  unfold hitsB; rw [hitsUp_of hk h]; simp
theorem hitsB_of_up {l : List (Int × Int)} (h : hitsUp l l.length = true) : hitsB l = decide (l.length ≤ 16) := by unfold hitsB; rw [h]; simp
theorem hitsB_long {l : List (Int × Int)} (h : 16 < l.length) : hitsB l = false := by
  unfold hitsB
  rw [decide_eq_false (by omega)]; rfl
theorem hitOkAt_eq {l : List (Int × Int)} {i : Nat} {h : Int × Int} (hi : l[i]? = some h) (p : Int × Int) (hp : 0 < i → l[i - 1]? = some p) :
    hitOkAt l i = (decide (1 ≤ h.1 ∧ h.1 ≤ 99) && decide (0 ≤ h.2 ∧ h.2 ≤ 1000000) && (decide (i = 0) || nearB p h) && !(l.take i).any fun x => decide (x.1 = h.1)) := by
  unfold hitOkAt
  have e1 : l.getD i default = h := by simp [List.getD_eq_getElem?_getD, hi]
  rw [e1]
  by_cases h0 : i = 0
  · simp [h0]
  · have e2 : l.getD (i - 1) default = p := by simp [List.getD_eq_getElem?_getD, hp (by omega)]
    rw [e2]

theorem hitOk_f1 {l : List (Int × Int)} {i : Nat} {a b : Int} (hi : l[i]? = some (a, b)) (h : inB a 1 99 = false) : hitOkAt l i = false := by
  unfold hitOkAt
  have e1 : l.getD i default = (a, b) := by simp [List.getD_eq_getElem?_getD, hi]
  rw [e1]
  unfold inB at h
  simp only [h]; rfl
theorem hitOk_f2 {l : List (Int × Int)} {i : Nat} {a b : Int} (hi : l[i]? = some (a, b)) (h : inB b 0 1000000 = false) : hitOkAt l i = false := by
  unfold hitOkAt
  have e1 : l.getD i default = (a, b) := by simp [List.getD_eq_getElem?_getD, hi]
  rw [e1]
  unfold inB at h
  simp only [h]; simp
theorem hitOk_f3 {l : List (Int × Int)} {i : Nat} {x p : Int × Int} (hi : l[i + 1]? = some x) (hp : l[i]? = some p) (h : nearB p x = false) : hitOkAt l (i + 1) = false := by
  rw [hitOkAt_eq hi p (fun _ => by simpa using hp), h]
  simp
/-- all but the keys is right -/
def hitOk3 (l : List (Int × Int)) (i : Nat) (x : Int × Int) : Prop := l[i]? = some x ∧ inB x.1 1 99 = true ∧ inB x.2 0 1000000 = true ∧ (0 < i → ∃ p, l[i - 1]? = some p ∧ nearB p x = true)
theorem hitOk3_eq {l : List (Int × Int)} {i : Nat} {x : Int × Int} (h : hitOk3 l i x) : hitOkAt l i = !(l.take i).any fun y => decide (y.1 = x.1) := by
  obtain ⟨hi, h1, h2, h3⟩ := h
  unfold inB at h1 h2
  by_cases h0 : i = 0
  · subst h0
    rw [hitOkAt_eq hi default (fun h => absurd h (by omega)), h1, h2]
    simp
  · obtain ⟨p, hp, hn⟩ := h3 (by omega)
    rw [hitOkAt_eq hi p (fun _ => hp), h1, h2, hn]
    simp
/-- the place of a key, -1 for none -/
def hitAtF (l : List (Int × Int)) (key : Int) : Int := Lib.idxBy (fun _ y => decide (y.1 = key)) l default
theorem hitAtF_at {l : List (Int × Int)} {key : Int} {k : Nat} {h : Int × Int} (hk : l[k]? = some h) (he : h.1 = key) (hno : ∀ j x, j < k → l[j]? = some x → x.1 ≠ key) : hitAtF l key = k := by
  have hkl := (List.getElem?_eq_some_iff.1 hk).1
  have := Lib.idxBy_hit (fun (_ : Int × Int) y => decide (y.1 = key)) l l.length k default hkl (Nat.le_refl _) (by simp [List.getElem!_eq_getElem?_getD, hk, he]) (fun j hj => by
    have hj' : l[j]? = some (l[j]'(by omega)) := List.getElem?_eq_getElem (by omega)
    have := hno j _ hj hj'
    simp [List.getElem!_eq_getElem?_getD, hj', this])
  rw [List.take_of_length_le (Nat.le_refl _)] at this
  exact this
theorem hitAtF_no {l : List (Int × Int)} {key : Int} (hno : ∀ (j : Nat) (x : Int × Int), l[j]? = some x → x.1 ≠ key) : hitAtF l key = -1 := by
  have := Lib.idxBy_miss (fun (_ : Int × Int) y => decide (y.1 = key)) l l.length default (fun j hj => by
    have hj' : l[j]? = some (l[j]'hj) := List.getElem?_eq_getElem hj
    have := hno j _ hj'
    simp [List.getElem!_eq_getElem?_getD, hj', this])
  rw [List.take_of_length_le (Nat.le_refl _)] at this
  exact this
theorem hitAtF_cons (h : Int × Int) (l : List (Int × Int)) (key : Int) : hitAtF (h :: l) key = if h.1 = key then 0 else if hitAtF l key < 0 then -1 else hitAtF l key + 1 := by
  have gen : ∀ (l : List (Int × Int)) (i : Nat), Lib.idxByFrom (fun (_ : Int × Int) y => decide (y.1 = key)) default l i = if Lib.idxByFrom (fun (_ : Int × Int) y => decide (y.1 = key)) default l 0 < 0 then -1 else Lib.idxByFrom (fun (_ : Int × Int) y => decide (y.1 = key)) default l 0 + i := by
    intro l
    induction l with
    | nil => intro i; simp [Lib.idxByFrom]
    | cons x t ih =>
      intro i
      simp only [Lib.idxByFrom]
      by_cases hx : x.1 = key
      · simp [hx]
      · simp only [hx, decide_false, Bool.false_eq_true, ↓reduceIte]
        rw [ih (i + 1), ih (0 + 1)]
        split
        · simp
        · rw [if_neg (by omega)]; omega
  unfold hitAtF Lib.idxBy
  simp only [Lib.idxByFrom]
  by_cases hx : h.1 = key
  · simp [hx]
  · simp only [hx, decide_false, Bool.false_eq_true, ↓reduceIte]
    rw [gen l (0 + 1)]
    split <;> simp
theorem hitAtF_nil (key : Int) : hitAtF [] key = -1 := rfl
/-- the place is one of the list's, and its hit has the key-/
theorem hitAtF_spec (l : List (Int × Int)) (key : Int) : (hitAtF l key = -1 ∧ ∀ x ∈ l, x.1 ≠ key) ∨ ∃ k : Nat, ∃ h, hitAtF l key = k ∧ l[k]? = some h ∧ h.1 = key ∧ ∀ j x, j < k → l[j]? = some x → x.1 ≠ key := by
  induction l with
  | nil => exact .inl ⟨rfl, by simp⟩
  | cons x t ih =>
    rw [hitAtF_cons]
    by_cases hx : x.1 = key
    · rw [if_pos hx]
      exact .inr ⟨0, x, rfl, rfl, hx, fun j _ hj => absurd hj (by omega)⟩
    · rw [if_neg hx]
      rcases ih with ⟨h1, h2⟩ | ⟨k, h, h1, h2, h3, h4⟩
      · rw [h1]
        exact .inl ⟨by simp, fun y hy => by rcases List.mem_cons.1 hy with rfl | hy; exact hx; exact h2 y hy⟩
      · rw [h1, if_neg (by omega)]
        refine .inr ⟨k + 1, h, by omega, by simpa using h2, h3, fun j y hj hy => ?_⟩
        cases j with
        | zero => simp at hy; subst hy; exact hx
        | succ j => exact h4 j y (by omega) (by simpa using hy)
theorem hitAtF_lt (l : List (Int × Int)) (key : Int) : -1 ≤ hitAtF l key ∧ hitAtF l key < l.length := by
  rcases hitAtF_spec l key with ⟨h, _⟩ | ⟨k, h, h1, h2, _⟩
  · omega
  · have := (List.getElem?_eq_some_iff.1 h2).1; omega
/-- the score of a key -/
def rankF (l : List (Int × Int)) (key : Int) : Int := if hitAtF l key < 0 then 0 else 100000 / (60 + hitAtF l key + 1)
theorem rankF_bd (l : List (Int × Int)) (key : Int) : 0 ≤ rankF l key ∧ rankF l key ≤ 1639 := by
  unfold rankF
  split
  · omega
  · have := hitAtF_lt l key
    generalize hitAtF l key = n at *
    constructor
    · exact Int.ediv_nonneg (by omega) (by omega)
    · have : 100000 / (60 + n + 1) ≤ 100000 / 61 := by
        apply Int.le_ediv_of_mul_le (by omega)
        have h1 : 100000 / (60 + n + 1) * (60 + n + 1) ≤ 100000 := Int.ediv_mul_le _ (by omega)
        have h2 : 0 ≤ 100000 / (60 + n + 1) := Int.ediv_nonneg (by omega) (by omega)
        have h3 : 100000 / (60 + n + 1) * 61 ≤ 100000 / (60 + n + 1) * (60 + n + 1) := Int.mul_le_mul_of_nonneg_left (by omega) h2
        omega
      omega
/-- how many of the first hits are in the others -/
def foundF (r f : List (Int × Int)) : Int := ((r.filter fun h => f.any fun x => decide (x.1 = h.1)).length : Int)
theorem any_hitAt (l : List (Int × Int)) (key : Int) : (l.any fun x => decide (x.1 = key)) = decide (0 ≤ hitAtF l key) := (Lib.idxBy_nonneg_iff (fun (_ : Int × Int) y => decide (y.1 = key)) l default).symm
def recallF (r f : List (Int × Int)) : Int := 1000 * foundF r f / (r.length : Int)
theorem foundF_bd (r f : List (Int × Int)) : 0 ≤ foundF r f ∧ foundF r f ≤ r.length := by
  unfold foundF
  have := List.length_filter_le (fun h : Int × Int => f.any fun x => decide (x.1 = h.1)) r
  omega
theorem foundF_snoc {r f : List (Int × Int)} {k : Nat} {h : Int × Int} (hk : r[k]? = some h) : foundF (r.take (k + 1)) f = foundF (r.take k) f + (if (f.any fun x => decide (x.1 = h.1)) = true then 1 else 0) := by
  unfold foundF
  rw [take_snoc hk, List.filter_append]
  by_cases hc : (f.any fun x => decide (x.1 = h.1)) = true
  · rw [if_pos hc]; simp [hc]
  · rw [if_neg hc]; simp [hc]

/-! ### insertion from behind -/
def backPos (h : Int × Int) (l : List (Int × Int)) : Nat → Nat
  | 0 => 0
  | i + 1 => if nearB h (l.getD i default) = true then backPos h l i else i + 1
theorem backPos_le (h : Int × Int) (l : List (Int × Int)) : ∀ i, backPos h l i ≤ i
  | 0 => Nat.le_refl _
  | i + 1 => by
    unfold backPos
    split
    · exact Nat.le_succ_of_le (backPos_le h l i)
    · exact Nat.le_refl _
def putAt (h : Int × Int) (l : List (Int × Int)) (i : Nat) : List (Int × Int) := l.take i ++ h :: l.drop i
def insF (h : Int × Int) (l : List (Int × Int)) : List (Int × Int) := putAt h l (backPos h l l.length)
theorem insF_length (h : Int × Int) (l : List (Int × Int)) : (insF h l).length = l.length + 1 := by
  unfold insF putAt
  have := backPos_le h l l.length
  simp; omega
theorem putAt_at {h : Int × Int} {l : List (Int × Int)} {i : Nat} (hi : i ≤ l.length) : (putAt h l i)[i]? = some h := by
  unfold putAt
  have hl : (l.take i).length = i := by rw [List.length_take]; omega
  rw [List.getElem?_append_right (by omega), hl, Nat.sub_self]; rfl
theorem putAt_prev {h : Int × Int} {l : List (Int × Int)} {i : Nat} {x : Int × Int} (hx : l[i]? = some x) : (putAt h l (i + 1))[i]? = some x := by
  unfold putAt
  have hi := (List.getElem?_eq_some_iff.1 hx).1
  have hl : (l.take (i + 1)).length = i + 1 := by rw [List.length_take]; omega
  rw [List.getElem?_append_left (by omega), List.getElem?_take, if_pos (by omega)]; exact hx
theorem putAt_swap {h : Int × Int} {l : List (Int × Int)} {i : Nat} {x : Int × Int} (hx : l[i]? = some x) : ((putAt h l (i + 1)).set (i + 1) x).set i h = putAt h l i := by
  have hi := (List.getElem?_eq_some_iff.1 hx).1
  have hl : (l.take (i + 1)).length = i + 1 := by rw [List.length_take]; omega
  have hl2 : (l.take i).length = i := by rw [List.length_take]; omega
  have hd : l.drop i = x :: l.drop (i + 1) := by
    rw [List.drop_eq_getElem_cons hi]
    rw [(List.getElem?_eq_some_iff.1 hx).2]
  unfold putAt
  rw [List.set_append, if_neg (by omega), hl, Nat.sub_self, List.set_cons_zero]
  rw [take_snoc hx, List.append_assoc, List.set_append, if_neg (by omega), hl2, Nat.sub_self, hd]
  rfl
theorem putAt_all (h : Int × Int) (l : List (Int × Int)) : putAt h l l.length = l ++ [h] := by
  unfold putAt; simp
theorem putAt_length {h : Int × Int} {l : List (Int × Int)} {i : Nat} (hi : i ≤ l.length) : (putAt h l i).length = l.length + 1 := by
  unfold putAt; simp; omega
theorem backPos_step {h : Int × Int} {l : List (Int × Int)} {i : Nat} {x : Int × Int} (hx : l[i]? = some x) : backPos h l (i + 1) = if nearB h x = true then backPos h l i else i + 1 := by
  rw [backPos]; simp [List.getD_eq_getElem?_getD, hx]
def addHitF (l : List (Int × Int)) (h : Int × Int) (k : Int) : List (Int × Int) := (insF h l).take k.toNat
/-- insertion from the front-/
def insO (h : Int × Int) : List (Int × Int) → List (Int × Int)
  | [] => [h]
  | x :: t => if nearB h x = true then h :: x :: t else x :: insO h t
def SortedH (l : List (Int × Int)) : Prop := l.Pairwise fun a b => nearB b a = false
theorem insF_snoc (h x : Int × Int) (l : List (Int × Int)) : insF h (l ++ [x]) = if nearB h x = true then insF h l ++ [x] else l ++ [x, h] := by
  have hb : ∀ i, i ≤ l.length → backPos h (l ++ [x]) i = backPos h l i := by
    intro i
    induction i with
    | zero => intro _; rfl
    | succ i ih =>
      intro hi
      unfold backPos
      have e : (l ++ [x]).getD i default = l.getD i default := by simp [List.getD_eq_getElem?_getD, List.getElem?_append_left (show i < l.length by omega)]
      rw [e, ih (by omega)]
  have hp := backPos_le h l l.length
  unfold insF
  rw [show (l ++ [x]).length = l.length + 1 from by simp]
  have e : (l ++ [x]).getD l.length default = x := by simp [List.getD_eq_getElem?_getD]
  rw [backPos, e, hb _ (Nat.le_refl _)]
  split
  · unfold putAt
    rw [List.take_append_of_le_length hp, List.drop_append_of_le_length hp]
    simp
  · unfold putAt
    rw [List.take_of_length_le (by simp), List.drop_of_length_le (by simp)]
    simp
theorem insO_last (h x : Int × Int) : ∀ l : List (Int × Int), SortedH (l ++ [x]) → insO h (l ++ [x]) = if nearB h x = true then insO h l ++ [x] else l ++ [x, h]
  | [], _ => by
    simp only [List.nil_append, insO]
    split <;> rfl
  | y :: l, hs => by
    have hs' : SortedH (l ++ [x]) := (List.pairwise_cons.1 hs).2
    have hyx : nearB x y = false := (List.pairwise_cons.1 hs).1 x (by simp)
    simp only [List.cons_append, insO]
    rw [insO_last h x l hs']
    by_cases hy : nearB h y = true
    · rw [if_pos hy, if_pos hy]
      have hx : nearB h x = true := by
        cases hh : nearB h x with
        | true => rfl
        | false => rw [nearB_ntrans hh hyx] at hy; cases hy
      rw [if_pos hx]; rfl
    · rw [if_neg hy, if_neg hy]
      split <;> rfl
theorem insF_nil (h : Int × Int) : insF h [] = [h] := rfl
theorem insF_eq_insO (h : Int × Int) : ∀ (n : Nat) (l : List (Int × Int)), l.length = n → SortedH l → insF h l = insO h l
  | 0, l, hl, _ => by
    rw [List.length_eq_zero_iff] at hl
    subst hl; rfl
  | n + 1, l, hl, hs => by
    have hne : l ≠ [] := by intro e; subst e; simp at hl
    have e := (List.dropLast_concat_getLast hne).symm
    generalize l.dropLast = m at *
    generalize l.getLast hne = x at *
    subst e
    rw [insF_snoc, insO_last h x m hs, insF_eq_insO h n m (by simpa using hl) (List.pairwise_append.1 hs).1]
theorem insO_mem (h : Int × Int) : ∀ (l : List (Int × Int)) (y : Int × Int), y ∈ insO h l ↔ y = h ∨ y ∈ l
  | [], y => by simp [insO]
  | x :: t, y => by
    unfold insO
    split
    · simp
    · simp only [List.mem_cons, insO_mem h t]
      constructor
      · rintro (h1 | h1 | h1) <;> simp [h1]
      · rintro (h1 | h1 | h1) <;> simp [h1]
theorem insO_sorted (h : Int × Int) : ∀ l : List (Int × Int), SortedH l → SortedH (insO h l)
  | [], _ => by simp [insO, SortedH]
  | x :: t, hs => by
    have hs' := List.pairwise_cons.1 hs
    unfold insO
    split
    · rename_i hx
      refine List.pairwise_cons.2 ⟨fun y hy => ?_, hs⟩
      rcases List.mem_cons.1 hy with rfl | hy
      · exact nearB_asymm hx
      · exact nearB_ntrans (hs'.1 y hy) (nearB_asymm hx)
    · rename_i hx
      refine List.pairwise_cons.2 ⟨fun y hy => ?_, insO_sorted h t hs'.2⟩
      rcases (insO_mem h t y).1 hy with rfl | hy
      · simpa using hx
      · exact hs'.1 y hy
theorem insO_perm (h : Int × Int) : ∀ l : List (Int × Int), (insO h l).Perm (h :: l)
  | [] => List.Perm.refl _
  | x :: t => by
    unfold insO
    split
    · exact List.Perm.refl _
    · exact ((insO_perm h t).cons x).trans (List.Perm.swap _ _ _)
theorem insO_take (h : Int × Int) : ∀ (l : List (Int × Int)) (k : Nat), (insO h (l.take k)).take k = (insO h l).take k
  | [], k => by simp
  | x :: t, 0 => by simp
  | x :: t, k + 1 => by
    rw [List.take_succ_cons]
    unfold insO
    split
    · rw [List.take_succ_cons, List.take_succ_cons]
      congr 1
      rw [← List.take_succ_cons, List.take_take]
      congr 1
      omega
    · rw [List.take_succ_cons, List.take_succ_cons, insO_take h t k]
theorem SortedH.take {l : List (Int × Int)} (h : SortedH l) (k : Nat) : SortedH (l.take k) := List.Pairwise.sublist (List.take_sublist _ _) h
/-- all hits inserted, the k first ones kept-/
def insAll (hs : List (Int × Int)) : List (Int × Int) := hs.foldl (fun acc h => insO h acc) []
theorem insAll_go (hs : List (Int × Int)) : ∀ acc : List (Int × Int), SortedH acc → SortedH (hs.foldl (fun acc h => insO h acc) acc) ∧ (hs.foldl (fun acc h => insO h acc) acc).Perm (hs ++ acc) := by
  induction hs with
  | nil => intro acc ha; exact ⟨ha, List.Perm.refl _⟩
  | cons h t ih =>
    intro acc ha
    simp only [List.foldl_cons]
    have := ih (insO h acc) (insO_sorted h acc ha)
    refine ⟨this.1, this.2.trans ?_⟩
    refine ((insO_perm h acc).append_left t).trans ?_
    exact List.perm_middle
theorem insAll_sorted (hs : List (Int × Int)) : SortedH (insAll hs) := (insAll_go hs [] List.Pairwise.nil).1
theorem insAll_perm (hs : List (Int × Int)) : (insAll hs).Perm hs := by
  have h := (insAll_go hs [] List.Pairwise.nil).2
  rw [List.append_nil] at h
  exact h
def addAll (k : Int) (hs : List (Int × Int)) : List (Int × Int) := hs.foldl (fun acc h => addHitF acc h k) []
theorem addAll_go (k : Int) (hs : List (Int × Int)) : ∀ acc : List (Int × Int), SortedH acc → hs.foldl (fun acc h => addHitF acc h k) (acc.take k.toNat) = (hs.foldl (fun acc h => insO h acc) acc).take k.toNat := by
  induction hs with
  | nil => intro acc _; rfl
  | cons h t ih =>
    intro acc ha
    simp only [List.foldl_cons]
    rw [← ih (insO h acc) (insO_sorted h acc ha)]
    congr 1
    unfold addHitF
    rw [insF_eq_insO h _ _ rfl (ha.take _), insO_take]
theorem addAll_eq (k : Int) (hs : List (Int × Int)) : addAll k hs = (insAll hs).take k.toNat := by
  have := addAll_go k hs [] List.Pairwise.nil
  simpa [addAll, insAll] using this
theorem sorted_unique : ∀ {l m : List (Int × Int)}, SortedH l → SortedH m → l.Perm m → l = m
  | [], m, _, _, hp => (List.Perm.nil_eq hp)
  | x :: l, [], _, _, hp => by have := hp.length_eq; simp at this
  | x :: l, y :: m, hl, hm, hp => by
    have hl' := List.pairwise_cons.1 hl
    have hm' := List.pairwise_cons.1 hm
    have hxy : x = y := by
      have h1 : x ∈ y :: m := hp.subset (by simp)
      have h2 : y ∈ x :: l := hp.symm.subset (by simp)
      rcases List.mem_cons.1 h1 with e | h1
      · exact e
      · rcases List.mem_cons.1 h2 with e | h2
        · exact e.symm
        · exact nearB_anti (hm'.1 x h1) (hl'.1 y h2)
    subst hxy
    rw [sorted_unique hl'.2 hm'.2 (List.Perm.cons_inv hp)]
/-- sorted, as the library does it -/
def sortHits (hs : List (Int × Int)) : List (Int × Int) := hs.mergeSort fun x y => !nearB y x
theorem sortHits_sorted (hs : List (Int × Int)) : SortedH (sortHits hs) := by
  have := List.pairwise_mergeSort (le := fun x y : Int × Int => !nearB y x) (fun a b c h k => by
    simp only [Bool.not_eq_true'] at *
    exact nearB_ntrans k h) (fun a b => by
    cases h : nearB b a with
    | false => rfl
    | true => rw [nearB_asymm h]; rfl) hs
  exact this.imp (fun h => by simpa using h)
theorem sortHits_eq (hs : List (Int × Int)) : sortHits hs = insAll hs :=
  sorted_unique (sortHits_sorted hs) (insAll_sorted hs) ((List.mergeSort_perm hs _).trans (insAll_perm hs).symm)
/-! ### the program's comparison -/
def cmpI (x y : Int) : Int := if x < y then -1 else if y < x then 1 else 0
/-- the first one that is not 0 -/
def orF : List Int → Int
  | [] => 0
  | x :: t => if x = 0 then orF t else x
def cmpHitF (a b : Int × Int) : Int := orF [cmpI a.2 b.2, cmpI a.1 b.1]
theorem cmpHitF_neg (a b : Int × Int) : cmpHitF a b < 0 ↔ nearB a b = true := by
  rw [nearB_iff]; unfold cmpHitF orF orF orF cmpI
  split <;> split <;> (try split) <;> omega
theorem cmpHitF_pos (a b : Int × Int) : 0 < cmpHitF a b ↔ nearB b a = true := by
  rw [nearB_iff]; unfold cmpHitF orF orF orF cmpI
  split <;> split <;> (try split) <;> omega
theorem orF_hit {xs : List Int} {k : Nat} {x : Int} (h : xs[k]? = some x) (hx : x ≠ 0) (hno : ∀ (j : Nat) (y : Int), j < k → xs[j]? = some y → y = 0) : orF xs = x := by
  induction xs generalizing k with
  | nil => simp at h
  | cons y t ih =>
    cases k with
    | zero => simp at h; subst h; unfold orF; rw [if_neg hx]
    | succ k =>
      have hy := hno 0 y (by omega) rfl
      unfold orF; rw [if_pos hy]
      exact ih (by simpa using h) (fun j z hj hz => hno (j + 1) z (by omega) (by simpa using hz))
theorem orF_no {xs : List Int} (hno : ∀ (j : Nat) (y : Int), xs[j]? = some y → y = 0) : orF xs = 0 := by
  induction xs with
  | nil => rfl
  | cons y t ih =>
    unfold orF; rw [if_pos (hno 0 y rfl)]
    exact ih (fun j z hz => hno (j + 1) z (by simpa using hz))
end Go.Proofs.Ytifdcdpdihfbjaa
