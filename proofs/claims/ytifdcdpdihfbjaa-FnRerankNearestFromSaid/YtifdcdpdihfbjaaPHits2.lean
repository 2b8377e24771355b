/- Plain facts on hits, more: valid lists by their parts; recall and scores of valid lists. No program is named here. -/
import Derived.Test.YtifdcdpdihfbjaaPHits
namespace Go.Proofs.Ytifdcdpdihfbjaa
open Go.RowKit
set_option linter.unusedVariables false

def hitR (h : Int × Int) : Prop := (1 ≤ h.1 ∧ h.1 ≤ 99) ∧ (0 ≤ h.2 ∧ h.2 ≤ 1000000)
/-- valid hits, by their parts -/
structure HitsOk (l : List (Int × Int)) : Prop where
  len : l.length ≤ 16
  rng : ∀ x ∈ l, hitR x
  srt : l.Pairwise fun a b => nearB a b = true
  key : l.Pairwise fun a b => a.1 ≠ b.1
theorem hitsB_ok {l : List (Int × Int)} (h : hitsB l = true) : HitsOk l := by
  unfold hitsB at h
  rw [Bool.and_eq_true] at h
  have hat : ∀ k x, l[k]? = some x → hitR x ∧ (∀ p, 0 < k → l[k - 1]? = some p → nearB p x = true) ∧ ∀ j y, j < k → l[j]? = some y → y.1 ≠ x.1 := fun k x hk => by
    have hkl := (List.getElem?_eq_some_iff.1 hk).1
    have h1 := hitsUp_at hkl h.2
    by_cases h0 : 0 < k
    · have hp : l[k - 1]? = some (l[k - 1]'(by omega)) := List.getElem?_eq_getElem (by omega)
      rw [hitOkAt_eq hk _ (fun _ => hp)] at h1
      simp only [Bool.and_eq_true, decide_eq_true_eq, Bool.or_eq_true, Bool.not_eq_true', List.any_eq_false] at h1
      obtain ⟨⟨⟨r1, r2⟩, r3⟩, r4⟩ := h1
      refine ⟨⟨r1, r2⟩, fun p _ hp' => ?_, fun j y hj hy => ?_⟩
      · rw [hp] at hp'; injection hp' with hp'; subst hp'
        rcases r3 with r3 | r3
        · omega
        · exact r3
      · have := r4 y (List.mem_of_getElem? (by rw [List.getElem?_take, if_pos hj]; exact hy))
        simpa using this
    · have hk0 : k = 0 := by omega
      subst hk0
      rw [hitOkAt_eq hk default (fun h => absurd h (by omega))] at h1
      simp only [Bool.and_eq_true, decide_eq_true_eq] at h1
      exact ⟨⟨h1.1.1.1, h1.1.1.2⟩, fun p hp => absurd hp (by omega), fun j y hj => absurd hj (by omega)⟩
  have hlt : ∀ d i x y, l[i]? = some x → l[i + 1 + d]? = some y → nearB x y = true := by
    intro d
    induction d with
    | zero => intro i x y hx hy; exact (hat _ _ hy).2.1 x (by omega) (by simpa using hx)
    | succ d ih =>
      intro i x y hx hy
      have hl := (List.getElem?_eq_some_iff.1 hy).1
      have hz : l[i + 1 + d]? = some (l[i + 1 + d]'(by omega)) := List.getElem?_eq_getElem (by omega)
      exact nearB_trans (ih i x _ hx hz) ((hat _ _ hy).2.1 _ (by omega) (by simp))
  refine ⟨of_decide_eq_true h.1, fun x hx => ?_, ?_, ?_⟩
  · obtain ⟨k, hk⟩ := List.getElem?_of_mem hx
    exact (hat k x hk).1
  · rw [List.pairwise_iff_getElem]
    intro i j hi hj hij
    have := hlt (j - (i + 1)) i l[i] l[j] (List.getElem?_eq_getElem hi) (by rw [show i + 1 + (j - (i + 1)) = j from by omega]; exact List.getElem?_eq_getElem hj)
    exact this
  · rw [List.pairwise_iff_getElem]
    intro i j hi hj hij
    exact (hat j l[j] (List.getElem?_eq_getElem hj)).2.2 i l[i] hij (List.getElem?_eq_getElem hi)
theorem HitsOk.b {l : List (Int × Int)} (h : HitsOk l) : hitsB l = true := by
  unfold hitsB
  rw [decide_eq_true h.len, Bool.true_and]
  unfold hitsUp
  rw [List.all_eq_true]
  intro k hk
  have hk := List.mem_range.1 hk
  have hx : l[k]? = some l[k] := List.getElem?_eq_getElem hk
  have hr := h.rng l[k] (List.getElem_mem hk)
  have hp : 0 < k → l[k - 1]? = some (l.getD (k - 1) default) := fun h0 => by
    rw [List.getD_eq_getElem?_getD, List.getElem?_eq_getElem (by omega)]; rfl
  rw [hitOkAt_eq hx _ hp]
  simp only [Bool.and_eq_true, decide_eq_true_eq, Bool.or_eq_true, Bool.not_eq_true', List.any_eq_false]
  refine ⟨⟨⟨hr.1, hr.2⟩, ?_⟩, fun y hy => ?_⟩
  · by_cases h0 : k = 0
    · exact .inl h0
    · have := (List.pairwise_iff_getElem.1 h.srt) (k - 1) k (by omega) hk (by omega)
      refine .inr ?_
      rw [List.getD_eq_getElem?_getD, List.getElem?_eq_getElem (by omega)]
      exact this
  · obtain ⟨j, hj⟩ := List.getElem?_of_mem hy
    rw [List.getElem?_take] at hj
    split at hj
    · rename_i hjk
      have hjl := (List.getElem?_eq_some_iff.1 hj)
      have := (List.pairwise_iff_getElem.1 h.key) j k hjl.1 hk hjk
      rw [← hjl.2]
      exact this
    · cases hj
theorem HitsOk.sub {l m : List (Int × Int)} (h : HitsOk l) (hs : m.Sublist l) : HitsOk m :=
  ⟨Nat.le_trans hs.length_le h.len, fun x hx => h.rng x (hs.subset hx), h.srt.sublist hs, h.key.sublist hs⟩
theorem cut_sub {α : Type} (l : List α) (k : Nat) : (l.take k ++ l.drop (k + 1)).Sublist l := by
  have h : (l.take k ++ l.drop (k + 1)).Sublist (l.take k ++ l.drop k) := List.Sublist.append_left (List.drop_sublist_drop_left l (Nat.le_succ k)) _
  rwa [List.take_append_drop] at h
theorem hitsB_cut {l : List (Int × Int)} (h : hitsB l = true) (k : Nat) : hitsB (l.take k ++ l.drop (k + 1)) = true := ((hitsB_ok h).sub (cut_sub l k)).b
theorem hitsB_nil : hitsB [] = true := rfl
theorem HitsOk.hitAt {l : List (Int × Int)} (h : HitsOk l) {k : Nat} {x : Int × Int} (hk : l[k]? = some x) : hitAtF l x.1 = k :=
  hitAtF_at hk rfl (fun j y hj hy => by
    have h1 := List.getElem?_eq_some_iff.1 hk
    have h2 := List.getElem?_eq_some_iff.1 hy
    have := (List.pairwise_iff_getElem.1 h.key) j k h2.1 h1.1 hj
    rw [h1.2, h2.2] at this
    exact this)
theorem HitsOk.rank {l : List (Int × Int)} (h : HitsOk l) {k : Nat} {x : Int × Int} (hk : l[k]? = some x) : rankF l x.1 = 100000 / (60 + (k : Int) + 1) := by
  unfold rankF; rw [h.hitAt hk, if_neg (by omega)]
theorem rank_none {l : List (Int × Int)} (h : HitsOk l) : rankF l 100 = 0 := by
  have : hitAtF l 100 = -1 := hitAtF_no (fun j x hx => by have := (h.rng x (List.mem_of_getElem? hx)).1; omega)
  unfold rankF; rw [this]; rfl
theorem rank_le_first {l : List (Int × Int)} (key : Int) : rankF l key ≤ 100000 / 61 := by have := (rankF_bd l key).2; omega
theorem rank_step (k : Nat) : (100000 : Int) / (60 + ((k + 1 : Nat) : Int) + 1) ≤ 100000 / (60 + (k : Int) + 1) := by
  apply Int.le_ediv_of_mul_le (by omega)
  have h1 : (100000 : Int) / (60 + ((k + 1 : Nat) : Int) + 1) * (60 + ((k + 1 : Nat) : Int) + 1) ≤ 100000 := Int.ediv_mul_le _ (by omega)
  have h2 : 0 ≤ (100000 : Int) / (60 + ((k + 1 : Nat) : Int) + 1) := Int.ediv_nonneg (by omega) (by omega)
  have h3 : (100000 : Int) / (60 + ((k + 1 : Nat) : Int) + 1) * (60 + (k : Int) + 1) ≤ (100000 : Int) / (60 + ((k + 1 : Nat) : Int) + 1) * (60 + ((k + 1 : Nat) : Int) + 1) := Int.mul_le_mul_of_nonneg_left (by omega) h2
  omega
theorem foundF_self (l : List (Int × Int)) : foundF l l = l.length := by
  unfold foundF
  rw [List.filter_eq_self.2]
  intro x hx
  rw [List.any_eq_true]
  exact ⟨x, hx, by simp⟩
theorem foundF_nil (l : List (Int × Int)) : foundF l [] = 0 := by
  unfold foundF; simp
theorem found_part (a m b : List (Int × Int)) (h : (a ++ m ++ b).Pairwise fun x y => x.1 ≠ y.1) : foundF (a ++ m ++ b) m = m.length := by
  unfold foundF
  rw [List.filter_append, List.filter_append]
  rw [List.pairwise_append, List.pairwise_append] at h
  have ha : (a.filter fun h => m.any fun x => decide (x.1 = h.1)) = [] := by
    rw [List.filter_eq_nil_iff]
    intro x hx
    simp only [List.any_eq_true, decide_eq_true_eq, not_exists, not_and]
    intro y hy he
    exact h.1.2.2 x hx y hy he.symm
  have hb : (b.filter fun h => m.any fun x => decide (x.1 = h.1)) = [] := by
    rw [List.filter_eq_nil_iff]
    intro x hx
    simp only [List.any_eq_true, decide_eq_true_eq, not_exists, not_and]
    intro y hy he
    exact h.2.2 y (List.mem_append_right _ hy) x hx he
  have hm : (m.filter fun h => m.any fun x => decide (x.1 = h.1)) = m := by
    rw [List.filter_eq_self]
    intro x hx
    rw [List.any_eq_true]
    exact ⟨x, hx, by simp⟩
  rw [ha, hb, hm]; simp
theorem found_take {l : List (Int × Int)} (h : HitsOk l) {k : Nat} (hk : k ≤ l.length) : foundF l (l.take k) = k := by
  have := found_part [] (l.take k) (l.drop k) (by simpa using h.key)
  simp only [List.nil_append, List.take_append_drop] at this
  rw [this, List.length_take]; omega
theorem found_drop {l : List (Int × Int)} (h : HitsOk l) {k : Nat} (hk : k ≤ l.length) : foundF l (l.drop k) = (l.length : Int) - k := by
  have := found_part (l.take k) (l.drop k) [] (by simpa using h.key)
  simp only [List.append_nil, List.take_append_drop] at this
  rw [this, List.length_drop]; omega
theorem recall_bd (r f : List (Int × Int)) (hr : 0 < r.length) : 0 ≤ recallF r f ∧ recallF r f ≤ 1000 := by
  have h := foundF_bd r f
  unfold recallF
  constructor
  · exact Int.ediv_nonneg (by omega) (by omega)
  · apply Int.ediv_le_of_le_mul (by omega)
    omega
theorem recall_self {l : List (Int × Int)} (h : 0 < l.length) : recallF l l = 1000 := by
  unfold recallF
  rw [foundF_self, Int.mul_ediv_cancel _ (by omega)]
theorem recall_nil (l : List (Int × Int)) : recallF l [] = 0 := by unfold recallF; rw [foundF_nil]; simp
/-- a recall is asked of valid hits, at least one-/
def recB (r f : List (Int × Int)) : Bool := hitsB r && (hitsB f && decide (0 < r.length))
def recF (r f : List (Int × Int)) : Int := if recB r f = true then recallF r f else -1
theorem recF_1 {r f : List (Int × Int)} (h : hitsB r = false) : recF r f = -1 := by unfold recF recB; rw [h]; rfl
theorem recF_2 {r f : List (Int × Int)} (h : hitsB f = false) : recF r f = -1 := by unfold recF recB; rw [h]; simp
theorem recF_3 {r f : List (Int × Int)} (h : r.length = 0) : recF r f = -1 := by unfold recF recB; rw [decide_eq_false (by omega)]; simp
theorem recF_4 {r f : List (Int × Int)} (h1 : hitsB r = true) (h2 : hitsB f = true) (h : 0 < r.length) : recF r f = recallF r f := by unfold recF recB; rw [h1, h2, decide_eq_true h]; simp
theorem hitsB_len {l : List (Int × Int)} (h : hitsB l = true) : l.length ≤ 16 := (hitsB_ok h).len
/-- the score, where the list is valid -/
def scoreF (l : List (Int × Int)) (key : Int) : Int := if hitsB l = true then rankF l key else -1
end Go.Proofs.Ytifdcdpdihfbjaa
