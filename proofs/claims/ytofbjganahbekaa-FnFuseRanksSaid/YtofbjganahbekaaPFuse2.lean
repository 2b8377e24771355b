/- Plain facts on fused ranks: key after key put in from behind gives the fused list; a list fused with itself, with none, or the other way round. No program is named here. -/
import Derived.Test.YtofbjganahbekaaPFuse
namespace Go.Proofs.Ytofbjganahbekaa
open Go.RowKit Go.Sort Go.Shelf
set_option linter.unusedVariables false
set_option linter.unusedSimpArgs false

/-- where a key comes to stand: past the smaller sums -/
def backK (s : Int → Int) (h : Int) (l : List Int) : Nat → Nat
  | 0 => 0
  | i + 1 => if s (l.getD i 0) < s h then backK s h l i else i + 1
theorem backK_le (s : Int → Int) (h : Int) (l : List Int) : ∀ i, backK s h l i ≤ i
  | 0 => Nat.le_refl _
  | i + 1 => by
    unfold backK
    split
    · exact Nat.le_succ_of_le (backK_le s h l i)
    · exact Nat.le_refl _
theorem backK_step {s : Int → Int} {h : Int} {l : List Int} {i : Nat} {x : Int} (hx : l[i]? = some x) : backK s h l (i + 1) = if s x < s h then backK s h l i else i + 1 := by
  rw [backK]; simp [List.getD_eq_getElem?_getD, hx]
theorem backK_past (s : Int → Int) (h : Int) (l : List Int) : ∀ i, i ≤ l.length → ∀ j x, backK s h l i ≤ j → j < i → l[j]? = some x → s x < s h
  | 0, _, j, x, _, hj, _ => absurd hj (by omega)
  | i + 1, hi, j, x, hb, hj, hx => by
    have hl : l[i]? = some (l[i]'(by omega)) := List.getElem?_eq_getElem (by omega)
    rw [backK_step hl] at hb
    split at hb
    · rename_i hlt
      by_cases h2 : j < i
      · exact backK_past s h l i (by omega) j x hb h2 hx
      · have e : j = i := by omega
        subst e
        rw [hl] at hx; injection hx with hx
        rw [← hx]; exact hlt
    · omega
theorem backK_stop (s : Int → Int) (h : Int) (l : List Int) : ∀ i, i ≤ l.length → ∀ x, 0 < backK s h l i → l[backK s h l i - 1]? = some x → s h ≤ s x
  | 0, _, x, h0, _ => absurd h0 (by unfold backK; omega)
  | i + 1, hi, x, h0, hx => by
    have hl : l[i]? = some (l[i]'(by omega)) := List.getElem?_eq_getElem (by omega)
    rw [backK_step hl] at h0 hx
    by_cases hlt : s l[i] < s h
    · rw [if_pos hlt] at h0 hx
      exact backK_stop s h l i (by omega) x h0 hx
    · rw [if_neg hlt] at hx
      rw [Nat.add_sub_cancel, hl] at hx
      injection hx with hx
      rw [← hx]; omega
def putK (h : Int) (l : List Int) (i : Nat) : List Int := l.take i ++ h :: l.drop i
theorem putK_at {h : Int} {l : List Int} {i : Nat} (hi : i ≤ l.length) : (putK h l i)[i]? = some h := by
  unfold putK
  rw [List.getElem?_append_right (by rw [List.length_take]; omega), List.length_take, show i - min i l.length = 0 from by omega]
  rfl
theorem putK_prev {h : Int} {l : List Int} {i : Nat} {x : Int} (hx : l[i]? = some x) : (putK h l (i + 1))[i]? = some x := by
  unfold putK
  have hl := (List.getElem?_eq_some_iff.1 hx).1
  rw [List.getElem?_append_left (by rw [List.length_take]; omega), List.getElem?_take, if_pos (by omega)]
  exact hx
theorem putK_swap {h : Int} {l : List Int} {i : Nat} {x : Int} (hx : l[i]? = some x) : ((putK h l (i + 1)).set (i + 1) x).set i h = putK h l i := by
  have hl := List.getElem?_eq_some_iff.1 hx
  apply List.ext_getElem?
  intro j
  have hd : l.drop i = x :: l.drop (i + 1) := by rw [List.drop_eq_getElem_cons hl.1, hl.2]
  have ht : l.take (i + 1) = l.take i ++ [x] := take_snoc hx
  unfold putK
  rw [hd, ht, List.append_assoc]
  have hlt : (l.take i).length = i := by rw [List.length_take]; have := hl.1; omega
  rw [List.set_append, if_neg (by omega), hlt, List.set_append, if_neg (by omega), hlt]
  simp
theorem putK_all (h : Int) (l : List Int) : putK h l l.length = l ++ [h] := by
  unfold putK; simp
theorem putK_length {h : Int} {l : List Int} {i : Nat} (hi : i ≤ l.length) : (putK h l i).length = l.length + 1 := by
  unfold putK; simp; omega
theorem putK_mem {h : Int} {l : List Int} {i : Nat} (x : Int) : x ∈ putK h l i ↔ x = h ∨ x ∈ l := by
  unfold putK
  rw [List.mem_append, List.mem_cons]
  constructor
  · rintro (h1 | h1 | h1)
    · exact Or.inr (List.take_subset _ _ h1)
    · exact Or.inl h1
    · exact Or.inr (List.drop_subset _ _ h1)
  · rintro (h1 | h1)
    · exact Or.inr (Or.inl h1)
    · rw [← List.take_append_drop i l, List.mem_append] at h1
      exact h1.elim Or.inl (fun h => Or.inr (Or.inr h))
def insK (s : Int → Int) (h : Int) (l : List Int) : List Int := putK h l (backK s h l l.length)
theorem insK_len (s : Int → Int) (h : Int) (l : List Int) : (insK s h l).length = l.length + 1 := putK_length (backK_le s h l _)
theorem insK_nodup {s : Int → Int} {h : Int} {l : List Int} (hn : l.Nodup) (hh : h ∉ l) : (insK s h l).Nodup := by
  unfold insK putK
  have hp := List.perm_middle (a := h) (l₁ := l.take (backK s h l l.length)) (l₂ := l.drop (backK s h l l.length))
  rw [hp.nodup_iff, List.take_append_drop]
  exact List.nodup_cons.2 ⟨hh, hn⟩
theorem insK_sorted {s : Int → Int} {h : Int} {l : List Int} (hs : SortedF s l) (hlt : ∀ x ∈ l, x < h) : SortedF s (insK s h l) := by
  unfold insK putK
  have hb := backK_le s h l l.length
  have hpast := backK_past s h l l.length (Nat.le_refl _)
  have hstop := backK_stop s h l l.length (Nat.le_refl _)
  generalize backK s h l l.length = p at *
  have h0 := hs
  rw [← List.take_append_drop p l] at h0
  obtain ⟨h1, h2, h3⟩ := List.pairwise_append.1 h0
  have hd : ∀ b ∈ l.drop p, s b < s h := fun b hb => by
    obtain ⟨j, hj⟩ := List.getElem?_of_mem hb
    rw [List.getElem?_drop] at hj
    have := (List.getElem?_eq_some_iff.1 hj).1
    exact hpast (p + j) b (by omega) this hj
  have ht : ∀ a ∈ l.take p, s h ≤ s a := fun a ha => by
    obtain ⟨j, hj⟩ := List.getElem?_of_mem ha
    rw [List.getElem?_take] at hj
    split at hj
    · rename_i hjp
      have hl : l[p - 1]? = some (l[p - 1]'(by omega)) := List.getElem?_eq_getElem (by omega)
      have h4 := hstop _ (by omega) hl
      by_cases e : j = p - 1
      · subst e; rw [hl] at hj; injection hj with hj; rw [← hj]; exact h4
      · have hjl := List.getElem?_eq_some_iff.1 hj
        have h5 := (List.pairwise_iff_getElem.1 hs) j (p - 1) hjl.1 (by omega) (by omega)
        rw [hjl.2, aheadB_false] at h5
        omega
    · cases hj
  refine List.pairwise_append.2 ⟨h1, List.pairwise_cons.2 ⟨fun b hb => ?_, h2⟩, fun a ha b hb => ?_⟩
  · have := hd b hb
    rw [aheadB_false]; omega
  · rcases List.mem_cons.1 hb with e | hb
    · subst e
      have := ht a ha
      have := hlt a (List.take_subset _ _ ha)
      rw [aheadB_false]; omega
    · exact h3 a ha b hb
/-- key after key -/
def refL (s : Int → Int) (p : Int → Bool) : Nat → List Int
  | 0 => []
  | k + 1 => if p (k + 1) = true then insK s (k + 1) (refL s p k) else refL s p k
theorem refL_spec (s : Int → Int) (p : Int → Bool) : ∀ k : Nat, SortedF s (refL s p k) ∧ (refL s p k).Nodup ∧ (∀ x : Int, x ∈ refL s p k ↔ (1 ≤ x ∧ x ≤ k ∧ p x = true)) ∧ (refL s p k).length ≤ k
  | 0 => ⟨List.Pairwise.nil, List.Pairwise.nil, fun x => ⟨fun h => absurd h (by unfold refL; simp), fun h => by omega⟩, Nat.le_refl _⟩
  | k + 1 => by
    obtain ⟨h1, h2, h3, h4⟩ := refL_spec s p k
    rw [refL]
    split
    · rename_i hp
      refine ⟨insK_sorted h1 (fun x hx => by have := (h3 x).1 hx; omega), insK_nodup h2 (fun hx => by have := (h3 _).1 hx; omega), fun x => ?_, by rw [insK_len]; omega⟩
      unfold insK
      rw [putK_mem, h3]
      constructor
      · rintro (e | ⟨e1, e2, e3⟩)
        · subst e; exact ⟨by omega, by omega, hp⟩
        · exact ⟨e1, by omega, e3⟩
      · rintro ⟨e1, e2, e3⟩
        by_cases e : x = (k : Int) + 1
        · exact Or.inl e
        · exact Or.inr ⟨e1, by omega, e3⟩
    · rename_i hp
      refine ⟨h1, h2, fun x => ?_, by omega⟩
      rw [h3]
      constructor
      · rintro ⟨e1, e2, e3⟩; exact ⟨e1, by omega, e3⟩
      · rintro ⟨e1, e2, e3⟩
        refine ⟨e1, ?_, e3⟩
        by_cases e : x = (k : Int) + 1
        · subst e; exact absurd e3 hp
        · omega
/-- a key of one of both lists -/
def hasK (xs ys : List (Int × Int)) (k : Int) : Bool := decide (¬ (hitAtF xs k < 0 ∧ hitAtF ys k < 0))
theorem hitAt_mem (xs : List (Int × Int)) (k : Int) : ¬ hitAtF xs k < 0 ↔ k ∈ xs.map Prod.fst := by
  have h := any_hitAt xs k
  constructor
  · intro h0
    have h1 : (xs.any fun x => decide (x.1 = k)) = true := by rw [h]; exact decide_eq_true (by omega)
    rw [List.any_eq_true] at h1
    obtain ⟨x, hx, hk⟩ := h1
    exact List.mem_map.2 ⟨x, hx, of_decide_eq_true hk⟩
  · intro h0
    obtain ⟨x, hx, hk⟩ := List.mem_map.1 h0
    have h1 : (xs.any fun x => decide (x.1 = k)) = true := List.any_eq_true.2 ⟨x, hx, decide_eq_true hk⟩
    rw [h1] at h
    have := of_decide_eq_true h.symm
    omega
theorem hasK_iff {xs ys : List (Int × Int)} (k : Int) : hasK xs ys k = true ↔ k ∈ (xs ++ ys).map Prod.fst := by
  unfold hasK
  rw [decide_eq_true_iff, List.map_append, List.mem_append, ← hitAt_mem, ← hitAt_mem]
  omega
/-- the reference's list -/
theorem refL_fuse {xs ys : List (Int × Int)} (hx : hitsB xs = true) (hy : hitsB ys = true) : refL (sumF xs ys) (hasK xs ys) 99 = fuseL xs ys := by
  obtain ⟨h1, h2, h3, _⟩ := refL_spec (sumF xs ys) (hasK xs ys) 99
  refine fuseL_unique h1 h2 (fun k => ?_)
  rw [h3, hasK_iff]
  refine ⟨fun h => h.2.2, fun h => ⟨?_, ?_, h⟩⟩
  all_goals
    obtain ⟨x, hxm, rfl⟩ := List.mem_map.1 h
    rw [List.mem_append] at hxm
    have hr : hitR x := hxm.elim (fun h => (hitsB_ok hx).rng x h) (fun h => (hitsB_ok hy).rng x h)
    have := hr.1
    omega
/-- a list fused with itself, or with none -/
theorem rank_up {xs : List (Int × Int)} (h : HitsOk xs) {i j : Nat} {x y : Int × Int} (hi : xs[i]? = some x) (hj : xs[j]? = some y) (hij : i < j) : rankF xs y.1 < rankF xs x.1 := by
  rw [h.rank hi, h.rank hj]
  have hl := (List.getElem?_eq_some_iff.1 hj).1
  have := h.len
  have hj16 : j < 16 := by omega
  have : ∀ i : Fin 16, ∀ j : Fin 16, i.1 < j.1 → (100000 : Int) / (60 + (j.1 : Int) + 1) < 100000 / (60 + (i.1 : Int) + 1) := by decide
  exact this ⟨i, by omega⟩ ⟨j, hj16⟩ hij
theorem keys_sorted {xs : List (Int × Int)} (h : HitsOk xs) {s : Int → Int} (hs : ∀ (i j : Nat) (x y : Int × Int), i < j → xs[i]? = some x → xs[j]? = some y → s y.1 < s x.1) : SortedF s (xs.map Prod.fst) := by
  unfold SortedF
  rw [List.pairwise_map, List.pairwise_iff_getElem]
  intro i j hi hj hij
  have := hs i j xs[i] xs[j] hij (List.getElem?_eq_getElem hi) (List.getElem?_eq_getElem hj)
  rw [aheadB_false]; omega
theorem keys_nodup {xs : List (Int × Int)} (h : HitsOk xs) : (xs.map Prod.fst).Nodup := by
  unfold List.Nodup
  rw [List.pairwise_map]
  exact h.key
theorem rankF_nil (k : Int) : rankF [] k = 0 := rfl
theorem fuse_self {xs : List (Int × Int)} (hx : hitsB xs = true) : FuseF xs xs = xs.map Prod.fst := by
  rw [FuseF_ok hx hx]
  have h := hitsB_ok hx
  refine (fuseL_unique (keys_sorted h (fun i j x y hij hi hj => ?_)) (keys_nodup h) (fun k => ?_)).symm
  · have := rank_up h hi hj hij
    unfold sumF; omega
  · rw [List.map_append, List.mem_append]
    exact ⟨Or.inl, fun h => h.elim id id⟩
theorem fuse_nil {xs : List (Int × Int)} (hx : hitsB xs = true) : FuseF xs [] = xs.map Prod.fst := by
  rw [FuseF_ok hx hitsB_nil]
  have h := hitsB_ok hx
  refine (fuseL_unique (keys_sorted h (fun i j x y hij hi hj => ?_)) (keys_nodup h) (fun k => ?_)).symm
  · have := rank_up h hi hj hij
    unfold sumF; rw [rankF_nil, rankF_nil]; omega
  · rw [List.append_nil]
theorem fuse_comm (xs ys : List (Int × Int)) : FuseF ys xs = FuseF xs ys := by
  cases hx : hitsB xs with
  | false => rw [FuseF_no1 hx, FuseF_no2 hx]
  | true =>
    cases hy : hitsB ys with
    | false => rw [FuseF_no1 hy, FuseF_no2 hy]
    | true =>
      rw [FuseF_ok hx hy, FuseF_ok hy hx]
      have e : sumF ys xs = sumF xs ys := by funext k; unfold sumF; omega
      refine fuseL_unique ?_ (fuseL_nodup _ _) (fun k => ?_)
      · have := fuseL_sorted ys xs; rw [e] at this; exact this
      · rw [fuseL_mem, List.map_append, List.map_append, List.mem_append, List.mem_append]
        exact ⟨Or.symm, Or.symm⟩
/-- what a law asks of the fused keys -/
theorem fuse_pos {xs ys : List (Int × Int)} (hx : hitsB xs = true) (hy : hitsB ys = true) {k : Int} (hk : k ∈ FuseF xs ys) : 1 ≤ rankF xs k + rankF ys k := by
  rw [FuseF_ok hx hy, fuseL_mem, List.map_append, List.mem_append] at hk
  have pos : ∀ zs : List (Int × Int), hitsB zs = true → k ∈ zs.map Prod.fst → 1 ≤ rankF zs k := fun zs hz hm => by
    obtain ⟨x, hxm, rfl⟩ := List.mem_map.1 hm
    obtain ⟨i, hi⟩ := List.getElem?_of_mem hxm
    have h := hitsB_ok hz
    rw [h.rank hi]
    have hl := (List.getElem?_eq_some_iff.1 hi).1
    have := h.len
    apply Int.le_ediv_of_mul_le <;> omega
  have h1 := (rankF_bd xs k).1
  have h2 := (rankF_bd ys k).1
  rcases hk with hk | hk
  · have := pos xs hx hk; omega
  · have := pos ys hy hk; omega
theorem fuse_new {xs ys : List (Int × Int)} {i : Nat} {k : Int} (hk : (FuseF xs ys)[i]? = some k) : k ∉ (FuseF xs ys).take i := by
  have hn : (FuseF xs ys).Nodup := by
    unfold FuseF
    split
    · exact fuseL_nodup _ _
    · exact List.Pairwise.nil
  have hl := List.getElem?_eq_some_iff.1 hk
  intro hm
  obtain ⟨j, hj⟩ := List.getElem?_of_mem hm
  rw [List.getElem?_take] at hj
  split at hj
  · rename_i hji
    have hjl := List.getElem?_eq_some_iff.1 hj
    exact (List.pairwise_iff_getElem.1 hn) j i hjl.1 hl.1 hji (by rw [hjl.2, hl.2])
  · cases hj
theorem fuse_next {xs ys : List (Int × Int)} {i : Nat} {k h : Int} (hk : (FuseF xs ys)[i + 1]? = some k) (hh : (FuseF xs ys)[i]? = some h) : ¬ (rankF xs h + rankF ys h < rankF xs k + rankF ys k ∨ (rankF xs h + rankF ys h = rankF xs k + rankF ys k ∧ k ≤ h)) := by
  have hs : SortedF (sumF xs ys) (FuseF xs ys) := by
    unfold FuseF
    split
    · exact fuseL_sorted _ _
    · exact List.Pairwise.nil
  have hne := fuse_new hk
  have hl := List.getElem?_eq_some_iff.1 hk
  have hl2 := List.getElem?_eq_some_iff.1 hh
  have h5 := (List.pairwise_iff_getElem.1 hs) i (i + 1) hl2.1 hl.1 (by omega)
  rw [hl.2, hl2.2, aheadB_false] at h5
  have h6 : h ≠ k := fun e => hne (by rw [← e]; exact List.mem_of_getElem? (i := i) (by rw [List.getElem?_take, if_pos (by omega)]; exact hh))
  unfold sumF at h5
  omega
theorem fuse_has {xs ys : List (Int × Int)} (hx : hitsB xs = true) (hy : hitsB ys = true) {x : Int × Int} (h : x ∈ xs ∨ x ∈ ys) : x.1 ∈ FuseF xs ys := by
  rw [FuseF_ok hx hy, fuseL_mem]
  exact List.mem_map.2 ⟨x, List.mem_append.2 h, rfl⟩
end Go.Proofs.Ytofbjganahbekaa
