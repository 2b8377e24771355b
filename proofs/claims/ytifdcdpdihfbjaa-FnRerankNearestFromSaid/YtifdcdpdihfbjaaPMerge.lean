/- Plain facts on merged hits. No program is named here. -/
import Derived.Test.YtifdcdpdihfbjaaPHits2
namespace Go.Proofs.Ytifdcdpdihfbjaa
open Go.RowKit
set_option linter.unusedVariables false

/-- no hit of the list has the key and a smaller distance -/
def leastB (l : List (Int × Int)) (h : Int × Int) : Bool := l.all fun x => decide (x.1 = h.1 → h.2 ≤ x.2)
def lessB (l : List (Int × Int)) (h : Int × Int) : Bool := l.all fun x => decide (x.1 = h.1 → h.2 < x.2)
/-- of two with the same key the nearer one -/
def minsF (a b : List (Int × Int)) : List (Int × Int) := a.filter (leastB b) ++ b.filter (lessB a)
def mergeF (a b : List (Int × Int)) (k : Int) : List (Int × Int) := addAll k (minsF a b)
theorem mergeF_eq (a b : List (Int × Int)) (k : Int) : mergeF a b k = (insAll (minsF a b)).take k.toNat := addAll_eq k _
theorem leastB_iff {l : List (Int × Int)} {h : Int × Int} : leastB l h = true ↔ ∀ x ∈ l, x.1 = h.1 → h.2 ≤ x.2 := by unfold leastB; simp only [List.all_eq_true, decide_eq_true_eq]
theorem lessB_iff {l : List (Int × Int)} {h : Int × Int} : lessB l h = true ↔ ∀ x ∈ l, x.1 = h.1 → h.2 < x.2 := by unfold lessB; simp only [List.all_eq_true, decide_eq_true_eq]
/-- what the reference asks by the place of the key -/
theorem key_unique {l : List (Int × Int)} (hl : HitsOk l) {x y : Int × Int} (hx : x ∈ l) (hy : y ∈ l) (h : x.1 = y.1) : x = y := by
  obtain ⟨i, hi⟩ := List.getElem?_of_mem hx
  obtain ⟨j, hj⟩ := List.getElem?_of_mem hy
  have hi' := List.getElem?_eq_some_iff.1 hi
  have hj' := List.getElem?_eq_some_iff.1 hj
  have hp := List.pairwise_iff_getElem.1 hl.key
  rcases Nat.lt_trichotomy i j with h1 | h1 | h1
  · have := hp i j hi'.1 hj'.1 h1
    rw [hi'.2, hj'.2] at this
    exact absurd h this
  · subst h1
    rw [hi] at hj; injection hj
  · have := hp j i hj'.1 hi'.1 h1
    rw [hi'.2, hj'.2] at this
    exact absurd h.symm this
theorem least_at {l : List (Int × Int)} (hl : HitsOk l) (h : Int × Int) : leastB l h = (decide (hitAtF l h.1 < 0) || decide (h.2 ≤ (l.getD (hitAtF l h.1).toNat default).2)) := by
  rw [Bool.eq_iff_iff, leastB_iff, Bool.or_eq_true, decide_eq_true_eq, decide_eq_true_eq]
  rcases hitAtF_spec l h.1 with ⟨h1, h2⟩ | ⟨k, x, h1, h2, h3, _⟩
  · rw [h1]
    exact ⟨fun _ => .inl (by omega), fun _ x hx he => absurd he (h2 x hx)⟩
  · rw [h1]
    have e : l.getD ((k : Int)).toNat default = x := by simp [List.getD_eq_getElem?_getD, h2]
    rw [e]
    constructor
    · intro hh
      exact .inr (hh x (List.mem_of_getElem? h2) h3)
    · rintro (hh | hh) y hy he
      · omega
      · have : y = x := key_unique hl hy (List.mem_of_getElem? h2) (by rw [he, h3])
        rw [this]; exact hh
theorem less_at {l : List (Int × Int)} (hl : HitsOk l) (h : Int × Int) : lessB l h = (decide (hitAtF l h.1 < 0) || decide (h.2 < (l.getD (hitAtF l h.1).toNat default).2)) := by
  rw [Bool.eq_iff_iff, lessB_iff, Bool.or_eq_true, decide_eq_true_eq, decide_eq_true_eq]
  rcases hitAtF_spec l h.1 with ⟨h1, h2⟩ | ⟨k, x, h1, h2, h3, _⟩
  · rw [h1]
    exact ⟨fun _ => .inl (by omega), fun _ x hx he => absurd he (h2 x hx)⟩
  · rw [h1]
    have e : l.getD ((k : Int)).toNat default = x := by simp [List.getD_eq_getElem?_getD, h2]
    rw [e]
    constructor
    · intro hh
      exact .inr (hh x (List.mem_of_getElem? h2) h3)
    · rintro (hh | hh) y hy he
      · omega
      · have : y = x := key_unique hl hy (List.mem_of_getElem? h2) (by rw [he, h3])
        rw [this]; exact hh
/-- an element of the minimal ones -/
def MinOf (l : List (Int × Int)) (h : Int × Int) : Prop := h ∈ l ∧ ∀ x ∈ l, x.1 = h.1 → h.2 ≤ x.2
theorem minsF_mem {a b : List (Int × Int)} (ha : HitsOk a) (hb : HitsOk b) (h : Int × Int) : h ∈ minsF a b ↔ MinOf (a ++ b) h := by
  unfold minsF MinOf
  simp only [List.mem_append, List.mem_filter, leastB_iff, lessB_iff]
  constructor
  · rintro (⟨h1, h2⟩ | ⟨h1, h2⟩)
    · refine ⟨.inl h1, fun x hx he => ?_⟩
      rcases hx with hx | hx
      · rw [key_unique ha hx h1 he]; exact Int.le_refl _
      · exact h2 x hx he
    · refine ⟨.inr h1, fun x hx he => ?_⟩
      rcases hx with hx | hx
      · exact Int.le_of_lt (h2 x hx he)
      · rw [key_unique hb hx h1 he]; exact Int.le_refl _
  · rintro ⟨h1 | h1, h2⟩
    · exact .inl ⟨h1, fun x hx he => h2 x (.inr hx) he⟩
    · by_cases hc : h ∈ a
      · exact .inl ⟨hc, fun x hx he => h2 x (.inr hx) he⟩
      · refine .inr ⟨h1, fun x hx he => ?_⟩
        have h3 := h2 x (.inl hx) he
        rcases Int.lt_or_eq_of_le h3 with h4 | h4
        · exact h4
        · have : x = h := Prod.ext he h4.symm
          rw [this] at hx
          exact absurd hx hc
theorem minsF_key {a b : List (Int × Int)} (ha : HitsOk a) (hb : HitsOk b) : (minsF a b).Pairwise fun x y => x.1 ≠ y.1 := by
  unfold minsF
  rw [List.pairwise_append]
  refine ⟨ha.key.filter _, hb.key.filter _, fun x hx y hy he => ?_⟩
  have h1 := List.mem_filter.1 hx
  have h2 := List.mem_filter.1 hy
  have h3 := lessB_iff.1 h2.2 x h1.1 he
  have h4 := leastB_iff.1 h1.2 y h2.1 he.symm
  omega
theorem nodup_of_key {l : List (Int × Int)} (h : l.Pairwise fun x y => x.1 ≠ y.1) : l.Nodup := h.imp (fun h e => h (by rw [e]))
/-- sorted lists with the same elements, none twice, are one -/
theorem sorted_ext {l m : List (Int × Int)} (hl : SortedH l) (hm : SortedH m) (nl : l.Nodup) (nm : m.Nodup) (h : ∀ x, x ∈ l ↔ x ∈ m) : l = m :=
  sorted_unique hl hm ((List.perm_ext_iff_of_nodup nl nm).2 h)
theorem insAll_nodup {l : List (Int × Int)} (h : l.Nodup) : (insAll l).Nodup := (insAll_perm l).nodup_iff.2 h
theorem mergeAll_ext {a b c d : List (Int × Int)} (ha : HitsOk a) (hb : HitsOk b) (hc : HitsOk c) (hd : HitsOk d) (h : ∀ x, x ∈ a ++ b ↔ x ∈ c ++ d) : insAll (minsF a b) = insAll (minsF c d) :=
  sorted_ext (insAll_sorted _) (insAll_sorted _) (insAll_nodup (nodup_of_key (minsF_key ha hb))) (insAll_nodup (nodup_of_key (minsF_key hc hd))) (fun x => by
    rw [(insAll_perm _).mem_iff, (insAll_perm _).mem_iff, minsF_mem ha hb, minsF_mem hc hd]
    unfold MinOf
    constructor
    · rintro ⟨h1, h2⟩; exact ⟨(h x).1 h1, fun y hy => h2 y ((h y).2 hy)⟩
    · rintro ⟨h1, h2⟩; exact ⟨(h x).2 h1, fun y hy => h2 y ((h y).1 hy)⟩)
theorem mergeF_comm {a b : List (Int × Int)} (ha : HitsOk a) (hb : HitsOk b) (k : Int) : mergeF b a k = mergeF a b k := by
  rw [mergeF_eq, mergeF_eq, mergeAll_ext hb ha ha hb (fun x => by simp [or_comm])]
theorem HitsOk.sorted {l : List (Int × Int)} (h : HitsOk l) : SortedH l := h.srt.imp (fun h => nearB_asymm h)
theorem mergeF_self {a : List (Int × Int)} (ha : HitsOk a) (k : Int) : mergeF a a k = a.take k.toNat := by
  rw [mergeF_eq]
  congr 1
  refine sorted_ext (insAll_sorted _) ha.sorted (insAll_nodup (nodup_of_key (minsF_key ha ha))) (nodup_of_key ha.key) (fun x => ?_)
  rw [(insAll_perm _).mem_iff, minsF_mem ha ha]
  unfold MinOf
  constructor
  · rintro ⟨h1, _⟩; simpa using h1
  · intro h1
    refine ⟨by simp [h1], fun y hy he => ?_⟩
    have hy' : y ∈ a := by simpa using hy
    rw [key_unique ha hy' h1 he]; exact Int.le_refl _
/-- merged hits are valid -/
theorem mergeF_ok {a b : List (Int × Int)} (ha : HitsOk a) (hb : HitsOk b) {k : Int} (hk : k ≤ 16) : HitsOk (mergeF a b k) := by
  rw [mergeF_eq]
  have hmem : ∀ x ∈ insAll (minsF a b), x ∈ a ∨ x ∈ b := fun x hx => by
    rw [(insAll_perm _).mem_iff, minsF_mem ha hb] at hx
    simpa using hx.1
  have hkey : (insAll (minsF a b)).Pairwise fun x y => x.1 ≠ y.1 := ((insAll_perm _).pairwise_iff (fun h e => h e.symm)).2 (minsF_key ha hb)
  refine ⟨by rw [List.length_take]; omega, fun x hx => ?_, ?_, hkey.sublist (List.take_sublist _ _)⟩
  · rcases hmem x (List.mem_of_mem_take hx) with h | h
    · exact ha.rng x h
    · exact hb.rng x h
  · refine List.Pairwise.sublist (List.take_sublist _ _) ?_
    have hs := insAll_sorted (minsF a b)
    refine (List.Pairwise.and hs hkey).imp (fun {x y} h => ?_)
    cases hn : nearB x y with
    | true => rfl
    | false => exact absurd (by rw [nearB_anti hn h.1]) h.2
theorem mergeF_mem {a b : List (Int × Int)} (ha : HitsOk a) (hb : HitsOk b) {k : Int} {x : Int × Int} (hx : x ∈ mergeF a b k) : x ∈ a ∨ x ∈ b := by
  rw [mergeF_eq] at hx
  have := List.mem_of_mem_take hx
  rw [(insAll_perm _).mem_iff, minsF_mem ha hb] at this
  simpa using this.1
/-- the program's way: the sorted hits, each key once -/
def dedup (l : List (Int × Int)) : List (Int × Int) := l.foldl (fun out h => if (out.any fun x => decide (x.1 = h.1)) = true then out else out ++ [h]) []
def dedupK (k : Int) (l : List (Int × Int)) : List (Int × Int) := l.foldl (fun out h => if ((out.length : Int) < k ∧ ¬ (out.any fun x => decide (x.1 = h.1)) = true) then out ++ [h] else out) []
theorem dedup_snoc (l : List (Int × Int)) (h : Int × Int) : dedup (l ++ [h]) = if ((dedup l).any fun x => decide (x.1 = h.1)) = true then dedup l else dedup l ++ [h] := by
  unfold dedup; rw [List.foldl_append]; rfl
theorem dedupK_snoc (k : Int) (l : List (Int × Int)) (h : Int × Int) : dedupK k (l ++ [h]) = if (((dedupK k l).length : Int) < k ∧ ¬ ((dedupK k l).any fun x => decide (x.1 = h.1)) = true) then dedupK k l ++ [h] else dedupK k l := by
  unfold dedupK; rw [List.foldl_append]; rfl
theorem dedup_sub (l : List (Int × Int)) : ∀ n, l.length = n → (dedup l).Sublist l := by
  intro n
  induction n generalizing l with
  | zero => intro h; rw [List.length_eq_zero_iff.1 h]; exact List.Sublist.refl _
  | succ n ih =>
    intro h
    have hne : l ≠ [] := by intro e; subst e; simp at h
    have e := (List.dropLast_concat_getLast hne).symm
    generalize l.dropLast = m at *
    generalize l.getLast hne = x at *
    subst e
    have hm := ih m (by simpa using h)
    rw [dedup_snoc]
    split
    · exact hm.trans (List.sublist_append_left _ _)
    · exact List.Sublist.append hm (List.Sublist.refl _)
theorem dedup_key (l : List (Int × Int)) : ∀ n, l.length = n → (dedup l).Pairwise (fun x y => x.1 ≠ y.1) ∧ ∀ x ∈ l, ∃ y ∈ dedup l, y.1 = x.1 := by
  intro n
  induction n generalizing l with
  | zero => intro h; rw [List.length_eq_zero_iff.1 h]; exact ⟨List.Pairwise.nil, fun x hx => by cases hx⟩
  | succ n ih =>
    intro h
    have hne : l ≠ [] := by intro e; subst e; simp at h
    have e := (List.dropLast_concat_getLast hne).symm
    generalize l.dropLast = m at *
    generalize l.getLast hne = x at *
    subst e
    obtain ⟨h1, h2⟩ := ih m (by simpa using h)
    rw [dedup_snoc]
    split
    · rename_i ha
      refine ⟨h1, fun y hy => ?_⟩
      rcases List.mem_append.1 hy with hy | hy
      · exact h2 y hy
      · rw [List.mem_singleton.1 hy]
        obtain ⟨z, hz, he⟩ := List.any_eq_true.1 ha
        exact ⟨z, hz, of_decide_eq_true he⟩
    · rename_i ha
      refine ⟨List.pairwise_append.2 ⟨h1, List.pairwise_singleton _ _, fun y hy z hz he => ?_⟩, fun y hy => ?_⟩
      · rw [List.mem_singleton.1 hz] at he
        exact ha (List.any_eq_true.2 ⟨y, hy, decide_eq_true he⟩)
      · rcases List.mem_append.1 hy with hy | hy
        · obtain ⟨z, hz, he⟩ := h2 y hy
          exact ⟨z, List.mem_append_left _ hz, he⟩
        · rw [List.mem_singleton.1 hy]
          exact ⟨x, by simp, rfl⟩
theorem dedup_min (l : List (Int × Int)) : ∀ n, l.length = n → SortedH l → ∀ y ∈ dedup l, MinOf l y := by
  intro n
  induction n generalizing l with
  | zero => intro h _ y hy; rw [List.length_eq_zero_iff.1 h] at hy; cases hy
  | succ n ih =>
    intro h hs
    have hne : l ≠ [] := by intro e; subst e; simp at h
    have e := (List.dropLast_concat_getLast hne).symm
    generalize l.dropLast = m at *
    generalize l.getLast hne = x at *
    subst e
    have hml : m.length = n := by simpa using h
    have hs' := List.pairwise_append.1 hs
    have h1 := ih m hml hs'.1
    have hlast : ∀ y ∈ m, y.2 ≤ x.2 := fun y hy => by
      have := hs'.2.2 y hy x (by simp)
      rw [nearB_false] at this; omega
    intro y hy
    rw [dedup_snoc] at hy
    have old : ∀ y ∈ dedup m, MinOf (m ++ [x]) y := fun y hy => by
      obtain ⟨k1, k2⟩ := h1 y hy
      refine ⟨List.mem_append_left _ k1, fun z hz he => ?_⟩
      rcases List.mem_append.1 hz with hz | hz
      · exact k2 z hz he
      · rw [List.mem_singleton.1 hz]; exact hlast y k1
    split at hy
    · exact old y hy
    · rename_i ha
      rcases List.mem_append.1 hy with hy | hy
      · exact old y hy
      · rw [List.mem_singleton.1 hy]
        refine ⟨by simp, fun z hz he => ?_⟩
        rcases List.mem_append.1 hz with hz | hz
        · obtain ⟨u, hu, hue⟩ := (dedup_key m n hml).2 z hz
          exact absurd (List.any_eq_true.2 ⟨u, hu, decide_eq_true (by rw [hue, he])⟩) ha
        · rw [List.mem_singleton.1 hz]; exact Int.le_refl _
theorem dedup_sort {a b : List (Int × Int)} (ha : HitsOk a) (hb : HitsOk b) : dedup (sortHits (a ++ b)) = insAll (minsF a b) := by
  have hS := sortHits_sorted (a ++ b)
  have hP : (sortHits (a ++ b)).Perm (a ++ b) := List.mergeSort_perm _ _
  obtain ⟨hk1, hk2⟩ := dedup_key _ _ (rfl : (sortHits (a ++ b)).length = _)
  refine sorted_ext (hS.sublist (dedup_sub _ _ rfl)) (insAll_sorted _) (nodup_of_key hk1) (insAll_nodup (nodup_of_key (minsF_key ha hb))) (fun x => ?_)
  rw [(insAll_perm _).mem_iff, minsF_mem ha hb]
  constructor
  · intro hx
    obtain ⟨h1, h2⟩ := dedup_min _ _ rfl hS x hx
    exact ⟨hP.mem_iff.1 h1, fun y hy => h2 y (hP.mem_iff.2 hy)⟩
  · rintro ⟨h1, h2⟩
    obtain ⟨y, hy, he⟩ := hk2 x (hP.mem_iff.2 h1)
    obtain ⟨h3, h4⟩ := dedup_min _ _ rfl hS y hy
    have h5 := h4 x (hP.mem_iff.2 h1) he.symm
    have h6 := h2 y (hP.mem_iff.1 h3) he
    have : x = y := Prod.ext he.symm (by omega)
    rw [this]; exact hy
theorem dedupK_eq (k : Int) (l : List (Int × Int)) : ∀ n, l.length = n → dedupK k l = (dedup l).take k.toNat := by
  intro n
  induction n generalizing l with
  | zero => intro h; rw [List.length_eq_zero_iff.1 h]; simp [dedupK, dedup]
  | succ n ih =>
    intro h
    have hne : l ≠ [] := by intro e; subst e; simp at h
    have e := (List.dropLast_concat_getLast hne).symm
    generalize l.dropLast = m at *
    generalize l.getLast hne = x at *
    subst e
    rw [dedupK_snoc, dedup_snoc, ih m (by simpa using h)]
    by_cases hlt : ((((dedup m).take k.toNat).length : Int) < k)
    · have hlen : (dedup m).length < k.toNat := by rw [List.length_take] at hlt; omega
      rw [List.take_of_length_le (Nat.le_of_lt hlen)]
      by_cases ha : ((dedup m).any fun y => decide (y.1 = x.1)) = true
      · rw [if_neg (fun h => h.2 ha), if_pos ha, List.take_of_length_le (Nat.le_of_lt hlen)]
      · rw [if_pos ⟨by omega, ha⟩, if_neg ha, List.take_of_length_le (by simp; omega)]
    · rw [if_neg (fun h => hlt h.1)]
      have hlen : k.toNat ≤ (dedup m).length := by rw [List.length_take] at hlt; omega
      split
      · rfl
      · rw [List.take_append_of_le_length hlen]
theorem merge_sorted {a b : List (Int × Int)} (ha : HitsOk a) (hb : HitsOk b) (k : Int) : dedupK k (sortHits (a ++ b)) = mergeF a b k := by
  rw [dedupK_eq k _ _ rfl, dedup_sort ha hb, mergeF_eq]
end Go.Proofs.Ytifdcdpdihfbjaa
