/- Plain facts on merged hits: merging can be regrouped. No program is named here. -/
import Derived.Test.YtifdcdpdihfbjaaPMerge
namespace Go.Proofs.Ytifdcdpdihfbjaa
open Go.RowKit
set_option linter.unusedVariables false
set_option linter.unusedSimpArgs false

theorem sortHits_perm (l : List (Int × Int)) : (sortHits l).Perm l := by rw [sortHits_eq]; exact insAll_perm l
theorem sort_perm {l m : List (Int × Int)} (h : l.Perm m) : sortHits l = sortHits m :=
  sorted_unique (sortHits_sorted l) (sortHits_sorted m) (((sortHits_perm l).trans h).trans (sortHits_perm m).symm)
/-- sorted, each key once, the k first ones -/
def mixF (k : Int) (l : List (Int × Int)) : List (Int × Int) := dedupK k (sortHits l)
theorem mix_perm {l m : List (Int × Int)} (h : l.Perm m) (k : Int) : mixF k l = mixF k m := by unfold mixF; rw [sort_perm h]
theorem len_of_sub : ∀ {l m : List Int}, l.Nodup → (∀ x ∈ l, x ∈ m) → l.length ≤ m.length
  | [], m, _, _ => Nat.zero_le _
  | x :: l, m, hn, hs => by
    have hn' := List.nodup_cons.1 hn
    have hx := hs x (by simp)
    have h1 := len_of_sub (l := l) (m := m.erase x) hn'.2 (fun y hy => by
      have hyx : y ≠ x := fun e => hn'.1 (e ▸ hy)
      exact (List.mem_erase_of_ne hyx).2 (hs y (by simp [hy])))
    have h2 := List.length_erase_of_mem hx
    have h3 : 0 < m.length := List.length_pos_of_mem hx
    simp only [List.length_cons]
    omega
theorem dedup_len_sub {s p : List (Int × Int)} (h : ∀ x ∈ s, x ∈ p) : (dedup s).length ≤ (dedup p).length := by
  have h1 := dedup_key s _ rfl
  have h2 := dedup_key p _ rfl
  have h3 := len_of_sub (l := (dedup s).map Prod.fst) (m := (dedup p).map Prod.fst) (by
    unfold List.Nodup
    rw [List.pairwise_map]
    exact h1.1) (fun k hk => by
      obtain ⟨x, hx, rfl⟩ := List.mem_map.1 hk
      obtain ⟨y, hy, he⟩ := h2.2 x (h x ((dedup_sub s _ rfl).subset hx))
      exact List.mem_map.2 ⟨y, hy, he⟩)
  simpa using h3
theorem any_key {l : List (Int × Int)} {k : Int} : (l.any fun x => decide (x.1 = k)) = true ↔ ∃ x ∈ l, x.1 = k := by simp [List.any_eq_true]
/-- what is not taken behind a part is not taken behind the whole -/
theorem skip_mono {k : Int} {s p : List (Int × Int)} {z : Int × Int} (h : ∀ x ∈ s, x ∈ p) (hz : ¬ (((dedupK k s).length : Int) < k ∧ ¬ ((dedupK k s).any fun x => decide (x.1 = z.1)) = true)) :
    ¬ (((dedupK k p).length : Int) < k ∧ ¬ ((dedupK k p).any fun x => decide (x.1 = z.1)) = true) := by
  rintro ⟨h1, h2⟩
  apply hz
  have hp : dedupK k p = dedup p := by
    rw [dedupK_eq k p _ rfl] at h1 ⊢
    rw [List.length_take] at h1
    exact List.take_of_length_le (by omega)
  rw [hp] at h1 h2
  have hl := dedup_len_sub h
  have hs : dedupK k s = dedup s := by
    rw [dedupK_eq k s _ rfl]
    exact List.take_of_length_le (by omega)
  rw [hs]
  refine ⟨by omega, fun h3 => h2 ?_⟩
  obtain ⟨x, hx, he⟩ := any_key.1 h3
  obtain ⟨y, hy, he2⟩ := (dedup_key p _ rfl).2 x (h x ((dedup_sub s _ rfl).subset hx))
  exact any_key.2 ⟨y, hy, by rw [he2, he]⟩
theorem dedupK_skip {k : Int} {p q : List (Int × Int)} {z : Int × Int} (hz : ¬ (((dedupK k p).length : Int) < k ∧ ¬ ((dedupK k p).any fun x => decide (x.1 = z.1)) = true)) : dedupK k (p ++ z :: q) = dedupK k (p ++ q) := by
  have e : p ++ z :: q = (p ++ [z]) ++ q := by simp
  have h1 := dedupK_snoc k p z
  rw [if_neg hz] at h1
  rw [e]
  unfold dedupK at h1 ⊢
  rw [List.foldl_append, h1, ← List.foldl_append]
theorem filter_split {l : List (Int × Int)} (z : Int × Int) (h : SortedH l) : SortedH (l.filter (fun y => !nearB z y) ++ z :: l.filter (nearB z)) := by
  refine List.pairwise_append.2 ⟨h.filter _, List.pairwise_cons.2 ⟨fun y hy => ?_, h.filter _⟩, fun a ha b hb => ?_⟩
  · exact nearB_asymm (List.mem_filter.1 hy).2
  · have ha' : nearB z a = false := by simpa using (List.mem_filter.1 ha).2
    rcases List.mem_cons.1 hb with e | hb
    · rw [e]; exact ha'
    · have hb' := (List.mem_filter.1 hb).2
      exact nearB_ntrans (nearB_asymm hb') ha'
theorem filter_two {l : List (Int × Int)} (z : Int × Int) (h : SortedH l) : l.filter (fun y => !nearB z y) ++ l.filter (nearB z) = l := by
  refine sorted_unique ?_ h ?_
  · refine List.pairwise_append.2 ⟨h.filter _, h.filter _, fun a ha b hb => ?_⟩
    have ha' : nearB z a = false := by simpa using (List.mem_filter.1 ha).2
    exact nearB_ntrans (nearB_asymm (List.mem_filter.1 hb).2) ha'
  · have := List.filter_append_perm (nearB z) l
    exact List.perm_append_comm.trans this
theorem mix_step (k : Int) {s c : List (Int × Int)} {z : Int × Int} (hs : ∀ x ∈ s, nearB z x = false) (hz : ¬ (((dedupK k s).length : Int) < k ∧ ¬ ((dedupK k s).any fun x => decide (x.1 = z.1)) = true)) : mixF k (s ++ z :: c) = mixF k (s ++ c) := by
  have hS := sortHits_sorted (s ++ c)
  have h1 : sortHits (s ++ z :: c) = (sortHits (s ++ c)).filter (fun y => !nearB z y) ++ z :: (sortHits (s ++ c)).filter (nearB z) := by
    refine sorted_unique (sortHits_sorted _) (filter_split z hS) ?_
    refine (sortHits_perm _).trans (List.perm_middle.trans ?_)
    refine List.Perm.trans ?_ List.perm_middle.symm
    refine List.Perm.cons z ?_
    rw [filter_two z hS]
    exact (sortHits_perm _).symm
  unfold mixF
  rw [h1, dedupK_skip (skip_mono (fun x hx => ?_) hz), filter_two z hS]
  refine List.mem_filter.2 ⟨(sortHits_perm _).mem_iff.2 (by simp [hx]), by simp [hs x hx]⟩
theorem mix_cut (k : Int) : ∀ (n : Nat) (s c : List (Int × Int)), s.length = n → SortedH s → mixF k (dedupK k s ++ c) = mixF k (s ++ c) := by
  intro n
  induction n with
  | zero => intro s c h _; rw [List.length_eq_zero_iff.1 h]; rfl
  | succ n ih =>
    intro s c h hS
    have hne : s ≠ [] := by intro e; subst e; simp at h
    have e := (List.dropLast_concat_getLast hne).symm
    generalize s.dropLast = m at *
    generalize s.getLast hne = z at *
    subst e
    have hS' := List.pairwise_append.1 hS
    have hl : m.length = n := by simpa using h
    have e2 : m ++ [z] ++ c = m ++ z :: c := by simp
    rw [dedupK_snoc, e2]
    split
    · have e3 : dedupK k m ++ [z] ++ c = dedupK k m ++ z :: c := by simp
      rw [e3, ih m (z :: c) hl hS'.1]
    · rename_i hz
      rw [ih m c hl hS'.1, mix_step k (fun x hx => hS'.2.2 x hx z (by simp)) hz]
theorem mix_mix (k : Int) (l c : List (Int × Int)) : mixF k (mixF k l ++ c) = mixF k (l ++ c) := by
  have h1 := mix_cut k _ (sortHits l) c rfl (sortHits_sorted l)
  have h2 : mixF k (sortHits l ++ c) = mixF k (l ++ c) := mix_perm (List.Perm.append_right c (sortHits_perm l)) k
  rw [← h2, ← h1]
  rfl
theorem merge_mix {a b : List (Int × Int)} (ha : HitsOk a) (hb : HitsOk b) (k : Int) : mergeF a b k = mixF k (a ++ b) := (merge_sorted ha hb k).symm
theorem merge_three {a b c : List (Int × Int)} (ha : HitsOk a) (hb : HitsOk b) (hc : HitsOk c) {k : Int} (hk : k ≤ 16) : mergeF (mergeF a b k) c k = mergeF a (mergeF b c k) k := by
  rw [merge_mix (mergeF_ok ha hb hk) hc, merge_mix ha (mergeF_ok hb hc hk), merge_mix ha hb, merge_mix hb hc, mix_mix,
    mix_perm (List.perm_append_comm (l₁ := a)), mix_mix]
  refine mix_perm ?_ k
  rw [List.append_assoc]
  exact List.perm_append_comm
end Go.Proofs.Ytifdcdpdihfbjaa
