/- Plain facts on nearest hits of a valid store: valid hits; who is among them; parts; recall. No program is named here. -/
import Derived.Test.YtifdcdpdihfbjaaPMerge2
import Derived.Test.YtifdcdpdihfbjaaPStore2
namespace Go.Proofs.Ytifdcdpdihfbjaa
open Go.RowKit
set_option linter.unusedVariables false
set_option linter.unusedSimpArgs false

theorem storeB_sub {l m : List It} (h : storeB l = true) (hs : m.Sublist l) : storeB m = true :=
  storeB_of (Nat.le_trans hs.length_le (storeB_len h)) (fun x hx => storeB_mem h (hs.subset hx)) ((storeB_pw h).sublist hs)
theorem storeB_vec {l : List It} (h : storeB l = true) {x : It} (hx : x ∈ l) : vecB x.vec = true := ((itemB_iff _).1 (storeB_mem h hx)).2.1
theorem dist_rng {kind : Int} {a b : List Int} (ha : vecB a = true) (hb : vecB b = true) : 0 ≤ distF kind a b ∧ distF kind a b ≤ 160000 := by
  have h := distF_bd (kind := kind) (vecB_small ha) (vecB_small hb)
  rw [vecB_len ha] at h
  omega
theorem hits_key (kind : Int) (at_ : List Int) {l : List It} (h : storeB l = true) : (hitsOf kind at_ l).Pairwise fun a b => a.1 ≠ b.1 := by
  unfold hitsOf
  rw [List.pairwise_map]
  exact (storeB_pw h).imp (fun h => by simp only []; omega)
theorem hits_mem {kind : Int} {at_ : List Int} {l : List It} {x : Int × Int} : x ∈ hitsOf kind at_ l ↔ ∃ z ∈ l, x = (z.key, distF kind z.vec at_) := by
  unfold hitsOf
  rw [List.mem_map]
  exact ⟨fun ⟨z, hz, e⟩ => ⟨z, hz, e.symm⟩, fun ⟨z, hz, e⟩ => ⟨z, hz, e.symm⟩⟩
/-- all hits in order -/
theorem all_srt (kind : Int) (at_ : List Int) {l : List It} (h : storeB l = true) : (insAll (hitsOf kind at_ l)).Pairwise fun a b => nearB a b = true := by
  have h1 := insAll_sorted (hitsOf kind at_ l)
  have h2 : (insAll (hitsOf kind at_ l)).Nodup := insAll_nodup (nodup_of_key (hits_key kind at_ h))
  have := h1.and h2
  refine this.imp (fun {a b} hab => ?_)
  cases hn : nearB a b with
  | true => rfl
  | false => exact absurd (nearB_anti hn hab.1) hab.2
theorem all_key (kind : Int) (at_ : List Int) {l : List It} (h : storeB l = true) : (insAll (hitsOf kind at_ l)).Pairwise fun a b => a.1 ≠ b.1 :=
  (insAll_perm _).symm.pairwise (hits_key kind at_ h) (fun hab e => hab e.symm)
theorem all_ok (kind : Int) {at_ : List Int} {l : List It} (h : storeB l = true) (ha : vecB at_ = true) : HitsOk (insAll (hitsOf kind at_ l)) where
  len := by rw [(insAll_perm _).length_eq, hitsOf_length]; exact storeB_len h
  rng x hx := by
    obtain ⟨z, hz, rfl⟩ := hits_mem.1 ((insAll_perm _).mem_iff.1 hx)
    have h1 := (itemB_iff _).1 (storeB_mem h hz)
    have h2 := dist_rng (kind := kind) h1.2.1 ha
    exact ⟨h1.1, by simp only []; omega⟩
  srt := all_srt kind at_ h
  key := all_key kind at_ h
theorem near_ok {kind k : Int} {at_ : List Int} {l : List It} (h : storeB l = true) (ha : vecB at_ = true) : HitsOk (nearestF l kind at_ k) := (all_ok kind h ha).sub (List.take_sublist _ _)
theorem all_mem {kind : Int} {at_ : List Int} {l : List It} {z : It} (hz : z ∈ l) : (z.key, distF kind z.vec at_) ∈ insAll (hitsOf kind at_ l) := (insAll_perm _).mem_iff.2 (hits_mem.2 ⟨z, hz, rfl⟩)
theorem all_of_key {kind : Int} {at_ : List Int} {l : List It} (h : storeB l = true) {z : It} (hz : z ∈ l) {x : Int × Int} (hx : x ∈ insAll (hitsOf kind at_ l)) (e : x.1 = z.key) : x = (z.key, distF kind z.vec at_) := by
  obtain ⟨y, hy, rfl⟩ := hits_mem.1 ((insAll_perm _).mem_iff.1 hx)
  obtain ⟨i, hi⟩ := List.getElem?_of_mem hy
  obtain ⟨j, hj⟩ := List.getElem?_of_mem hz
  have e' : y.key = z.key := e
  rcases Nat.lt_trichotomy i j with h1 | h1 | h1
  · have := storeB_lt h hi hj h1; omega
  · subst h1; rw [hi] at hj; injection hj with hj; rw [hj]
  · have := storeB_lt h hj hi h1; omega
/-- an item is among the nearest if it is not behind the last of them -/
theorem near_in {kind k : Int} {at_ : List Int} {l : List It} (h : storeB l = true) (ha : vecB at_ = true) {m : Nat} {last : Int × Int} (hm : (nearestF l kind at_ k).length = m + 1) (hlast : (nearestF l kind at_ k)[m]? = some last) {z : It} (hz : z ∈ l) :
    (z.key ∈ (nearestF l kind at_ k).map Prod.fst) ↔ (distF kind z.vec at_ < last.2 ∨ (distF kind z.vec at_ = last.2 ∧ z.key ≤ last.1)) := by
  have hS := all_srt kind at_ h
  have hmem := all_mem (kind := kind) (at_ := at_) hz
  have hkey := fun x hx => all_of_key (kind := kind) (at_ := at_) h hz (x := x) hx
  unfold nearestF at *
  generalize insAll (hitsOf kind at_ l) = S at *
  generalize k.toNat = q at *
  rw [List.length_take] at hm
  rw [List.getElem?_take] at hlast
  split at hlast
  · rename_i hmq
    have hl := List.getElem?_eq_some_iff.1 hlast
    obtain ⟨j, hj⟩ := List.getElem?_of_mem hmem
    have hjl := List.getElem?_eq_some_iff.1 hj
    have hjS := hjl.1
    have hlS := hl.1
    have key : (z.key ∈ (S.take q).map Prod.fst) ↔ j ≤ m := by
      constructor
      · intro h1
        obtain ⟨x, hx, hxk⟩ := List.mem_map.1 h1
        obtain ⟨i, hi⟩ := List.getElem?_of_mem hx
        rw [List.getElem?_take] at hi
        split at hi
        · rename_i hiq
          have hil := List.getElem?_eq_some_iff.1 hi
          have hx2 := hkey x (List.mem_of_getElem? hi) hxk
          have hij : i = j := by
            rcases Nat.lt_trichotomy i j with h2 | h2 | h2
            · have := (List.pairwise_iff_getElem.1 hS) i j hil.1 hjl.1 h2
              rw [hil.2, hjl.2, hx2, nearB_iff] at this; omega
            · exact h2
            · have := (List.pairwise_iff_getElem.1 hS) j i hjl.1 hil.1 h2
              rw [hil.2, hjl.2, hx2, nearB_iff] at this; omega
          omega
        · cases hi
      · intro h1
        exact List.mem_map.2 ⟨_, List.mem_of_getElem? (i := j) (by rw [List.getElem?_take, if_pos (by omega)]; exact hj), rfl⟩
    rw [key]
    rcases Nat.lt_trichotomy j m with h2 | h2 | h2
    · have := (List.pairwise_iff_getElem.1 hS) j m hjl.1 hl.1 h2
      rw [hl.2, hjl.2, nearB_iff] at this
      simp only [] at this
      constructor
      · intro _; omega
      · intro _; omega
    · subst h2
      rw [hj] at hlast
      injection hlast with hlast
      subst hlast
      constructor
      · intro _; exact Or.inr ⟨rfl, Int.le_refl _⟩
      · intro _; exact Nat.le_refl _
    · have := (List.pairwise_iff_getElem.1 hS) m j hl.1 hjl.1 h2
      rw [hl.2, hjl.2, nearB_iff] at this
      simp only [] at this
      constructor
      · intro _; omega
      · intro _; omega
  · cases hlast
/-- the near enough -/
def withinL (l : List It) (kind : Int) (at_ : List Int) (most : Int) : List (Int × Int) := (insAll (hitsOf kind at_ l)).filter fun h => decide (h.2 ≤ most)
theorem within_ok {kind most : Int} {at_ : List Int} {l : List It} (h : storeB l = true) (ha : vecB at_ = true) : HitsOk (withinL l kind at_ most) := (all_ok kind h ha).sub List.filter_sublist
theorem within_in {kind most : Int} {at_ : List Int} {l : List It} (h : storeB l = true) {z : It} (hz : z ∈ l) : (z.key ∈ (withinL l kind at_ most).map Prod.fst) ↔ distF kind z.vec at_ ≤ most := by
  unfold withinL
  constructor
  · intro h1
    obtain ⟨x, hx, hxk⟩ := List.mem_map.1 h1
    rw [List.mem_filter] at hx
    rw [all_of_key h hz hx.1 hxk] at hx
    exact of_decide_eq_true hx.2
  · intro h1
    exact List.mem_map.2 ⟨_, List.mem_filter.2 ⟨all_mem hz, decide_eq_true h1⟩, rfl⟩
theorem near_all {l : List It} {kind k : Int} {at_ : List Int} (hk : (l.length : Int) ≤ k) : nearestF l kind at_ k = insAll (hitsOf kind at_ l) := by
  unfold nearestF
  rw [List.take_of_length_le (by rw [(insAll_perm _).length_eq, hitsOf_length]; omega)]
/-- the hits of two parts, merged -/
theorem dedup_self {l : List (Int × Int)} (h : l.Pairwise fun a b => a.1 ≠ b.1) : ∀ n, l.length = n → dedup l = l := by
  intro n
  induction n generalizing l with
  | zero => intro hl; rw [List.length_eq_zero_iff.1 hl]; rfl
  | succ n ih =>
    intro hl
    have hne : l ≠ [] := by intro e; subst e; simp at hl
    have e := (List.dropLast_concat_getLast hne).symm
    generalize l.dropLast = m at *
    generalize l.getLast hne = x at *
    subst e
    have h1 := List.pairwise_append.1 h
    rw [dedup_snoc, ih h1.1 (by simpa using hl), if_neg]
    rw [List.any_eq_true]
    rintro ⟨y, hy, hyk⟩
    exact h1.2.2 y hy x (by simp) (of_decide_eq_true hyk)
theorem mix_near {kind k : Int} {at_ : List Int} {l : List It} (h : storeB l = true) : mixF k (hitsOf kind at_ l) = nearestF l kind at_ k := by
  unfold mixF
  rw [dedupK_eq k _ _ rfl, dedup_self (by rw [sortHits_eq]; exact all_key kind at_ h) _ rfl, nearest_sort]
theorem near_parts {kind k : Int} {at_ : List Int} {l : List It} (h : storeB l = true) (ha : vecB at_ = true) (m : Nat) : mergeF (nearestF (l.take m) kind at_ k) (nearestF (l.drop m) kind at_ k) k = nearestF l kind at_ k := by
  have h1 : storeB (l.take m) = true := storeB_sub h (List.take_sublist _ _)
  have h2 : storeB (l.drop m) = true := storeB_sub h (List.drop_sublist _ _)
  rw [merge_mix (near_ok h1 ha) (near_ok h2 ha), ← mix_near h1, ← mix_near h2, mix_mix, mix_perm List.perm_append_comm, mix_mix, mix_perm List.perm_append_comm, ← mix_near h]
  congr 1
  unfold hitsOf
  rw [← List.map_append, List.take_append_drop]
/-- recall of the nearest one -/
theorem near_one {kind k : Int} {at_ : List Int} (l : List It) (hk : 1 ≤ k) : nearestF l kind at_ 1 = (nearestF l kind at_ k).take 1 := by
  unfold nearestF
  rw [List.take_take]
  congr 1
  have : (1 : Int).toNat = 1 := rfl
  omega
theorem rec_first {l : List (Int × Int)} (h : HitsOk l) (hl : 0 < l.length) : recF l (l.take 1) = 1000 / (l.length : Int) := by
  rw [recF_4 h.b (h.sub (List.take_sublist _ _)).b hl]
  unfold recallF
  rw [found_take h (by omega)]
  rfl
theorem found_one {l : List (Int × Int)} {h : Int × Int} (hh : h ∈ l) : foundF [h] l = 1 := by
  unfold foundF
  rw [List.filter_cons, if_pos (List.any_eq_true.2 ⟨h, hh, by simp⟩)]
  rfl
theorem rec_last {l : List (Int × Int)} (h : HitsOk l) (hl : 0 < l.length) : recF (l.take 1) l = 1000 := by
  rw [recF_4 (h.sub (List.take_sublist _ _)).b h.b (by rw [List.length_take]; omega)]
  unfold recallF
  cases l with
  | nil => simp at hl
  | cons x t =>
    rw [List.take_succ_cons, List.take_zero, found_one (by simp)]
    simp
end Go.Proofs.Ytifdcdpdihfbjaa
