/- Plain facts on walks: from neighbour to neighbour, nearer and nearer. No program is named here. -/
import Derived.Test.YtgidepnlflmclaaPReach
namespace Go.Proofs.Ytgidepnlflmclaa
open Go.RowKit
set_option linter.unusedVariables false
set_option linter.unusedSimpArgs false

/-- the hit of the item with a key -/
def hitK (l : List It) (kind : Int) (at_ : List Int) (k : Int) : Int × Int := (k, distF kind ((l.getD (keyAtF l k).toNat default).vec) at_)
theorem hitK_eq {l : List It} (hs : storeB l = true) (kind : Int) (at_ : List Int) {i : Nat} {x : It} (h : l[i]? = some x) : hitK l kind at_ x.key = (x.key, distF kind x.vec at_) := by
  unfold hitK
  rw [keyAt_store hs h]
  show (_, distF kind ((l.getD i default).vec) at_) = _
  rw [List.getD_eq_getElem?_getD, h]; rfl
/-- the nearest of some -/
def bestOf (h : Int × Int) (hs : List (Int × Int)) : Int × Int := hs.foldl (fun b x => if nearB x b = true then x else b) h
theorem bestOf_cons (h x : Int × Int) (t : List (Int × Int)) : bestOf h (x :: t) = bestOf (if nearB x h = true then x else h) t := rfl
theorem bestOf_snoc (h : Int × Int) (hs : List (Int × Int)) (x : Int × Int) : bestOf h (hs ++ [x]) = if nearB x (bestOf h hs) = true then x else bestOf h hs := by
  unfold bestOf; rw [List.foldl_append]; rfl
theorem best_mem : ∀ (hs : List (Int × Int)) (h : Int × Int), bestOf h hs ∈ h :: hs
  | [], h => by simp [bestOf]
  | x :: t, h => by
    rw [bestOf_cons]
    have := best_mem t (if nearB x h = true then x else h)
    rcases List.mem_cons.1 this with e | e
    · rw [e]
      split
      · simp
      · simp
    · exact List.mem_cons_of_mem _ (List.mem_cons_of_mem _ e)
theorem best_min : ∀ (hs : List (Int × Int)) (h y : Int × Int), y ∈ h :: hs → nearB y (bestOf h hs) = false
  | [], h, y, hy => by
    rw [List.mem_singleton.1 hy]
    show nearB h h = false
    cases hn : nearB h h with
    | false => rfl
    | true => have := nearB_asymm hn; rw [hn] at this; exact this
  | x :: t, h, y, hy => by
    rw [bestOf_cons]
    by_cases hx : nearB x h = true
    · rw [if_pos hx]
      have h1 := best_min t x x (by simp)
      rcases List.mem_cons.1 hy with rfl | hy
      · exact nearB_ntrans (nearB_asymm hx) h1
      · exact best_min t x y hy
    · rw [if_neg hx]
      have hx' : nearB x h = false := by simpa using hx
      have h1 := best_min t h h (by simp)
      rcases List.mem_cons.1 hy with rfl | hy
      · exact h1
      · rcases List.mem_cons.1 hy with rfl | hy
        · exact nearB_ntrans hx' h1
        · exact best_min t h y (List.mem_cons_of_mem _ hy)
/-- the best of some, and of some with one more -/
theorem best_here {hs : List (Int × Int)} {x here : Int × Int} (hx : x ∈ hs) : bestOf here hs = if nearB (bestOf x hs) here = true then bestOf x hs else here := by
  have hb : bestOf x hs ∈ hs := by
    rcases List.mem_cons.1 (best_mem hs x) with e | e
    · rw [e]; exact hx
    · exact e
  have hmin : ∀ y ∈ hs, nearB y (bestOf x hs) = false := fun y hy => best_min hs x y (List.mem_cons_of_mem _ hy)
  have fmin := best_min hs here
  have fmem := best_mem hs here
  generalize bestOf here hs = f at *
  generalize bestOf x hs = b at *
  by_cases h : nearB b here = true
  · rw [if_pos h]
    refine nearB_anti ?_ (fmin b (List.mem_cons_of_mem _ hb))
    rcases List.mem_cons.1 fmem with e | e
    · rw [e]; exact nearB_asymm h
    · exact hmin f e
  · rw [if_neg h]
    have h' : nearB b here = false := by simpa using h
    refine nearB_anti ?_ (fmin here (by simp))
    rcases List.mem_cons.1 fmem with e | e
    · rw [e]
      cases hn : nearB here here with
      | false => rfl
      | true => have := nearB_asymm hn; rw [hn] at this; exact this
    · exact nearB_ntrans (hmin f e) h'
/-- where a walk goes -/
def nextF (l : List It) (kind many : Int) (at_ : List Int) (k : Int) : Option Int :=
  if bestOf (hitK l kind at_ k) ((gOf l kind many k).map (hitK l kind at_)) = hitK l kind at_ k then none else some (bestOf (hitK l kind at_ k) ((gOf l kind many k).map (hitK l kind at_))).1
theorem next_some {l : List It} {kind many : Int} {at_ : List Int} {k b : Int} (h : nextF l kind many at_ k = some b) : b ∈ gOf l kind many k ∧ nearB (hitK l kind at_ b) (hitK l kind at_ k) = true ∧ hitK l kind at_ b = bestOf (hitK l kind at_ k) ((gOf l kind many k).map (hitK l kind at_)) := by
  unfold nextF at h
  split at h
  · cases h
  · rename_i hne
    injection h with h
    have h1 := best_mem ((gOf l kind many k).map (hitK l kind at_)) (hitK l kind at_ k)
    have h2 := best_min ((gOf l kind many k).map (hitK l kind at_)) (hitK l kind at_ k) (hitK l kind at_ k) (by simp)
    rcases List.mem_cons.1 h1 with e | e
    · exact absurd e hne
    · obtain ⟨y, hy, hyk⟩ := List.mem_map.1 e
      have hb : y = b := by rw [← h, ← hyk]; rfl
      subst hb
      refine ⟨hy, ?_, hyk⟩
      rw [hyk]
      cases hn : nearB (bestOf (hitK l kind at_ k) ((gOf l kind many k).map (hitK l kind at_))) (hitK l kind at_ k) with
      | true => rfl
      | false => exact absurd (nearB_anti hn h2) hne
theorem next_none {l : List It} {kind many : Int} {at_ : List Int} {k : Int} (h : nextF l kind many at_ k = none) : ∀ y ∈ gOf l kind many k, nearB (hitK l kind at_ y) (hitK l kind at_ k) = false := by
  unfold nextF at h
  split at h
  · rename_i he
    intro y hy
    have h2 := best_min ((gOf l kind many k).map (hitK l kind at_)) (hitK l kind at_ k) (hitK l kind at_ y) (List.mem_cons_of_mem _ (List.mem_map.2 ⟨y, hy, rfl⟩))
    rw [he] at h2
    exact h2
  · cases h
theorem next_none_of {l : List It} {kind many : Int} {at_ : List Int} {k : Int} (h : ∀ y ∈ gOf l kind many k, nearB (hitK l kind at_ y) (hitK l kind at_ k) = false) : nextF l kind many at_ k = none := by
  cases hn : nextF l kind many at_ k with
  | none => rfl
  | some b =>
    obtain ⟨h1, h2, _⟩ := next_some hn
    rw [h b h1] at h2; cases h2
/-- how many are nearer -/
def cntN (l : List It) (kind : Int) (at_ : List Int) (k : Int) : Nat := (l.filter fun x => nearB (hitK l kind at_ x.key) (hitK l kind at_ k)).length
theorem filter_lt {α : Type} {p q : α → Bool} (hpq : ∀ x, p x = true → q x = true) : ∀ {l : List α} {x : α}, x ∈ l → q x = true → p x = false → (l.filter p).length < (l.filter q).length
  | y :: t, x, hx, hq, hp => by
    have hle : ∀ t : List α, (t.filter p).length ≤ (t.filter q).length := fun t => by
      induction t with
      | nil => simp
      | cons z t ih =>
        rw [List.filter_cons, List.filter_cons]
        split
        · rename_i h
          rw [if_pos (hpq z h)]; simp; exact ih
        · split
          · simp; omega
          · exact ih
    rw [List.filter_cons, List.filter_cons]
    rcases List.mem_cons.1 hx with rfl | hx
    · rw [if_neg (by rw [hp]; simp), if_pos hq]
      have := hle t
      simp; omega
    · have ih := filter_lt hpq hx hq hp
      split
      · rename_i h
        rw [if_pos (hpq y h)]; simp; exact ih
      · split
        · simp; omega
        · exact ih
theorem next_less {l : List It} {kind many : Int} {at_ : List Int} {k b : Int} (h : nextF l kind many at_ k = some b) : cntN l kind at_ b < cntN l kind at_ k := by
  obtain ⟨h1, h2, _⟩ := next_some h
  obtain ⟨x, hx, hxb⟩ := List.mem_map.1 (gOf_keys h1)
  unfold cntN
  refine filter_lt (fun y hy => nearB_trans hy h2) hx ?_ ?_
  · rw [hxb]; exact h2
  · rw [hxb]
    cases hn : nearB (hitK l kind at_ b) (hitK l kind at_ b) with
    | false => rfl
    | true => have := nearB_asymm hn; rw [hn] at this; exact this
theorem cntN_le (l : List It) (kind : Int) (at_ : List Int) (k : Int) : cntN l kind at_ k ≤ l.length := List.length_filter_le _ _
/-- a walk of at most so many steps -/
def walkF (l : List It) (kind many : Int) (at_ : List Int) : Nat → Int → List Int
  | 0, k => [k]
  | f + 1, k => match nextF l kind many at_ k with
    | none => [k]
    | some b => k :: walkF l kind many at_ f b
theorem walkF_none {l : List It} {kind many : Int} {at_ : List Int} {k : Int} (h : nextF l kind many at_ k = none) : ∀ f, walkF l kind many at_ f k = [k]
  | 0 => rfl
  | f + 1 => by unfold walkF; rw [h]
theorem walkF_fuel {l : List It} {kind many : Int} {at_ : List Int} : ∀ (f f' : Nat) (k : Int), cntN l kind at_ k ≤ f → cntN l kind at_ k ≤ f' → walkF l kind many at_ f k = walkF l kind many at_ f' k
  | 0, f', k, h, h' => by
    have hn : nextF l kind many at_ k = none := by
      cases hn : nextF l kind many at_ k with
      | none => rfl
      | some b => have := next_less hn; omega
    rw [walkF_none hn, walkF_none hn]
  | f + 1, 0, k, h, h' => by
    have hn : nextF l kind many at_ k = none := by
      cases hn : nextF l kind many at_ k with
      | none => rfl
      | some b => have := next_less hn; omega
    rw [walkF_none hn, walkF_none hn]
  | f + 1, f' + 1, k, h, h' => by
    cases hn : nextF l kind many at_ k with
    | none => rw [walkF_none hn, walkF_none hn]
    | some b =>
      have := next_less hn
      unfold walkF
      rw [hn]
      simp only []
      rw [walkF_fuel f f' b (by omega) (by omega)]
/-- the whole walk -/
def walkL (l : List It) (kind many : Int) (at_ : List Int) (k : Int) : List Int := walkF l kind many at_ l.length k
theorem walkL_none {l : List It} {kind many : Int} {at_ : List Int} {k : Int} (h : nextF l kind many at_ k = none) : walkL l kind many at_ k = [k] := walkF_none h _
theorem walkL_some {l : List It} {kind many : Int} {at_ : List Int} {k b : Int} (h : nextF l kind many at_ k = some b) : walkL l kind many at_ k = k :: walkL l kind many at_ b := by
  have h1 := next_less h
  have h2 := cntN_le l kind at_ k
  unfold walkL
  obtain ⟨m, hm⟩ : ∃ m, l.length = m + 1 := ⟨l.length - 1, by omega⟩
  have e : walkF l kind many at_ (m + 1) k = k :: walkF l kind many at_ m b := by
    show (match nextF l kind many at_ k with | none => [k] | some b => k :: walkF l kind many at_ m b) = _
    rw [h]
  rw [hm, e, walkF_fuel m (m + 1) b (by omega) (by omega)]
/-- a walk by its steps -/
theorem walkL_ind {l : List It} {kind many : Int} {at_ : List Int} {P : Int → List Int → Prop} (h0 : ∀ k, nextF l kind many at_ k = none → P k [k]) (h1 : ∀ k b t, nextF l kind many at_ k = some b → walkL l kind many at_ b = t → P b t → P k (k :: t)) : ∀ (m : Nat) (k : Int), cntN l kind at_ k ≤ m → P k (walkL l kind many at_ k)
  | m, k, hm => by
    cases hn : nextF l kind many at_ k with
    | none => rw [walkL_none hn]; exact h0 k hn
    | some b =>
      have hl := next_less hn
      match m, hm with
      | 0, hm => exact absurd hl (by omega)
      | m + 1, hm =>
        rw [walkL_some hn]
        exact h1 k b _ hn rfl (walkL_ind h0 h1 m b (by omega))
theorem walk_first (l : List It) (kind many : Int) (at_ : List Int) (k : Int) : (walkL l kind many at_ k)[0]? = some k := by
  refine walkL_ind (P := fun k t => t[0]? = some k) (fun k _ => rfl) (fun k b t _ _ _ => rfl) _ k (Nat.le_refl _)
/-- a walk ends where no neighbour is nearer -/
theorem walk_end (l : List It) (kind many : Int) (at_ : List Int) (k : Int) : ∃ e, (walkL l kind many at_ k).getLast? = some e ∧ nextF l kind many at_ e = none := by
  refine walkL_ind (P := fun k t => ∃ e, t.getLast? = some e ∧ nextF l kind many at_ e = none) (fun k h => ⟨k, rfl, h⟩) (fun k b t _ _ ih => ?_) _ k (Nat.le_refl _)
  obtain ⟨e, he, hn⟩ := ih
  refine ⟨e, ?_, hn⟩
  cases t with
  | nil => cases he
  | cons y t => rw [List.getLast?_cons_cons]; exact he
/-- nearer and nearer -/
theorem walk_down (l : List It) (kind many : Int) (at_ : List Int) (k : Int) : (walkL l kind many at_ k).Pairwise (fun a b => nearB (hitK l kind at_ b) (hitK l kind at_ a) = true) ∧ ∀ y ∈ walkL l kind many at_ k, y = k ∨ nearB (hitK l kind at_ y) (hitK l kind at_ k) = true := by
  refine walkL_ind (P := fun k t => t.Pairwise (fun a b => nearB (hitK l kind at_ b) (hitK l kind at_ a) = true) ∧ ∀ y ∈ t, y = k ∨ nearB (hitK l kind at_ y) (hitK l kind at_ k) = true) (fun k h => ⟨List.pairwise_singleton _ _, fun y hy => Or.inl (List.mem_singleton.1 hy)⟩) (fun k b t hn _ ih => ?_) _ k (Nat.le_refl _)
  obtain ⟨_, h2, _⟩ := next_some hn
  have hall : ∀ y ∈ t, nearB (hitK l kind at_ y) (hitK l kind at_ k) = true := fun y hy => by
    rcases ih.2 y hy with rfl | h
    · exact h2
    · exact nearB_trans h h2
  refine ⟨List.pairwise_cons.2 ⟨hall, ih.1⟩, fun y hy => ?_⟩
  rcases List.mem_cons.1 hy with e | hy
  · exact Or.inl e
  · exact Or.inr (hall y hy)
/-- step by step a neighbour -/
theorem walk_step (l : List It) (kind many : Int) (at_ : List Int) (k : Int) : ∀ (i : Nat) (a b : Int), (walkL l kind many at_ k)[i]? = some a → (walkL l kind many at_ k)[i + 1]? = some b → b ∈ gOf l kind many a := by
  refine walkL_ind (P := fun k t => ∀ (i : Nat) (a b : Int), t[i]? = some a → t[i + 1]? = some b → b ∈ gOf l kind many a) (fun k h i a b ha hb => by simp at hb) (fun k b t hn ht ih => ?_) _ k (Nat.le_refl _)
  intro i a c ha hc
  cases i with
  | zero =>
    have h0 := walk_first l kind many at_ b
    rw [ht] at h0
    rw [List.getElem?_cons_zero] at ha
    rw [List.getElem?_cons_succ, h0] at hc
    injection ha with ha
    injection hc with hc
    subst ha hc
    exact (next_some hn).1
  | succ i =>
    rw [List.getElem?_cons_succ] at ha hc
    exact ih i a c ha hc
theorem walk_keys {l : List It} {kind many : Int} {at_ : List Int} {k : Int} (hk : k ∈ l.map (·.key)) : ∀ y ∈ walkL l kind many at_ k, y ∈ l.map (·.key) := by
  revert hk
  refine walkL_ind (P := fun k t => k ∈ l.map (·.key) → ∀ y ∈ t, y ∈ l.map (·.key)) (fun k h hk y hy => by rw [List.mem_singleton.1 hy]; exact hk) (fun k b t hn _ ih hk y hy => ?_) _ k (Nat.le_refl _)
  rcases List.mem_cons.1 hy with e | hy
  · rw [e]; exact hk
  · exact ih (gOf_keys (next_some hn).1) y hy
theorem walk_reach {l : List It} {kind many : Int} {at_ : List Int} (k : Int) : ∀ y ∈ walkL l kind many at_ k, Reach (gOf l kind many) k y := by
  refine walkL_ind (P := fun k t => ∀ y ∈ t, Reach (gOf l kind many) k y) (fun k h y hy => by rw [List.mem_singleton.1 hy]; exact Reach.self _ _) (fun k b t hn _ ih y hy => ?_) _ k (Nat.le_refl _)
  rcases List.mem_cons.1 hy with e | hy
  · rw [e]; exact Reach.self _ _
  · intro S h0 h1
    exact ih y hy S (h1 k h0 b (next_some hn).1) h1
theorem walk_nodup (l : List It) (kind many : Int) (at_ : List Int) (k : Int) : (walkL l kind many at_ k).Nodup := by
  refine (walk_down l kind many at_ k).1.imp (fun {a b} h e => ?_)
  subst e
  have := nearB_asymm h
  rw [h] at this; cases this
theorem walk_len {l : List It} {kind many : Int} {at_ : List Int} {k : Int} (hk : k ∈ l.map (·.key)) : 1 ≤ (walkL l kind many at_ k).length ∧ (walkL l kind many at_ k).length ≤ l.length := by
  constructor
  · have := walk_first l kind many at_ k
    exact (List.getElem?_eq_some_iff.1 this).1
  · have := len_of_sub (walk_nodup l kind many at_ k) (walk_keys hk)
    rw [List.length_map] at this; exact this
end Go.Proofs.Ytgidepnlflmclaa
