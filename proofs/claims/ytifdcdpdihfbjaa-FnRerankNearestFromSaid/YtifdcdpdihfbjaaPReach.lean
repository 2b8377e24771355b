/- Plain facts on reach: the place of a key; what can be reached by neighbours. No program is named here. -/
import Derived.Test.YtifdcdpdihfbjaaPLinks
import Derived.Test.YtifdcdpdihfbjaaPFuse
namespace Go.Proofs.Ytifdcdpdihfbjaa
open Go.RowKit
set_option linter.unusedVariables false
set_option linter.unusedSimpArgs false

/-- the place of the item with a key, or -1 -/
def keyAtF (l : List It) (k : Int) : Int := hitAtF (l.map fun x => (x.key, (0 : Int))) k
theorem keyAt_at {l : List It} {i : Nat} {x : It} (h : l[i]? = some x) (hno : ∀ (j : Nat) (y : It), j < i → l[j]? = some y → y.key ≠ x.key) : keyAtF l x.key = i := by
  unfold keyAtF
  refine hitAtF_at (h := (x.key, (0 : Int))) (by rw [List.getElem?_map, h]; rfl) rfl (fun j y hj hy => ?_)
  rw [List.getElem?_map] at hy
  obtain ⟨z, hz, rfl⟩ := Option.map_eq_some_iff.1 hy
  exact hno j z hj hz
theorem keyAt_store {l : List It} (hs : storeB l = true) {i : Nat} {x : It} (h : l[i]? = some x) : keyAtF l x.key = i :=
  keyAt_at h (fun j y hj hy => by have := storeB_lt hs hy h hj; omega)
theorem keyAt_no {l : List It} {k : Int} (h : ∀ (j : Nat) (y : It), l[j]? = some y → y.key ≠ k) : keyAtF l k = -1 := by
  unfold keyAtF
  refine hitAtF_no (fun j y hy => ?_)
  rw [List.getElem?_map] at hy
  obtain ⟨z, hz, rfl⟩ := Option.map_eq_some_iff.1 hy
  exact h j z hz
theorem keyAt_lt (l : List It) (k : Int) : -1 ≤ keyAtF l k ∧ keyAtF l k < l.length := by
  have h := hitAtF_lt (l.map fun x => (x.key, (0 : Int))) k
  rw [List.length_map] at h
  unfold keyAtF
  exact h
theorem keyAt_mem {l : List It} {k : Int} : 0 ≤ keyAtF l k ↔ k ∈ l.map (·.key) := by
  have h := any_hitAt (l.map fun x => (x.key, (0 : Int))) k
  unfold keyAtF
  constructor
  · intro h0
    rw [decide_eq_true h0, List.any_eq_true] at h
    obtain ⟨x, hx, hk⟩ := h
    obtain ⟨z, hz, rfl⟩ := List.mem_map.1 hx
    exact List.mem_map.2 ⟨z, hz, of_decide_eq_true hk⟩
  · intro h0
    obtain ⟨z, hz, hk⟩ := List.mem_map.1 h0
    rw [List.any_eq_true.2 ⟨(z.key, 0), List.mem_map.2 ⟨z, hz, rfl⟩, decide_eq_true hk⟩] at h
    exact of_decide_eq_true h.symm
theorem keyAt_some {l : List It} (hs : storeB l = true) {k : Int} (h : k ∈ l.map (·.key)) : ∃ (i : Nat) (x : It), l[i]? = some x ∧ x.key = k ∧ keyAtF l k = i := by
  obtain ⟨z, hz, rfl⟩ := List.mem_map.1 h
  obtain ⟨i, hi⟩ := List.getElem?_of_mem hz
  exact ⟨i, z, hi, rfl, keyAt_store hs hi⟩
/-- the neighbours of the item with a key -/
def gOf (l : List It) (kind many : Int) (k : Int) : List Int := linkAt l kind many (keyAtF l k).toNat
theorem gOf_keys {l : List It} {kind many k y : Int} (h : y ∈ gOf l kind many k) : y ∈ l.map (·.key) := by
  obtain ⟨z, hz, e⟩ := linkAt_key h
  exact List.mem_map.2 ⟨z, hz, e.symm⟩
/-- what can be reached -/
def Reach (g : Int → List Int) (a k : Int) : Prop := ∀ S : Int → Prop, S a → (∀ x, S x → ∀ y ∈ g x, S y) → S k
theorem Reach.self (g : Int → List Int) (a : Int) : Reach g a a := fun S h _ => h
theorem Reach.step {g : Int → List Int} {a x y : Int} (h : Reach g a x) (hy : y ∈ g x) : Reach g a y := fun S h0 h1 => h1 x (h S h0 h1) y hy
theorem Reach.mono {g g' : Int → List Int} (hg : ∀ x, ∀ y ∈ g x, y ∈ g' x) {a k : Int} (h : Reach g a k) : Reach g' a k := fun S h0 h1 => h S h0 (fun x hx y hy => h1 x hx y (hg x y hy))
theorem reach_key {l : List It} {kind many a k : Int} (ha : a ∈ l.map (·.key)) (h : Reach (gOf l kind many) a k) : k ∈ l.map (·.key) :=
  h (fun x => x ∈ l.map (·.key)) ha (fun _ _ _ hy => gOf_keys hy)
/-- the keys that can be reached, ascending -/
noncomputable def reachL (l : List It) (kind many a : Int) : List Int := (l.map (·.key)).filter (fun k => @decide (Reach (gOf l kind many) a k) (Classical.propDecidable _))
theorem reachL_mem {l : List It} {kind many a k : Int} (ha : a ∈ l.map (·.key)) : k ∈ reachL l kind many a ↔ Reach (gOf l kind many) a k := by
  unfold reachL
  rw [List.mem_filter, @decide_eq_true_iff _ (Classical.propDecidable _)]
  exact ⟨fun h => h.2, fun h => ⟨reach_key ha h, h⟩⟩
theorem keys_up {l : List It} (hs : storeB l = true) : (l.map (·.key)).Pairwise (· < ·) := by
  rw [List.pairwise_map]; exact storeB_pw hs
theorem reachL_up {l : List It} (hs : storeB l = true) (kind many a : Int) : (reachL l kind many a).Pairwise (· < ·) := by
  unfold reachL; exact (keys_up hs).filter _
/-- a list under way: it has the first key, no key twice, only what can be reached; the first i have been looked at -/
structure BfsOk (g : Int → List Int) (a : Int) (keys out : List Int) (i : Nat) : Prop where
  nodup : out.Nodup
  first : a ∈ out
  reach : ∀ y ∈ out, Reach g a y
  inn : ∀ y ∈ out, y ∈ keys
  done : ∀ (j : Nat) (y : Int), j < i → out[j]? = some y → ∀ z ∈ g y, z ∈ out
theorem BfsOk.start (g : Int → List Int) {a : Int} {keys : List Int} (ha : a ∈ keys) : BfsOk g a keys [a] 0 :=
  ⟨by simp, by simp, fun y hy => by rw [List.mem_singleton.1 hy]; exact Reach.self g a, fun y hy => by rw [List.mem_singleton.1 hy]; exact ha, fun j y hj => absurd hj (by omega)⟩
theorem BfsOk.len {g : Int → List Int} {a : Int} {keys out : List Int} {i : Nat} (h : BfsOk g a keys out i) : out.length ≤ keys.length := len_of_sub h.nodup h.inn
/-- one key more -/
theorem BfsOk.push {g : Int → List Int} {a : Int} {keys out : List Int} {i : Nat} (h : BfsOk g a keys out i) (hi : i ≤ out.length) {y z : Int} (hy : y ∈ out) (hz : z ∈ g y) (hk : z ∈ keys) (hn : z ∉ out) : BfsOk g a keys (out ++ [z]) i where
  nodup := List.pairwise_append.2 ⟨h.nodup, List.pairwise_singleton _ _, fun x hx b hb => by rw [List.mem_singleton.1 hb]; exact fun e => hn (e ▸ hx)⟩
  first := List.mem_append.2 (Or.inl h.first)
  reach x hx := by
    rcases List.mem_append.1 hx with hx | hx
    · exact h.reach x hx
    · rw [List.mem_singleton.1 hx]; exact (h.reach y hy).step hz
  inn x hx := by
    rcases List.mem_append.1 hx with hx | hx
    · exact h.inn x hx
    · rw [List.mem_singleton.1 hx]; exact hk
  done j x hj hx b hb := by
    rw [List.getElem?_append_left (by omega)] at hx
    exact List.mem_append.2 (Or.inl (h.done j x hj hx b hb))
theorem BfsOk.next {g : Int → List Int} {a : Int} {keys out : List Int} {i : Nat} (h : BfsOk g a keys out i) {y : Int} (hy : out[i]? = some y) (hall : ∀ z ∈ g y, z ∈ out) : BfsOk g a keys out (i + 1) where
  nodup := h.nodup
  first := h.first
  reach := h.reach
  inn := h.inn
  done j x hj hx b hb := by
    by_cases hji : j < i
    · exact h.done j x hji hx b hb
    · obtain rfl : j = i := by omega
      rw [hy] at hx; injection hx with hx; subst hx
      exact hall b hb
/-- at the end: just what can be reached -/
theorem BfsOk.all {g : Int → List Int} {a : Int} {keys out : List Int} (h : BfsOk g a keys out out.length) (k : Int) : k ∈ out ↔ Reach g a k := by
  constructor
  · exact h.reach k
  · intro hr
    refine hr (fun x => x ∈ out) h.first (fun x hx y hy => ?_)
    obtain ⟨j, hj⟩ := List.getElem?_of_mem hx
    exact h.done j x (List.getElem?_eq_some_iff.1 hj).1 hj y hy
/-- .. in the items' order -/
theorem bfs_filter {l : List It} {kind many a : Int} {out : List Int} (h : BfsOk (gOf l kind many) a (l.map (·.key)) out out.length) : (l.map (·.key)).filter (fun k => decide (k ∈ out)) = reachL l kind many a := by
  unfold reachL
  apply List.filter_congr
  intro k _
  have := h.all k
  by_cases hk : k ∈ out
  · rw [decide_eq_true hk, @decide_eq_true _ (Classical.propDecidable _) (this.1 hk)]
  · rw [decide_eq_false hk, @decide_eq_false _ (Classical.propDecidable _) (fun hr => hk (this.2 hr))]
theorem up_unique {l m : List Int} (hl : l.Pairwise (· ≤ ·)) (hm : m.Pairwise (· ≤ ·)) (hp : l.Perm m) : l = m :=
  sortedF_unique (s := fun _ => 0) (hl.imp (fun h => by rw [aheadB_false]; omega)) (hm.imp (fun h => by rw [aheadB_false]; omega)) hp
/-- .. sorted -/
theorem bfs_sort {l : List It} (hs : storeB l = true) {kind many a : Int} {out m : List Int} (h : BfsOk (gOf l kind many) a (l.map (·.key)) out out.length) (hm : m.Pairwise (· ≤ ·)) (hp : m.Perm out) : m = reachL l kind many a := by
  have hup := reachL_up hs kind many a
  refine up_unique hm (hup.imp (fun h => Int.le_of_lt h)) (hp.trans (nodup_perm h.nodup (hup.imp (fun h e => by omega)) (fun k => ?_)))
  rw [h.all, reachL_mem (h.inn a h.first)]
/-- what the laws ask -/
theorem reach_more {l : List It} {kind many a k : Int} (hm : 0 ≤ many) (ha : a ∈ l.map (·.key)) (h : k ∈ reachL l kind many a) : k ∈ reachL l kind (many + 1) a := by
  rw [reachL_mem ha] at h ⊢
  refine h.mono (fun x y hy => ?_)
  unfold gOf at *
  rw [← link_more l kind _ hm] at hy
  exact List.take_subset _ _ hy
theorem reach_closed {l : List It} (hs : storeB l = true) {kind many a : Int} (ha : a ∈ l.map (·.key)) {i : Nat} {x : It} (hi : l[i]? = some x) {y : Int} (hy : y ∈ linkAt l kind many i) (h : x.key ∈ reachL l kind many a) : y ∈ reachL l kind many a := by
  rw [reachL_mem ha] at h ⊢
  refine h.step ?_
  unfold gOf
  rw [keyAt_store hs hi]
  exact hy
theorem link_nodup {l : List It} (hs : storeB l = true) {kind many : Int} {i : Nat} {x : It} (hi : l[i]? = some x) : (linkAt l kind many i).Nodup := by
  rw [linkAt_eq hi]
  unfold List.Nodup
  rw [List.pairwise_map]
  exact (near_ok (storeB_sub hs (cutL_sub l i)) (storeB_vec hs (List.mem_of_getElem? hi))).key
theorem reach_count {l : List It} (hs : storeB l = true) {kind many a : Int} (hm : 0 ≤ many) (ha : a ∈ l.map (·.key)) : min (many.toNat + 1) l.length ≤ (reachL l kind many a).length := by
  obtain ⟨i, x, hi, rfl, hk⟩ := keyAt_some hs ha
  have hl := (List.getElem?_eq_some_iff.1 hi).1
  have h1 : (x.key :: linkAt l kind many i).Nodup := List.nodup_cons.2 ⟨link_self hs hi, link_nodup hs hi⟩
  have h2 := len_of_sub h1 (m := reachL l kind many x.key) (fun y hy => by
    have h0 : x.key ∈ reachL l kind many x.key := (reachL_mem ha).2 (Reach.self _ _)
    rcases List.mem_cons.1 hy with rfl | hy
    · exact h0
    · exact reach_closed hs ha hi hy h0)
  rw [List.length_cons, linkAt_len hl] at h2
  omega
end Go.Proofs.Ytifdcdpdihfbjaa
