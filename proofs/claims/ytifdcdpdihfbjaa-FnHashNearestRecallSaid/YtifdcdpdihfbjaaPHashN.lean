/- Plain: the nearest of buckets: with all bits they are the nearest, each one is in its bucket, more bits are right more often. -/
import Derived.Test.YtifdcdpdihfbjaaHashN
import Derived.Test.YtifdcdpdihfbjaaPNear
namespace Go.Proofs.Ytifdcdpdihfbjaa
open Go.RowKit Go.Shelf
set_option linter.unusedVariables false
set_option linter.unusedSimpArgs false
theorem hnear_ne {ps : List (List Int)} {l : List It} {at_ : List Int} {bt k : Int} (h : 0 < (HnearF ps l at_ bt k).length) : hnOk ps l at_ bt k = true := by
  cases h1 : hnOk ps l at_ bt k with
  | true => rfl
  | false => rw [HnearF_no h1] at h; simp at h
theorem bucket_all {ps : List (List Int)} (h : ps.length ≤ 6) (l : List It) (at_ : List Int) : bucketL ps l at_ 6 = l := List.filter_eq_self.2 (fun x _ => nearHB_all h at_ x)
theorem HnearF_all {ps : List (List Int)} {l : List It} {at_ : List Int} {bt k : Int} (h : HnOk ps l at_ bt k) : HnearF ps l at_ 6 k = nearestF l 3 at_ k := by
  have hp := ((planesB_iff ps).1 h.planes).1.2
  rw [HnearF_ok (HnOk.ok ⟨h.planes, h.can, h.k1, h.k16, by omega, by omega⟩), bucket_all hp]
theorem hnear_in {ps : List (List Int)} {l : List It} {at_ : List Int} {bt k : Int} (h : HnOk ps l at_ bt k) {y : Int × Int} (hy : y ∈ HnearF ps l at_ bt k) :
    ∃ (q : Nat) (z : It), l[q]? = some z ∧ y.1 = z.key ∧ y.2 = distF 3 z.vec at_ ∧ vecB z.vec = true ∧ z.key ∈ bucketF ps l at_ bt ∧ ∀ (j : Nat) (x : It), j < q → l[j]? = some x → x.key ≠ z.key := by
  rw [HnearF_ok h.ok] at hy
  unfold nearestF at hy
  obtain ⟨z, hz, rfl⟩ := hits_mem.1 ((insAll_perm _).mem_iff.1 (List.take_subset _ _ hy))
  have hz' := List.mem_filter.1 hz
  obtain ⟨q, hq⟩ := List.getElem?_of_mem hz'.1
  refine ⟨q, z, hq, rfl, rfl, storeB_vec h.can.store hz'.1, (bucket_mem h.bucket hz'.1).2 hz'.2, fun j x hj hx => ?_⟩
  have := storeB_lt h.can.store hx hq hj
  omega
theorem sub_take {α : Type} {m l : List α} (h : m.Sublist l) : l.Nodup → ∀ (K : Nat) (x : α), x ∈ m → x ∈ l.take K → x ∈ m.take K := by
  induction h with
  | slnil => intro _ K x hx; cases hx
  | cons a hs ih =>
    intro nd K x hx hk
    have nd' := List.nodup_cons.1 nd
    cases K with
    | zero => simp at hk
    | succ K =>
      rw [List.take_succ_cons] at hk
      rcases List.mem_cons.1 hk with rfl | hk
      · exact absurd (hs.subset hx) nd'.1
      · have h9 := ih nd'.2 K x hx hk
        exact (List.take_subset_take_left _ (by omega)) h9
  | cons_cons a hs ih =>
    intro nd K x hx hk
    have nd' := List.nodup_cons.1 nd
    cases K with
    | zero => simp at hk
    | succ K =>
      rw [List.take_succ_cons] at hk ⊢
      rcases List.mem_cons.1 hk with rfl | hk
      · exact List.mem_cons_self
      · rcases List.mem_cons.1 hx with rfl | hx
        · exact List.mem_cons_self
        · exact List.mem_cons_of_mem _ (ih nd'.2 K x hx hk)
theorem all_sub (kind : Int) {at_ : List Int} {l m : List It} (h : storeB l = true) (ha : vecB at_ = true) (hs : m.Sublist l) : (insAll (hitsOf kind at_ m)).Sublist (insAll (hitsOf kind at_ l)) := by
  have hm := storeB_sub h hs
  have h1 := all_ok kind h ha
  have h2 := all_ok kind hm ha
  have he : insAll (hitsOf kind at_ m) = (insAll (hitsOf kind at_ l)).filter (fun x => decide (x ∈ insAll (hitsOf kind at_ m))) := by
    refine sorted_ext h2.sorted (h1.sorted.filter _) (nodup_of_key h2.key) ((nodup_of_key h1.key).filter _) (fun x => ?_)
    rw [List.mem_filter, decide_eq_true_eq]
    constructor
    · intro hx
      refine ⟨?_, hx⟩
      obtain ⟨z, hz, rfl⟩ := hits_mem.1 ((insAll_perm _).mem_iff.1 hx)
      exact all_mem (hs.subset hz)
    · exact fun hx => hx.2
  rw [he]
  exact List.filter_sublist
theorem hnear_more {ps : List (List Int)} {l : List It} {at_ : List Int} {bt k : Int} (h : HnOk ps l at_ bt k) (h6 : bt ≠ 6) (h0 : 0 < (HnearF ps l at_ bt k).length) :
    recF (nearestF l 3 at_ k) (HnearF ps l at_ bt k) ≤ recF (nearestF l 3 at_ k) (HnearF ps l at_ (bt + 1) k) := by
  have h' : HnOk ps l at_ (bt + 1) k := ⟨h.planes, h.can, h.k1, h.k16, by have := h.b0; omega, by have := h.b6; omega⟩
  have hB := h.can.sub (bucketL_sub ps l at_ bt)
  have hB' := h.can.sub (bucketL_sub ps l at_ (bt + 1))
  have okR : HitsOk (nearestF l 3 at_ k) := near_ok h.can.store h.can.vec
  rw [HnearF_ok h.ok] at h0 ⊢
  rw [HnearF_ok h'.ok]
  have hR0 : 0 < (nearestF l 3 at_ k).length := by
    rw [nearestF_length] at h0 ⊢
    have := (bucketL_sub ps l at_ bt).length_le
    omega
  rw [recF_4 okR.b (near_ok hB.store hB.vec).b hR0, recF_4 okR.b (near_ok hB'.store hB'.vec).b hR0]
  unfold recallF
  refine Int.ediv_le_ediv (by omega) (Int.mul_le_mul_of_nonneg_left ?_ (by omega))
  unfold foundF
  rw [← List.countP_eq_length_filter, ← List.countP_eq_length_filter]
  refine Int.ofNat_le.2 (List.countP_mono_left (fun x hx hf => ?_))
  rw [List.any_eq_true] at hf ⊢
  obtain ⟨y, hy, hyx⟩ := hf
  simp only [decide_eq_true_eq] at hyx
  have hy1 : y ∈ insAll (hitsOf 3 at_ (bucketL ps l at_ bt)) := List.take_subset _ _ hy
  obtain ⟨z, hz, rfl⟩ := hits_mem.1 ((insAll_perm _).mem_iff.1 hy1)
  have hz' := List.mem_filter.1 hz
  have hx1 : x ∈ insAll (hitsOf 3 at_ l) := List.take_subset _ _ hx
  have hxe := all_of_key (kind := 3) (at_ := at_) h.can.store hz'.1 hx1 hyx.symm
  have hz2 : z ∈ bucketL ps l at_ (bt + 1) := List.mem_filter.2 ⟨hz'.1, nearHB_more hz'.2⟩
  refine ⟨x, ?_, by simp⟩
  refine sub_take (all_sub 3 h.can.store h.can.vec (bucketL_sub ps l at_ (bt + 1))) (nodup_of_key (all_ok 3 h.can.store h.can.vec).key) k.toNat x ?_ hx
  rw [hxe]
  exact all_mem hz2
end Go.Proofs.Ytifdcdpdihfbjaa
