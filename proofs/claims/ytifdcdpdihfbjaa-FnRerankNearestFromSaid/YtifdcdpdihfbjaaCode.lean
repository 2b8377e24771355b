/- Books of codes: plain facts; whether books are valid; the closest halves; the codes of vectors and the vectors of codes; the distances of codes; the nearest by codes, the program's and the reference's. -/
import Derived.Test.YtifdcdpdihfbjaaPNear
import Derived.Test.YtifdcdpdihfbjaaPReach
import Derived.Test.YtifdcdpdihfbjaaNearJ
import Derived.Test.YtifdcdpdihfbjaaVec
import Derived.Test.YtifdcdpdihfbjaaQuiet
import Derived.Test.YtifdcdpdihfbjaaTypes
import Derived.Test.YtifdcdpdihfbjaaOwn
import Derived.OwnWalk
import Derived.Deep.RegionLaw
import Derived.Deep.RegionWith
import Derived.Deep.DeepCutAuto
import Derived.Deep.RegionHeld3
namespace Go.Proofs.Ytifdcdpdihfbjaa
open Go.RowKit
set_option linter.unusedVariables false
set_option linter.unusedSimpArgs false

theorem absI_symm (x y : Int) : absI (x - y) = absI (y - x) := by unfold absI; omega
theorem distF_go (kind : Int) : ∀ (a b : List Int) (n : Int), (a.zip b).foldl (fun n p => dStep kind n (absI (p.1 - p.2))) n = (b.zip a).foldl (fun n p => dStep kind n (absI (p.1 - p.2))) n
  | [], b, n => by simp
  | a, [], n => by simp
  | x :: a, y :: b, n => by
    simp only [List.zip_cons_cons, List.foldl_cons]
    rw [absI_symm x y]
    exact distF_go kind a b _
theorem distF_symm (kind : Int) (a b : List Int) : distF kind a b = distF kind b a := distF_go kind a b 0
theorem vecN_iff (m : Nat) (v : List Int) : vecN m v = true ↔ v.length = m ∧ Small v := by
  unfold vecN allB inB Small; simp
/-- a book of codes is valid -/
def halvesB (l : List (List Int)) : Bool := l.all (vecN 2)
def bookB (L R : List (List Int)) : Bool := decide (L.length = 4) && (decide (R.length = 4) && (halvesB L && halvesB R))
structure BookOk (L R : List (List Int)) : Prop where
  l4 : L.length = 4
  r4 : R.length = 4
  lv : ∀ x ∈ L, x.length = 2 ∧ Small x
  rv : ∀ x ∈ R, x.length = 2 ∧ Small x
theorem bookB_ok {L R : List (List Int)} (h : bookB L R = true) : BookOk L R := by
  unfold bookB halvesB at h
  simp only [Bool.and_eq_true, decide_eq_true_eq, List.all_eq_true] at h
  exact ⟨h.1, h.2.1, fun x hx => (vecN_iff 2 x).1 (h.2.2.1 x hx), fun x hx => (vecN_iff 2 x).1 (h.2.2.2 x hx)⟩
/-- the closest of the first halves -/
def closeStep (l : List (List Int)) (half : List Int) (best i : Nat) : Nat := if distF 3 (l.getD i []) half < distF 3 (l.getD best []) half then i else best
def closeK (l : List (List Int)) (half : List Int) (k : Nat) : Nat := (List.range k).foldl (closeStep l half) 0
def closeF (l : List (List Int)) (half : List Int) : Nat := closeK l half l.length
theorem closeK_succ (l : List (List Int)) (half : List Int) (k : Nat) : closeK l half (k + 1) = closeStep l half (closeK l half k) k := by
  unfold closeK
  rw [List.range_succ, List.foldl_append]; rfl
theorem closeK_one (l : List (List Int)) (half : List Int) : closeK l half 1 = 0 := by
  rw [closeK_succ]
  show closeStep l half 0 0 = 0
  unfold closeStep; split <;> rfl
theorem closeK_lt (l : List (List Int)) (half : List Int) : ∀ k, closeK l half k ≤ k - 1
  | 0 => Nat.le_refl _
  | k + 1 => by
    have h := closeK_lt l half k
    rw [closeK_succ]
    unfold closeStep
    split <;> omega
theorem closeF_lt {l : List (List Int)} (half : List Int) (h : l.length = 4) : closeF l half < 4 := by
  have := closeK_lt l half l.length
  unfold closeF; omega
/-- the code of a vector, the vector of a code -/
def encF (L R : List (List Int)) (v : List Int) : Nat := closeF L (v.take 2) * 4 + closeF R (v.drop 2)
def decF (L R : List (List Int)) (c : Nat) : List Int := L.getD (c / 4) [] ++ R.getD (c % 4) []
def codedV (L R : List (List Int)) (v : List Int) : List Int := decF L R (encF L R v)
def codedI (L R : List (List Int)) (x : It) : It := ⟨x.key, codedV L R x.vec, x.tags⟩
def coded (L R : List (List Int)) (l : List It) : List It := l.map (codedI L R)
theorem encF_lt {L R : List (List Int)} (h : BookOk L R) (v : List Int) : encF L R v < 16 := by
  have h1 := closeF_lt (v.take 2) h.l4
  have h2 := closeF_lt (v.drop 2) h.r4
  unfold encF; omega
theorem getD_mem {α : Type} {l : List α} {i : Nat} {d : α} (h : i < l.length) : l.getD i d ∈ l := by
  rw [List.getD_eq_getElem?_getD, List.getElem?_eq_getElem h]
  exact List.getElem_mem h
theorem decF_vec {L R : List (List Int)} (h : BookOk L R) {c : Nat} (hc : c < 16) : vecB (decF L R c) = true := by
  have hl := h.lv _ (getD_mem (l := L) (i := c / 4) (d := []) (by rw [h.l4]; omega))
  have hr := h.rv _ (getD_mem (l := R) (i := c % 4) (d := []) (by rw [h.r4]; omega))
  rw [vecB_iff]
  unfold decF
  refine ⟨by rw [List.length_append, hl.1, hr.1], fun x hx => ?_⟩
  rcases List.mem_append.1 hx with hx | hx
  · exact hl.2 x hx
  · exact hr.2 x hx
theorem codedV_vec {L R : List (List Int)} (h : BookOk L R) (v : List Int) : vecB (codedV L R v) = true := decF_vec h (encF_lt h v)
theorem coded_store {L R : List (List Int)} (h : BookOk L R) {l : List It} (hl : storeB l = true) : storeB (coded L R l) = true := by
  unfold coded
  refine storeB_of (by rw [List.length_map]; exact storeB_len hl) (fun x hx => ?_) ?_
  · obtain ⟨z, hz, rfl⟩ := List.mem_map.1 hx
    have h1 := (itemB_iff _).1 (storeB_mem hl hz)
    exact (itemB_iff _).2 ⟨h1.1, codedV_vec h z.vec, h1.2.2⟩
  · rw [List.pairwise_map]
    exact storeB_pw hl
theorem coded_hits (L R : List (List Int)) (at_ : List Int) (l : List It) : hitsOf 3 at_ (coded L R l) = l.map fun x => (x.key, distF 3 (codedV L R x.vec) at_) := by
  unfold hitsOf coded
  rw [List.map_map]; rfl
theorem coded_length (L R : List (List Int)) (l : List It) : (coded L R l).length = l.length := by unfold coded; rw [List.length_map]
theorem coded_snoc {L R : List (List Int)} {at_ : List Int} {l : List It} {k : Nat} {x : It} (h : l[k]? = some x) : hitsOf 3 at_ (coded L R (l.take (k + 1))) = hitsOf 3 at_ (coded L R (l.take k)) ++ [(x.key, distF 3 (codedV L R x.vec) at_)] := by
  rw [coded_hits, coded_hits, take_snoc h, List.map_append]; rfl
/-- the nearest by codes, of valid arguments -/
def cnearL (L R : List (List Int)) (l : List It) (at_ : List Int) (k : Int) : List (Int × Int) := nearestF (coded L R l) 3 at_ k
theorem cnear_ok {L R : List (List Int)} (h : BookOk L R) {l : List It} (hl : storeB l = true) {at_ : List Int} (ha : vecB at_ = true) (k : Int) : HitsOk (cnearL L R l at_ k) := near_ok (coded_store h hl) ha
theorem cnear_in {L R : List (List Int)} {l : List It} {at_ : List Int} {k : Int} {y : Int × Int} (hy : y ∈ cnearL L R l at_ k) : ∃ z ∈ l, y = (z.key, distF 3 (codedV L R z.vec) at_) := by
  unfold cnearL nearestF at hy
  rw [coded_hits] at hy
  obtain ⟨z, hz, rfl⟩ := List.mem_map.1 ((insAll_perm _).mem_iff.1 (List.take_subset _ _ hy))
  exact ⟨z, hz, rfl⟩
/-- the item with a key; the items of hits -/
def pickA (l : List It) (k : Int) : It := l.getD (keyAtF l k).toNat default
def pickL (l : List It) (hs : List (Int × Int)) : List It := hs.map fun h => pickA l h.1
theorem pickA_some {l : List It} (hs : storeB l = true) {k : Int} (h : k ∈ l.map (·.key)) : ∃ (i : Nat), l[i]? = some (pickA l k) ∧ (pickA l k).key = k ∧ keyAtF l k = i := by
  obtain ⟨i, x, hi, hk, he⟩ := keyAt_some hs h
  have : pickA l k = x := by
    unfold pickA
    rw [he, Int.toNat_natCast, List.getD_eq_getElem?_getD, hi]; rfl
  exact ⟨i, by rw [this]; exact hi, by rw [this]; exact hk, he⟩
theorem pick_snoc {l : List It} {hs : List (Int × Int)} {k : Nat} {h : Int × Int} (hk : hs[k]? = some h) : pickL l (hs.take (k + 1)) = pickL l (hs.take k) ++ [pickA l h.1] := by
  unfold pickL; rw [take_snoc hk, List.map_append]; rfl
theorem storeB_keyC {l : List It} (h : storeB l = true) {x y : It} (hx : x ∈ l) (hy : y ∈ l) (he : x.key = y.key) : x = y := by
  obtain ⟨i, hi⟩ := List.getElem?_of_mem hx
  obtain ⟨j, hj⟩ := List.getElem?_of_mem hy
  rcases Nat.lt_trichotomy i j with h1 | h1 | h1
  · have := storeB_lt h hi hj h1; omega
  · subst h1; rw [hi] at hj; injection hj
  · have := storeB_lt h hj hi h1; omega
theorem near_perm {l m : List It} (h : l.Perm m) (kind : Int) (at_ : List Int) (k : Int) : nearestF l kind at_ k = nearestF m kind at_ k := by
  unfold nearestF
  rw [← sortHits_eq, ← sortHits_eq]
  rw [sort_perm (show (hitsOf kind at_ l).Perm (hitsOf kind at_ m) from h.map _)]
theorem pick_keys {l : List It} (hs : storeB l = true) : ∀ (h : List (Int × Int)), (∀ x ∈ h, x.1 ∈ l.map (·.key)) → (pickL l h).map (·.key) = h.map Prod.fst
  | [], _ => rfl
  | x :: h, hx => by
    show (pickA l x.1).key :: (pickL l h).map (·.key) = x.1 :: h.map Prod.fst
    rw [pick_keys hs h (fun y hy => hx y (List.mem_cons_of_mem _ hy))]
    obtain ⟨i, _, hk, _⟩ := pickA_some hs (hx x List.mem_cons_self)
    rw [hk]
theorem pick_mem {l : List It} (hs : storeB l = true) {h : List (Int × Int)} (hx : ∀ x ∈ h, x.1 ∈ l.map (·.key)) {z : It} (hz : z ∈ pickL l h) : z ∈ l := by
  unfold pickL at hz
  obtain ⟨x, hxm, rfl⟩ := List.mem_map.1 hz
  obtain ⟨i, hi, _, _⟩ := pickA_some hs (hx x hxm)
  exact List.mem_of_getElem? hi
theorem nodup_of_map {α β : Type} (f : α → β) {l : List α} (h : (l.map f).Nodup) : l.Nodup := by
  unfold List.Nodup at h ⊢
  rw [List.pairwise_map] at h
  exact h.imp (fun hab e => hab (by rw [e]))
theorem pick_perm {l : List It} (hs : storeB l = true) {h : List (Int × Int)} (hx : ∀ x ∈ h, x.1 ∈ l.map (·.key)) (hn : (h.map Prod.fst).Nodup) : (pickL l h).Perm (l.filter fun x => decide (x.key ∈ h.map Prod.fst)) := by
  have h1 : (pickL l h).Nodup := nodup_of_map (·.key) (by rw [pick_keys hs h hx]; exact hn)
  have h2 : l.Nodup := (storeB_pw hs).imp (fun hab e => by subst e; omega)
  refine (List.perm_ext_iff_of_nodup h1 (h2.filter _)).2 (fun z => ?_)
  rw [List.mem_filter, decide_eq_true_eq]
  constructor
  · intro hz
    refine ⟨pick_mem hs hx hz, ?_⟩
    rw [← pick_keys hs h hx]
    exact List.mem_map.2 ⟨z, hz, rfl⟩
  · intro hz
    obtain ⟨x, hxm, hxe⟩ := List.mem_map.1 hz.2
    obtain ⟨i, hi, hk, _⟩ := pickA_some hs (hx x hxm)
    have := storeB_keyC hs (List.mem_of_getElem? hi) hz.1 (by rw [hk, hxe])
    unfold pickL
    exact List.mem_map.2 ⟨x, hxm, this⟩
/-- ranked again, of valid arguments -/
def rerankL (L R : List (List Int)) (l : List It) (at_ : List Int) (many k : Int) : List (Int × Int) := nearestF (pickL l (cnearL L R l at_ many)) 3 at_ k
theorem cnear_keys {L R : List (List Int)} {l : List It} {at_ : List Int} {k : Int} : ∀ x ∈ cnearL L R l at_ k, x.1 ∈ l.map (·.key) := fun x hx => by
  obtain ⟨z, hz, rfl⟩ := cnear_in hx
  exact List.mem_map.2 ⟨z, hz, rfl⟩
theorem rerank_eq {L R : List (List Int)} (h : BookOk L R) {l : List It} (hl : storeB l = true) {at_ : List Int} (ha : vecB at_ = true) (many k : Int) : rerankL L R l at_ many k = nearestF (l.filter fun x => decide (x.key ∈ (cnearL L R l at_ many).map Prod.fst)) 3 at_ k :=
  near_perm (pick_perm hl cnear_keys (by
    have := (cnear_ok h hl ha many).key
    unfold List.Nodup
    rw [List.pairwise_map]; exact this)) 3 at_ k
theorem rerank_ok {L R : List (List Int)} (h : BookOk L R) {l : List It} (hl : storeB l = true) {at_ : List Int} (ha : vecB at_ = true) (many k : Int) : HitsOk (rerankL L R l at_ many k) := by
  rw [rerank_eq h hl ha]
  exact near_ok (storeB_sub hl List.filter_sublist) ha
theorem rerank_in {L R : List (List Int)} (h : BookOk L R) {l : List It} (hl : storeB l = true) {at_ : List Int} (ha : vecB at_ = true) {many k : Int} {y : Int × Int} (hy : y ∈ rerankL L R l at_ many k) : y.1 ∈ (cnearL L R l at_ many).map Prod.fst := by
  rw [rerank_eq h hl ha] at hy
  unfold nearestF at hy
  obtain ⟨z, hz, rfl⟩ := hits_mem.1 ((insAll_perm _).mem_iff.1 (List.take_subset _ _ hy))
  exact of_decide_eq_true (List.mem_filter.1 hz).2
end Go.Proofs.Ytifdcdpdihfbjaa
namespace Go.Proofs.Ytifdcdpdihfbjaa
open Go.RowKit
set_option linter.unusedVariables false
set_option linter.unusedSimpArgs false
def cnOk (L R : List (List Int)) (l : List It) (at_ : List Int) (k : Int) : Bool := bookB L R && canB l 3 at_ k
def CnearF (L R : List (List Int)) (l : List It) (at_ : List Int) (k : Int) : List (Int × Int) := if cnOk L R l at_ k = true then cnearL L R l at_ k else []
theorem CnearF_no {L R : List (List Int)} {l : List It} {at_ : List Int} {k : Int} (h : cnOk L R l at_ k = false) : CnearF L R l at_ k = [] := by unfold CnearF; rw [h]; rfl
theorem CnearF_ok {L R : List (List Int)} {l : List It} {at_ : List Int} {k : Int} (h : cnOk L R l at_ k = true) : CnearF L R l at_ k = cnearL L R l at_ k := by unfold CnearF; rw [h]; rfl
structure CnOk (L R : List (List Int)) (l : List It) (at_ : List Int) (k : Int) : Prop where
  bk : bookB L R = true
  can : Can l 3 at_
  k1 : 1 ≤ k
  k16 : k ≤ 16
theorem cnOk_ok {L R : List (List Int)} {l : List It} {at_ : List Int} {k : Int} (h : cnOk L R l at_ k = true) : CnOk L R l at_ k := by
  unfold cnOk at h
  rw [Bool.and_eq_true] at h
  obtain ⟨hC, h1, h2⟩ := canB_can h.2
  exact ⟨h.1, hC, h1, h2⟩
theorem CnOk.ok {L R : List (List Int)} {l : List It} {at_ : List Int} {k : Int} (h : CnOk L R l at_ k) : cnOk L R l at_ k = true := by
  unfold cnOk
  rw [h.bk, h.can.can h.k1 h.k16]; rfl
theorem CnOk.book {L R : List (List Int)} {l : List It} {at_ : List Int} {k : Int} (h : CnOk L R l at_ k) : BookOk L R := bookB_ok h.bk
theorem cn_ne {L R : List (List Int)} {l : List It} {at_ : List Int} {k : Int} (h : 0 < (CnearF L R l at_ k).length) : cnOk L R l at_ k = true := by
  cases h1 : cnOk L R l at_ k with
  | true => rfl
  | false => rw [CnearF_no h1] at h; simp at h
theorem cnear_len (L R : List (List Int)) (l : List It) (at_ : List Int) (k : Int) : (cnearL L R l at_ k).length = min k.toNat l.length := by
  unfold cnearL
  rw [nearestF_length, coded_length]
theorem cnear_hits {L R : List (List Int)} {l : List It} {at_ : List Int} {k : Int} (h : CnOk L R l at_ k) : HitsOk (CnearF L R l at_ k) := by
  rw [CnearF_ok h.ok]
  exact cnear_ok h.book h.can.store h.can.vec k
theorem cnear_at {L R : List (List Int)} {l : List It} {at_ : List Int} {k : Int} (h : CnOk L R l at_ k) {y : Int × Int} (hy : y ∈ CnearF L R l at_ k) :
    ∃ (q : Nat) (z : It), l[q]? = some z ∧ y.1 = z.key ∧ y.2 = distF 3 (codedV L R z.vec) at_ ∧ vecB z.vec = true ∧ ∀ (j : Nat) (x : It), j < q → l[j]? = some x → x.key ≠ z.key := by
  rw [CnearF_ok h.ok] at hy
  obtain ⟨z, hz, rfl⟩ := cnear_in hy
  obtain ⟨q, hq⟩ := List.getElem?_of_mem hz
  refine ⟨q, z, hq, rfl, rfl, storeB_vec h.can.store hz, fun j x hj hx => ?_⟩
  have := storeB_lt h.can.store hx hq hj
  omega
/-- the distances of all codes -/
def cdistL (L R : List (List Int)) (at_ : List Int) (k : Nat) : List Int := (List.range k).map fun c => distF 3 (decF L R c) at_
theorem cdist_len (L R : List (List Int)) (at_ : List Int) (k : Nat) : (cdistL L R at_ k).length = k := by unfold cdistL; simp
theorem cdist_snoc (L R : List (List Int)) (at_ : List Int) (k : Nat) : cdistL L R at_ (k + 1) = cdistL L R at_ k ++ [distF 3 (decF L R k) at_] := by
  unfold cdistL
  rw [List.range_succ, List.map_append]; rfl
theorem cdist_at (L R : List (List Int)) (at_ : List Int) {k c : Nat} (h : c < k) : (cdistL L R at_ k)[c]? = some (distF 3 (decF L R c) at_) := by
  unfold cdistL
  rw [List.getElem?_map, List.getElem?_range h]; rfl
def rrOk (L R : List (List Int)) (l : List It) (at_ : List Int) (many k : Int) : Bool := bookB L R && (canB l 3 at_ k && inB many 1 16)
def RerankF (L R : List (List Int)) (l : List It) (at_ : List Int) (many k : Int) : List (Int × Int) := if rrOk L R l at_ many k = true then rerankL L R l at_ many k else []
theorem RerankF_no {L R : List (List Int)} {l : List It} {at_ : List Int} {many k : Int} (h : rrOk L R l at_ many k = false) : RerankF L R l at_ many k = [] := by unfold RerankF; rw [h]; rfl
theorem RerankF_ok {L R : List (List Int)} {l : List It} {at_ : List Int} {many k : Int} (h : rrOk L R l at_ many k = true) : RerankF L R l at_ many k = rerankL L R l at_ many k := by unfold RerankF; rw [h]; rfl
structure RrOk (L R : List (List Int)) (l : List It) (at_ : List Int) (many k : Int) : Prop where
  bk : bookB L R = true
  can : Can l 3 at_
  k1 : 1 ≤ k
  k16 : k ≤ 16
  m1 : 1 ≤ many
  m16 : many ≤ 16
theorem rrOk_ok {L R : List (List Int)} {l : List It} {at_ : List Int} {many k : Int} (h : rrOk L R l at_ many k = true) : RrOk L R l at_ many k := by
  unfold rrOk inB at h
  rw [Bool.and_eq_true, Bool.and_eq_true, decide_eq_true_eq] at h
  obtain ⟨hC, h1, h2⟩ := canB_can h.2.1
  exact ⟨h.1, hC, h1, h2, h.2.2.1, h.2.2.2⟩
theorem RrOk.ok {L R : List (List Int)} {l : List It} {at_ : List Int} {many k : Int} (h : RrOk L R l at_ many k) : rrOk L R l at_ many k = true := by
  unfold rrOk inB
  rw [h.bk, h.can.can h.k1 h.k16, decide_eq_true ⟨h.m1, h.m16⟩]; rfl
theorem RrOk.cn {L R : List (List Int)} {l : List It} {at_ : List Int} {many k : Int} (h : RrOk L R l at_ many k) : CnOk L R l at_ many := ⟨h.bk, h.can, h.m1, h.m16⟩
theorem rr_ne {L R : List (List Int)} {l : List It} {at_ : List Int} {many k : Int} (h : 0 < (RerankF L R l at_ many k).length) : rrOk L R l at_ many k = true := by
  cases h1 : rrOk L R l at_ many k with
  | true => rfl
  | false => rw [RerankF_no h1] at h; simp at h
theorem rr_hits {L R : List (List Int)} {l : List It} {at_ : List Int} {many k : Int} (h : RrOk L R l at_ many k) : HitsOk (RerankF L R l at_ many k) := by
  rw [RerankF_ok h.ok]
  exact rerank_ok h.cn.book h.can.store h.can.vec many k
theorem rr_in {L R : List (List Int)} {l : List It} {at_ : List Int} {many k : Int} (h : RrOk L R l at_ many k) {y : Int × Int} (hy : y ∈ RerankF L R l at_ many k) : y.1 ∈ (CnearF L R l at_ many).map Prod.fst := by
  rw [RerankF_ok h.ok] at hy
  rw [CnearF_ok h.cn.ok]
  exact rerank_in h.cn.book h.can.store h.can.vec hy
theorem rr_len {L R : List (List Int)} {l : List It} {at_ : List Int} {many k : Int} (h : RrOk L R l at_ many k) : (RerankF L R l at_ many k).length ≤ 16 := by
  rw [RerankF_ok h.ok]
  unfold rerankL
  rw [nearestF_length]
  have := h.k16
  omega
theorem pick_len (l : List It) (hs : List (Int × Int)) : (pickL l hs).length = hs.length := by unfold pickL; rw [List.length_map]
end Go.Proofs.Ytifdcdpdihfbjaa
namespace Go.Proofs.Ytifdcdpdihfbjaa
open Go.RowKit
set_option linter.unusedVariables false
set_option linter.unusedSimpArgs false
theorem halves_snoc {l : List (List Int)} {k : Nat} {x : List Int} (h : l[k]? = some x) : halvesB (l.take (k + 1)) = (halvesB (l.take k) && vecN 2 x) := by
  unfold halvesB
  rw [take_snoc h, List.all_append]; simp
theorem halves_of {l : List (List Int)} {k : Nat} {x : List Int} (h : l[k]? = some x) (hx : vecN 2 x = false) : halvesB l = false := by
  unfold halvesB
  rw [List.all_eq_false]
  exact ⟨x, List.mem_of_getElem? h, by rw [hx]; simp⟩
theorem book_l {L R : List (List Int)} (h : ¬ L.length = 4) : bookB L R = false := by unfold bookB; rw [decide_eq_false h]; rfl
theorem book_r {L R : List (List Int)} (h : ¬ R.length = 4) : bookB L R = false := by unfold bookB; rw [decide_eq_false h]; simp
theorem book_lf {L R : List (List Int)} (h : halvesB L = false) : bookB L R = false := by unfold bookB; rw [h]; simp
theorem book_rf {L R : List (List Int)} (h : halvesB R = false) : bookB L R = false := by unfold bookB; rw [h]; simp
theorem book_ok {L R : List (List Int)} (h1 : L.length = 4) (h2 : R.length = 4) (h3 : halvesB L = true) (h4 : halvesB R = true) : bookB L R = true := by unfold bookB; rw [h1, h2, h3, h4]; rfl
set_option maxHeartbeats 2000000 in
theorem isBook (lp hp : Nat) (AL : Option Addr) (nL cL : Nat) (L : List (List Int)) (lq hq : Nat) (AR : Option Addr) (nR cR : Nat) (R : List (List Int)) (w : World) (hl : RRows w lp hp AL nL cL L) (hr : RRows w lq hq AR nR cR R) :
    Calls Try.prog 47 #[.agg #[.slice AL nL cL, .slice AR nR cR]] w fun e w' => e = .returned (.bool (bookB L R)) ∧ Chg No w w' := by
  have h1 := hl.le; have h2 := hl.cap; have h3 := hr.le; have h4 := hr.cap
  have HL := hid hl; have HR := hid hr
  have hll : L.length = nL := hl.len
  have hrl : R.length = nR := hr.len
  have BX := hid (Box.new (w := w) [.slice AL nL cL, .slice AR nR cR] 25 rfl)
  clear hl hr
  by_cases a1 : nL = 4
  · by_cases a2 : nR = 4
    · subst a1 a2
      have HLL := hid hll; have HRL := hid hrl
      clear hll hrl
      go_enter Try.func47, Try.ntmps47
      go_wp2
      go_loopw [3, 14] (fun s i wr => ∃ k : Nat, k ≤ 4 ∧ i = .int .i64 k ∧ Chg No (w.alloc (.cells #[.slice AL 4 cL, .slice AR 4 cR] 25)) wr ∧ Hid (halvesB (L.take k) = true ∧ halvesB (R.take k) = true)) (fun _ i _ => 4 - (intOf i).toNat)
      case atStart => exact ⟨0, Nat.zero_le _, rfl, Chg.refl _ _, rfl, rfl⟩
      case round =>
        obtain ⟨k, hk, rfl, hc, HB⟩ := hrel
        obtain ⟨wo, rfl⟩ : ∃ W : World, W = wr := ⟨_, rfl⟩
        by_cases hlt : k < 4
        · have hcw : Chg No w wo := ((Chg.refl No w).alloc _).no hc
          obtain ⟨b1, o1, x, rfl, _, _, hx, A1, n1, c1, f1', hv1⟩ := (HL.out.no hcw).at_ hlt
          obtain ⟨b2, o2, y, rfl, _, _, hy, A2, n2, c2, f2', hv2⟩ := (HR.out.no hcw).at_ hlt
          have f1 : wo.cell? ⟨b1, o1 + k, none⟩ = some (.slice A1 n1 c1) := by simpa using f1'
          have f2 : wo.cell? ⟨b2, o2 + k, none⟩ = some (.slice A2 n2 c2) := by simpa using f2'
          have q1 := (BX.out.no hc).f2
          have KV1 := hid (show Calls Try.prog 57 #[.slice A1 n1 c1, .int .i64 2] wo (fun e w' => e = .returned (.bool (vecN 2 x)) ∧ wo = w') from isVecN 2 _ _ A1 n1 c1 x wo hv1 (by omega))
          have KV2 := hid (show Calls Try.prog 57 #[.slice A2 n2 c2, .int .i64 2] wo (fun e w' => e = .returned (.bool (vecN 2 y)) ∧ wo = w') from isVecN 2 _ _ A2 n2 c2 y wo hv2 (by omega))
          have HX1 := hid hx; have HY1 := hid hy
          clear f1' f2' hv1 hv2 hx hy
          cases b1 : vecN 2 x with
          | false =>
            have HF := hid (book_lf (R := R) (halves_of HX1.out b1))
            rw [b1] at KV1
            clear b1
            (go_wp2_with fail; (with_reducible refine (KV1.out).mono ?_); rintro e w1 ⟨rfl, rfl⟩)
            go_wp2
            go_ret
            exact ⟨by rw [HF.out]; rfl, by (repeat (first | (with_reducible exact Chg.refl _ _) | ((with_reducible refine Chg.setNew ?_ _ ?_); rotate_left; first | (dsimp only; omega) | (simp; done) | (simp; omega)) | (with_reducible refine Chg.alloc ?_ _) | (with_reducible refine Chg.drew ?_) | (with_reducible refine Chg.drewN ?_ _) | (with_reducible refine Chg.no ?_ (by assumption)) | (with_reducible refine Chg.and_ ?_ (by assumption)) | ((with_reducible refine Chg.at_ ?_ (by assumption) ?_); rotate_left; (try simp only [World.size_alloc]); omega)))⟩
          | true =>
            rw [b1] at KV1
            cases b2 : vecN 2 y with
            | false =>
              have HF := hid (book_rf (L := L) (halves_of HY1.out b2))
              rw [b2] at KV2
              clear b1 b2
              (go_wp2_with fail; (with_reducible refine (KV1.out).mono ?_); rintro e w1 ⟨rfl, rfl⟩)
              (go_wp2_with fail; (with_reducible refine (KV2.out).mono ?_); rintro e w1 ⟨rfl, rfl⟩)
              go_wp2
              go_ret
              exact ⟨by rw [HF.out]; rfl, by (repeat (first | (with_reducible exact Chg.refl _ _) | ((with_reducible refine Chg.setNew ?_ _ ?_); rotate_left; first | (dsimp only; omega) | (simp; done) | (simp; omega)) | (with_reducible refine Chg.alloc ?_ _) | (with_reducible refine Chg.drew ?_) | (with_reducible refine Chg.drewN ?_ _) | (with_reducible refine Chg.no ?_ (by assumption)) | (with_reducible refine Chg.and_ ?_ (by assumption)) | ((with_reducible refine Chg.at_ ?_ (by assumption) ?_); rotate_left; (try simp only [World.size_alloc]); omega)))⟩
            | true =>
              rw [b2] at KV2
              have HB2 : Hid (halvesB (L.take (k + 1)) = true ∧ halvesB (R.take (k + 1)) = true) := ⟨by rw [halves_snoc HX1.out, HB.out.1, b1]; rfl, by rw [halves_snoc HY1.out, HB.out.2, b2]; rfl⟩
              clear b1 b2 HB
              (go_wp2_with fail; (with_reducible refine (KV1.out).mono ?_); rintro e w1 ⟨rfl, rfl⟩)
              (go_wp2_with fail; (with_reducible refine (KV2.out).mono ?_); rintro e w1 ⟨rfl, rfl⟩)
              go_wp2
              go_roundw
              case rel => exact ⟨k + 1, by omega, by go_num, hc, HB2⟩
              case measure => simp [intOf]; omega
        · have HF := hid (show bookB L R = true from book_ok HLL.out HRL.out (by have h9 := HB.out.1; rwa [List.take_of_length_le (by rw [HLL.out]; omega)] at h9) (by have h9 := HB.out.2; rwa [List.take_of_length_le (by rw [HRL.out]; omega)] at h9))
          go_wp2
          go_ret
          exact ⟨by rw [HF.out]; rfl, by (repeat (first | (with_reducible exact Chg.refl _ _) | ((with_reducible refine Chg.setNew ?_ _ ?_); rotate_left; first | (dsimp only; omega) | (simp; done) | (simp; omega)) | (with_reducible refine Chg.alloc ?_ _) | (with_reducible refine Chg.drew ?_) | (with_reducible refine Chg.drewN ?_ _) | (with_reducible refine Chg.no ?_ (by assumption)) | (with_reducible refine Chg.and_ ?_ (by assumption)) | ((with_reducible refine Chg.at_ ?_ (by assumption) ?_); rotate_left; (try simp only [World.size_alloc]); omega)))⟩
    · have HF := hid (book_r (L := L) (R := R) (by omega))
      have e1 : ((nL : Int) != 4) = false := by simp; omega
      have e2 : ((nR : Int) != 4) = true := by simp; omega
      clear a1 a2 hll hrl
      go_enter Try.func47, Try.ntmps47
      go_wp2
      go_ret
      exact ⟨by rw [HF.out]; rfl, by (repeat (first | (with_reducible exact Chg.refl _ _) | ((with_reducible refine Chg.setNew ?_ _ ?_); rotate_left; first | (dsimp only; omega) | (simp; done) | (simp; omega)) | (with_reducible refine Chg.alloc ?_ _) | (with_reducible refine Chg.drew ?_) | (with_reducible refine Chg.drewN ?_ _) | (with_reducible refine Chg.no ?_ (by assumption)) | (with_reducible refine Chg.and_ ?_ (by assumption)) | ((with_reducible refine Chg.at_ ?_ (by assumption) ?_); rotate_left; (try simp only [World.size_alloc]); omega)))⟩
  · have HF := hid (book_l (L := L) (R := R) (by omega))
    have e1 : ((nL : Int) != 4) = true := by simp; omega
    clear a1 hll hrl
    go_enter Try.func47, Try.ntmps47
    go_wp2
    go_ret
    exact ⟨by rw [HF.out]; rfl, by (repeat (first | (with_reducible exact Chg.refl _ _) | ((with_reducible refine Chg.setNew ?_ _ ?_); rotate_left; first | (dsimp only; omega) | (simp; done) | (simp; omega)) | (with_reducible refine Chg.alloc ?_ _) | (with_reducible refine Chg.drew ?_) | (with_reducible refine Chg.drewN ?_ _) | (with_reducible refine Chg.no ?_ (by assumption)) | (with_reducible refine Chg.and_ ?_ (by assumption)) | ((with_reducible refine Chg.at_ ?_ (by assumption) ?_); rotate_left; (try simp only [World.size_alloc]); omega)))⟩
set_option maxHeartbeats 2000000 in
theorem validHalves (lp hp : Nat) (AL : Option Addr) (nL cL : Nat) (L : List (List Int)) (w : World) (hl : RRows w lp hp AL nL cL L) :
    Calls Try.prog 89 #[.slice AL nL cL] w fun e w' => e = .returned (.bool (halvesB L)) ∧ w = w' := by
  have h1 := hl.le; have h2 := hl.cap
  have HL := hid hl
  clear hl
  go_enter Try.func89, Try.ntmps89
  go_wp2
  go_loop [3] (fun i => ∃ k : Nat, k ≤ nL ∧ i = .int .i64 k ∧ Hid (halvesB (L.take k) = true)) (fun i => nL - (intOf i).toNat)
  case atStart => exact ⟨0, Nat.zero_le _, rfl, rfl⟩
  case round =>
    obtain ⟨k, hk, rfl, HB⟩ := hrel
    by_cases hlt : k < nL
    · obtain ⟨b1, o1, x, rfl, _, _, hx, A1, n1, c1, f1', hv1⟩ := HL.out.at_ hlt
      have f1 : w.cell? ⟨b1, o1 + k, none⟩ = some (.slice A1 n1 c1) := by simpa using f1'
      have hxl : x.length = n1 := hv1.len
      have KV := hid (allIn _ _ A1 n1 c1 x (-100) 100 w hv1)
      have HX1 := hid hx
      clear f1' hv1 hx
      by_cases a1 : n1 = 2
      · subst a1
        cases b1 : allB x (-100) 100 with
        | false =>
          have HF := hid (halves_of HX1.out (by unfold vecN; rw [b1]; simp))
          rw [b1] at KV
          clear b1 hxl
          (go_wp2_with fail; (with_reducible refine (KV.out).mono ?_); rintro e w1 ⟨rfl, rfl⟩)
          go_wp2
          go_ret
          exact ⟨by rw [HF.out]; rfl, rfl⟩
        | true =>
          have HB2 : Hid (halvesB (L.take (k + 1)) = true) := by show _ = _; rw [halves_snoc HX1.out, HB.out]; unfold vecN; rw [b1, hxl]; rfl
          rw [b1] at KV
          clear b1 hxl HB
          (go_wp2_with fail; (with_reducible refine (KV.out).mono ?_); rintro e w1 ⟨rfl, rfl⟩)
          go_wp2
          go_round
          case rel => exact ⟨k + 1, by omega, by go_num, HB2⟩
          case measure => simp [intOf]; omega
      · have HF := hid (halves_of HX1.out (by unfold vecN; rw [decide_eq_false (by omega)]; rfl))
        have e1 : ((n1 : Int) != 2) = true := by simp; omega
        clear a1 hxl
        go_wp2
        go_ret
        exact ⟨by rw [HF.out]; rfl, rfl⟩
    · have HF := hid (show halvesB L = true from by have h9 := HB.out; rwa [List.take_of_length_le (by have := HL.out.len; omega)] at h9)
      go_wp2
      go_ret
      exact ⟨by rw [HF.out]; rfl, rfl⟩
set_option maxHeartbeats 2000000 in
theorem validBook (lp hp : Nat) (AL : Option Addr) (nL cL : Nat) (L : List (List Int)) (lq hq : Nat) (AR : Option Addr) (nR cR : Nat) (R : List (List Int)) (w : World) (hl : RRows w lp hp AL nL cL L) (hr : RRows w lq hq AR nR cR R) :
    Calls Try.prog 50 #[.agg #[.slice AL nL cL, .slice AR nR cR]] w fun e w' => e = .returned (.bool (bookB L R)) ∧ Chg No w w' := by
  have h1 := hl.le; have h2 := hl.cap; have h3 := hr.le; have h4 := hr.cap
  have HL := hid hl; have HR := hid hr
  have hll : L.length = nL := hl.len
  have hrl : R.length = nR := hr.len
  have BX := hid (Box.new (w := w) [.slice AL nL cL, .slice AR nR cR] 25 rfl)
  have K1 := hid (fun W (h : Chg No w W) => validHalves lp hp AL nL cL L W (hl.no h))
  have K2 := hid (fun W (h : Chg No w W) => validHalves lq hq AR nR cR R W (hr.no h))
  clear hl hr
  by_cases a1 : nL = 4
  · have e1 : ((nL : Int) == 4) = true := by simp; omega
    by_cases a2 : nR = 4
    · have e2 : ((nR : Int) == 4) = true := by simp; omega
      cases b1 : halvesB L with
      | false =>
        have HF := hid (book_lf (R := R) b1)
        rw [b1] at K1
        clear a1 a2 hll hrl b1
        go_enter Try.func50, Try.ntmps50
        (go_wp2_with fail; (with_reducible refine (K1.out _ (by (repeat (first | (with_reducible exact Chg.refl _ _) | ((with_reducible refine Chg.setNew ?_ _ ?_); rotate_left; first | (dsimp only; omega) | (simp; done) | (simp; omega)) | (with_reducible refine Chg.alloc ?_ _) | (with_reducible refine Chg.drew ?_) | (with_reducible refine Chg.drewN ?_ _) | (with_reducible refine Chg.no ?_ (by assumption)) | (with_reducible refine Chg.and_ ?_ (by assumption)) | ((with_reducible refine Chg.at_ ?_ (by assumption) ?_); rotate_left; (try simp only [World.size_alloc]); omega))))).mono ?_); rintro e w1 ⟨rfl, rfl⟩)
        go_wp2
        go_ret
        exact ⟨by rw [HF.out]; rfl, by (repeat (first | (with_reducible exact Chg.refl _ _) | ((with_reducible refine Chg.setNew ?_ _ ?_); rotate_left; first | (dsimp only; omega) | (simp; done) | (simp; omega)) | (with_reducible refine Chg.alloc ?_ _) | (with_reducible refine Chg.drew ?_) | (with_reducible refine Chg.drewN ?_ _) | (with_reducible refine Chg.no ?_ (by assumption)) | (with_reducible refine Chg.and_ ?_ (by assumption)) | ((with_reducible refine Chg.at_ ?_ (by assumption) ?_); rotate_left; (try simp only [World.size_alloc]); omega)))⟩
      | true =>
        have HF := hid (show bookB L R = halvesB R from by
          cases b2 : halvesB R with
          | false => exact book_rf b2
          | true => exact book_ok (by omega) (by omega) b1 b2)
        rw [b1] at K1
        generalize halvesB R = t at *
        clear a1 a2 hll hrl b1
        go_enter Try.func50, Try.ntmps50
        (go_wp2_with fail; (with_reducible refine (K1.out _ (by (repeat (first | (with_reducible exact Chg.refl _ _) | ((with_reducible refine Chg.setNew ?_ _ ?_); rotate_left; first | (dsimp only; omega) | (simp; done) | (simp; omega)) | (with_reducible refine Chg.alloc ?_ _) | (with_reducible refine Chg.drew ?_) | (with_reducible refine Chg.drewN ?_ _) | (with_reducible refine Chg.no ?_ (by assumption)) | (with_reducible refine Chg.and_ ?_ (by assumption)) | ((with_reducible refine Chg.at_ ?_ (by assumption) ?_); rotate_left; (try simp only [World.size_alloc]); omega))))).mono ?_); rintro e w1 ⟨rfl, rfl⟩)
        (go_wp2_with fail; (with_reducible refine (K2.out _ (by (repeat (first | (with_reducible exact Chg.refl _ _) | ((with_reducible refine Chg.setNew ?_ _ ?_); rotate_left; first | (dsimp only; omega) | (simp; done) | (simp; omega)) | (with_reducible refine Chg.alloc ?_ _) | (with_reducible refine Chg.drew ?_) | (with_reducible refine Chg.drewN ?_ _) | (with_reducible refine Chg.no ?_ (by assumption)) | (with_reducible refine Chg.and_ ?_ (by assumption)) | ((with_reducible refine Chg.at_ ?_ (by assumption) ?_); rotate_left; (try simp only [World.size_alloc]); omega))))).mono ?_); rintro e w2 ⟨rfl, rfl⟩)
        go_wp2
        go_ret
        exact ⟨by rw [HF.out]; rfl, by (repeat (first | (with_reducible exact Chg.refl _ _) | ((with_reducible refine Chg.setNew ?_ _ ?_); rotate_left; first | (dsimp only; omega) | (simp; done) | (simp; omega)) | (with_reducible refine Chg.alloc ?_ _) | (with_reducible refine Chg.drew ?_) | (with_reducible refine Chg.drewN ?_ _) | (with_reducible refine Chg.no ?_ (by assumption)) | (with_reducible refine Chg.and_ ?_ (by assumption)) | ((with_reducible refine Chg.at_ ?_ (by assumption) ?_); rotate_left; (try simp only [World.size_alloc]); omega)))⟩
    · have e2 : ((nR : Int) == 4) = false := by simp; omega
      have HF := hid (book_r (L := L) (R := R) (by omega))
      clear a1 a2 hll hrl
      go_enter Try.func50, Try.ntmps50
      go_wp2
      go_ret
      exact ⟨by rw [HF.out]; rfl, by (repeat (first | (with_reducible exact Chg.refl _ _) | ((with_reducible refine Chg.setNew ?_ _ ?_); rotate_left; first | (dsimp only; omega) | (simp; done) | (simp; omega)) | (with_reducible refine Chg.alloc ?_ _) | (with_reducible refine Chg.drew ?_) | (with_reducible refine Chg.drewN ?_ _) | (with_reducible refine Chg.no ?_ (by assumption)) | (with_reducible refine Chg.and_ ?_ (by assumption)) | ((with_reducible refine Chg.at_ ?_ (by assumption) ?_); rotate_left; (try simp only [World.size_alloc]); omega)))⟩
  · have e1 : ((nL : Int) == 4) = false := by simp; omega
    have HF := hid (book_l (L := L) (R := R) (by omega))
    clear a1 hll hrl
    go_enter Try.func50, Try.ntmps50
    go_wp2
    go_ret
    exact ⟨by rw [HF.out]; rfl, by (repeat (first | (with_reducible exact Chg.refl _ _) | ((with_reducible refine Chg.setNew ?_ _ ?_); rotate_left; first | (dsimp only; omega) | (simp; done) | (simp; omega)) | (with_reducible refine Chg.alloc ?_ _) | (with_reducible refine Chg.drew ?_) | (with_reducible refine Chg.drewN ?_ _) | (with_reducible refine Chg.no ?_ (by assumption)) | (with_reducible refine Chg.and_ ?_ (by assumption)) | ((with_reducible refine Chg.at_ ?_ (by assumption) ?_); rotate_left; (try simp only [World.size_alloc]); omega)))⟩
end Go.Proofs.Ytifdcdpdihfbjaa
namespace Go.Proofs.Ytifdcdpdihfbjaa
open Go.RowKit
set_option linter.unusedVariables false
set_option linter.unusedSimpArgs false
theorem getD_at {α : Type} {l : List α} {i : Nat} {x d : α} (h : l[i]? = some x) : l.getD i d = x := by rw [List.getD_eq_getElem?_getD, h]; rfl
theorem halfDist (l0 h0 l1 h1 : Nat) (A A' : Option Addr) (n c n' c' : Nat) (a b : List Int) (w : World) (ha : RInts w l0 h0 A n c a) (hb : RInts w l1 h1 A' n' c' b) (hn : n ≤ n') (hn1 : n ≤ 100000) (sa : Small a) (sb : Small b) :
    Calls Try.prog 118 #[.slice A n c, .slice A' n' c'] w fun e w' => e = .returned (.int .i64 (distF 3 a b)) ∧ Chg No w w' := by
  have K := hid (fun W (h : Chg No w W) => sDist l0 h0 l1 h1 A A' n c n' c' a b 3 W (ha.no h) (hb.no h) hn hn1 sa sb (by omega) (by omega))
  clear ha hb
  go_enter Try.func118, Try.ntmps118
  (go_wp2_with fail; (with_reducible refine (K.out _ (Chg.refl _ _)).mono ?_); rintro e w1 ⟨rfl, hc1⟩)
  go_wp2
  go_ret
  exact ⟨rfl, hc1⟩
set_option maxHeartbeats 2000000 in
theorem closestOf (l0 h0 : Nat) (A : Option Addr) (n c : Nat) (ls : List (List Int)) (l1 h1 : Nat) (A' : Option Addr) (c' : Nat) (half : List Int) (w : World) (hx : RRows w l0 h0 A n c ls) (hy : RInts w l1 h1 A' 2 c' half) (hn : 1 ≤ n) (hn2 : n ≤ 1000) (hr : ∀ x ∈ ls, x.length = 2 ∧ Small x) (hs : Small half) :
    Calls Try.prog 97 #[.slice A n c, .slice A' 2 c'] w fun e w' => e = .returned (.int .i64 (closeF ls half : Nat)) ∧ Chg No w w' := by
  have hnc := hx.le; have hcm := hx.cap
  have HX := hid hx; have HY := hid hy; have HR := hid hr; have HS := hid hs
  have HF := hid (show closeF ls half = closeK ls half n from by unfold closeF; rw [show ls.length = n from hx.len])
  clear hx hy hr hs
  go_enter Try.func97, Try.ntmps97
  go_wp2
  go_loopw [5, 6, 7, 10] (fun s s6 s7 i wr => ∃ k : Nat, k ≤ n ∧ i = .int .i64 k ∧ s = .int .i64 (closeK ls half k : Nat) ∧ Chg No w wr) (fun _ _ _ i _ => n - (intOf i).toNat)
  case atStart => exact ⟨0, Nat.zero_le _, rfl, rfl, Chg.refl _ _⟩
  case round =>
    obtain ⟨k, hk, rfl, rfl, hc⟩ := hrel
    obtain ⟨wo, rfl⟩ : ∃ W : World, W = wr := ⟨_, rfl⟩
    by_cases hlt : k < n
    · skip
      have hqn : closeK ls half k < n := by have := closeK_lt ls half k; omega
      have hst := closeK_succ ls half k
      unfold closeStep at hst
      generalize closeK ls half k = q at hst hqn ⊢
      obtain ⟨b, o, x, rfl, _, _, hx, A1, n1, c1, f1', hv1⟩ := (HX.out.no hc).at_ hlt
      obtain ⟨b', o', y, hA', _, _, hy, A2, n2, c2, f2', hv2⟩ := (HX.out.no hc).at_ hqn
      injection hA' with hA'
      injection hA' with e1 e2 _
      subst e1 e2
      rw [getD_at hx, getD_at hy] at hst
      have hx2 := HR.out x (List.mem_of_getElem? hx)
      have hy2 := HR.out y (List.mem_of_getElem? hy)
      obtain rfl : n1 = 2 := by have h9 : x.length = n1 := hv1.len; omega
      obtain rfl : n2 = 2 := by have h9 : y.length = n2 := hv2.len; omega
      have HV1 := hid hv1; have HV2 := hid hv2
      have f1 : wo.cell? ⟨b, o + k, none⟩ = some (.slice A1 2 c1) := by simpa using f1'
      have f2 : wo.cell? ⟨b, o + q, none⟩ = some (.slice A2 2 c2) := by simpa using f2'
      have F2 : ∀ p : NB wo, p.wd.cell? ⟨b, o + q, none⟩ = some (.slice A2 2 c2) := nb_cell f2
      have F1 : ∀ p : NB wo, p.wd.cell? ⟨b, o + k, none⟩ = some (.slice A1 2 c1) := nb_cell f1
      have SX := hid hx2.2; have SY := hid hy2.2
      have KX := hid (fun W (h : Chg No wo W) => iDistance _ _ _ _ A1 A' 2 c1 2 c' x half 3 W (HV1.out.no h) (HY.out.no (hc.no h)) (by omega) (by omega) SX.out HS.out (by omega) (by omega))
      have KY := hid (fun W (h : Chg No wo W) => iDistance _ _ _ _ A2 A' 2 c2 2 c' y half 3 W (HV2.out.no h) (HY.out.no (hc.no h)) (by omega) (by omega) SY.out HS.out (by omega) (by omega))
      obtain ⟨dx, hdx⟩ : ∃ d, distF 3 x half = d := ⟨_, rfl⟩
      obtain ⟨dy, hdy⟩ : ∃ d, distF 3 y half = d := ⟨_, rfl⟩
      rw [hdx] at KX hst
      rw [hdy] at KY hst
      clear f1' f2' hv1 hv2 hx hy hx2 hy2 hdx hdy
      by_cases hd : dx < dy
      · rw [if_pos hd] at hst
        have HST := hid hst
        have d1 : decide (dx < dy) = true := decide_eq_true hd
        clear hst hd
        go_wp2_with fail
        (refine wp_region_nb (by kernel_rfl) (by kernel_rfl) ?_; (repeat (first | go_big_quiet_step ((first | (go_at_call 58; (with_reducible exact nb_of (KX.out _ (NB.h _)))) | (go_at_call 58; (with_reducible exact nb_of (KY.out _ (NB.h _)))))) | quiet_step ((first | (go_at_call 58; (with_reducible exact nb_of (KX.out _ (NB.h _)))) | (go_at_call 58; (with_reducible exact nb_of (KY.out _ (NB.h _)))))))); (with_reducible refine wpQuiet_nil ?_); intro wq hw1; have hq := nb_out hw1; clear hw1)
        go_wp2
        go_roundw
        case rel => exact ⟨k + 1, by omega, by go_num, by rw [HST.out], hc.no hq⟩
        case measure => simp [intOf]; omega
      · rw [if_neg hd] at hst
        have HST := hid hst
        have d1 : decide (dx < dy) = false := decide_eq_false hd
        clear hst hd
        go_wp2_with fail
        (refine wp_region_nb (by kernel_rfl) (by kernel_rfl) ?_; (repeat (first | go_big_quiet_step ((first | (go_at_call 58; (with_reducible exact nb_of (KX.out _ (NB.h _)))) | (go_at_call 58; (with_reducible exact nb_of (KY.out _ (NB.h _)))))) | quiet_step ((first | (go_at_call 58; (with_reducible exact nb_of (KX.out _ (NB.h _)))) | (go_at_call 58; (with_reducible exact nb_of (KY.out _ (NB.h _)))))))); (with_reducible refine wpQuiet_nil ?_); intro wq hw1; have hq := nb_out hw1; clear hw1)
        go_wp2
        go_roundw
        case rel => exact ⟨k + 1, by omega, by go_num, by rw [HST.out], hc.no hq⟩
        case measure => simp [intOf]; omega
    · obtain rfl : k = n := by omega
      rw [← HF.out]
      go_wp2
      go_ret
      exact ⟨rfl, hc⟩
set_option maxHeartbeats 2000000 in
theorem sClosest (l0 h0 : Nat) (A : Option Addr) (n c : Nat) (ls : List (List Int)) (l1 h1 : Nat) (A' : Option Addr) (c' : Nat) (half : List Int) (w : World) (hx : RRows w l0 h0 A n c ls) (hy : RInts w l1 h1 A' 2 c' half) (hn : 1 ≤ n) (hn2 : n ≤ 1000) (hr : ∀ x ∈ ls, x.length = 2 ∧ Small x) (hs : Small half) :
    Calls Try.prog 96 #[.slice A n c, .slice A' 2 c'] w fun e w' => e = .returned (.int .i64 (closeF ls half : Nat)) ∧ Chg No w w' := by
  have hnc := hx.le; have hcm := hx.cap
  have HX := hid hx; have HY := hid hy; have HR := hid hr; have HS := hid hs
  have HF := hid (show closeF ls half = closeK ls half n from by unfold closeF; rw [show ls.length = n from hx.len])
  clear hx hy hr hs
  go_enter Try.func96, Try.ntmps96
  go_wp2
  go_loopw [5, 6] (fun s i wr => ∃ k : Nat, 1 ≤ k ∧ k ≤ n ∧ i = .int .i64 k ∧ s = .int .i64 (closeK ls half k : Nat) ∧ Chg No w wr) (fun _ i _ => n - (intOf i).toNat)
  case atStart => exact ⟨1, Nat.le_refl _, hn, rfl, by rw [closeK_one]; rfl, Chg.refl _ _⟩
  case round =>
    obtain ⟨k, hk1, hk, rfl, rfl, hc⟩ := hrel
    obtain ⟨wo, rfl⟩ : ∃ W : World, W = wr := ⟨_, rfl⟩
    by_cases hlt : k < n
    · skip
      have hqn : closeK ls half k < n := by have := closeK_lt ls half k; omega
      have hst := closeK_succ ls half k
      unfold closeStep at hst
      generalize closeK ls half k = q at hst hqn ⊢
      obtain ⟨b, o, x, rfl, _, _, hx, A1, n1, c1, f1', hv1⟩ := (HX.out.no hc).at_ hlt
      obtain ⟨b', o', y, hA', _, _, hy, A2, n2, c2, f2', hv2⟩ := (HX.out.no hc).at_ hqn
      injection hA' with hA'
      injection hA' with e1 e2 _
      subst e1 e2
      rw [getD_at hx, getD_at hy] at hst
      have hx2 := HR.out x (List.mem_of_getElem? hx)
      have hy2 := HR.out y (List.mem_of_getElem? hy)
      obtain rfl : n1 = 2 := by have h9 : x.length = n1 := hv1.len; omega
      obtain rfl : n2 = 2 := by have h9 : y.length = n2 := hv2.len; omega
      have HV1 := hid hv1; have HV2 := hid hv2
      have f1 : wo.cell? ⟨b, o + k, none⟩ = some (.slice A1 2 c1) := by simpa using f1'
      have f2 : wo.cell? ⟨b, o + q, none⟩ = some (.slice A2 2 c2) := by simpa using f2'
      have F2 : ∀ p : NB wo, p.wd.cell? ⟨b, o + q, none⟩ = some (.slice A2 2 c2) := nb_cell f2
      have F1 : ∀ p : NB wo, p.wd.cell? ⟨b, o + k, none⟩ = some (.slice A1 2 c1) := nb_cell f1
      have SX := hid hx2.2; have SY := hid hy2.2
      have KX := hid (fun W (h : Chg No wo W) => halfDist _ _ _ _ A1 A' 2 c1 2 c' x half  W (HV1.out.no h) (HY.out.no (hc.no h)) (by omega) (by omega) SX.out HS.out )
      have KY := hid (fun W (h : Chg No wo W) => halfDist _ _ _ _ A2 A' 2 c2 2 c' y half  W (HV2.out.no h) (HY.out.no (hc.no h)) (by omega) (by omega) SY.out HS.out )
      obtain ⟨dx, hdx⟩ : ∃ d, distF 3 x half = d := ⟨_, rfl⟩
      obtain ⟨dy, hdy⟩ : ∃ d, distF 3 y half = d := ⟨_, rfl⟩
      rw [hdx] at KX hst
      rw [hdy] at KY hst
      clear f1' f2' hv1 hv2 hx hy hx2 hy2 hdx hdy
      by_cases hd : dx < dy
      · rw [if_pos hd] at hst
        have HST := hid hst
        have d1 : decide (dx < dy) = true := decide_eq_true hd
        clear hst hd
        go_wp2_with fail
        (refine wp_region_nb (by kernel_rfl) (by kernel_rfl) ?_; (repeat (first | go_big_quiet_step ((first | (go_at_call 118; (with_reducible exact nb_of (KX.out _ (NB.h _)))) | (go_at_call 118; (with_reducible exact nb_of (KY.out _ (NB.h _)))))) | quiet_step ((first | (go_at_call 118; (with_reducible exact nb_of (KX.out _ (NB.h _)))) | (go_at_call 118; (with_reducible exact nb_of (KY.out _ (NB.h _)))))))); (with_reducible refine wpQuiet_nil ?_); intro wq hw1; have hq := nb_out hw1; clear hw1)
        go_wp2
        go_roundw
        case rel => exact ⟨k + 1, by omega, by omega, by go_num, by rw [HST.out], hc.no hq⟩
        case measure => simp [intOf]; omega
      · rw [if_neg hd] at hst
        have HST := hid hst
        have d1 : decide (dx < dy) = false := decide_eq_false hd
        clear hst hd
        go_wp2_with fail
        (refine wp_region_nb (by kernel_rfl) (by kernel_rfl) ?_; (repeat (first | go_big_quiet_step ((first | (go_at_call 118; (with_reducible exact nb_of (KX.out _ (NB.h _)))) | (go_at_call 118; (with_reducible exact nb_of (KY.out _ (NB.h _)))))) | quiet_step ((first | (go_at_call 118; (with_reducible exact nb_of (KX.out _ (NB.h _)))) | (go_at_call 118; (with_reducible exact nb_of (KY.out _ (NB.h _)))))))); (with_reducible refine wpQuiet_nil ?_); intro wq hw1; have hq := nb_out hw1; clear hw1)
        go_wp2
        go_roundw
        case rel => exact ⟨k + 1, by omega, by omega, by go_num, by rw [HST.out], hc.no hq⟩
        case measure => simp [intOf]; omega
    · obtain rfl : k = n := by omega
      rw [← HF.out]
      go_wp2
      go_ret
      exact ⟨rfl, hc⟩
set_option maxHeartbeats 2000000 in
theorem encodeVector (lp hp : Nat) (AL : Option Addr) (nL cL : Nat) (L : List (List Int)) (lq hq : Nat) (AR : Option Addr) (nR cR : Nat) (R : List (List Int)) (l1 h1 : Nat) (A : Option Addr) (n c : Nat) (v : List Int) (w : World) (hl : RRows w lp hp AL nL cL L) (hr : RRows w lq hq AR nR cR R) (hv : RInts w l1 h1 A n c v) (hb : BookOk L R) (hvb : vecB v = true) :
    Calls Try.prog 60 #[.agg #[.slice AL nL cL, .slice AR nR cR], .slice A n c] w fun e w' => e = .returned (.int .i64 (encF L R v : Nat)) ∧ Chg No w w' := by
  obtain rfl : nL = 4 := by have h9 : L.length = nL := hl.len; have := hb.l4; omega
  obtain rfl : nR = 4 := by have h9 : R.length = nR := hr.len; have := hb.r4; omega
  obtain rfl : n = 4 := by have h9 : v.length = n := hv.len; have := vecB_len hvb; omega
  have hnc := hv.le; have hcm := hv.cap
  have hne : ¬ c = 2 := by omega
  have hl1 := hl.le; have hl2 := hl.cap; have hl3 := hr.le; have hl4 := hr.cap
  obtain ⟨b, o, hA, _, _, _⟩ := hv.2.2.2 (by omega)
  subst hA
  have SV := vecB_small hvb
  have HT := RSl.take hv (k := 2) (by omega)
  have HD := RSl.drop hv (k := 2) (by omega)
  rw [if_neg hne] at HD
  simp only [Option.map_some, Addr.add_lit] at HD
  have K1 := hid (fun W (h : Chg No w W) => closestOf _ _ AL 4 cL L _ _ _ _ (v.take 2) W (hl.no h) (RInts.no HT h) (by omega) (by omega) hb.lv (SV.take 2))
  have K2 := hid (fun W (h : Chg No w W) => closestOf _ _ AR 4 cR R _ _ _ _ (v.drop 2) W (hr.no h) (RInts.no HD h) (by omega) (by omega) hb.rv (fun x hx => SV x (List.mem_of_mem_drop hx)))
  have g1 := closeF_lt (v.take 2) hb.l4
  have g2 := closeF_lt (v.drop 2) hb.r4
  have HF := hid (show encF L R v = closeF L (v.take 2) * 4 + closeF R (v.drop 2) from rfl)
  generalize closeF L (v.take 2) = x1 at *
  generalize closeF R (v.drop 2) = x2 at *
  have BX := hid (Box.new (w := w) [.slice AL 4 cL, .slice AR 4 cR] 25 rfl)
  clear hl hr hv HT HD SV hb hvb
  go_enter Try.func60, Try.ntmps60
  go_wp2_with fail
  have W0 : Chg No w (w.alloc (.cells #[.slice AL 4 cL, .slice AR 4 cR] 25)) := (Chg.refl No w).alloc _
  have f1 : ∀ p : NB (w.alloc (.cells #[.slice AL 4 cL, .slice AR 4 cR] 25)), p.wd.cell? ⟨w.heap.size, 0, none⟩ = some (.slice AL 4 cL) := nb_cell (BX.out.cell 0)
  have f2 : ∀ p : NB (w.alloc (.cells #[.slice AL 4 cL, .slice AR 4 cR] 25)), p.wd.cell? ⟨w.heap.size, 1, none⟩ = some (.slice AR 4 cR) := nb_cell (BX.out.cell 1)
  (refine wp_region_nb (by kernel_rfl) (by kernel_rfl) ?_; (repeat (first | go_big_quiet_step ((first | (go_at_call 97; (with_reducible exact nb_of (K1.out _ (W0.no (NB.h _))))) | (go_at_call 97; (with_reducible exact nb_of (K2.out _ (W0.no (NB.h _))))))) | quiet_step ((first | (go_at_call 97; (with_reducible exact nb_of (K1.out _ (W0.no (NB.h _))))) | (go_at_call 97; (with_reducible exact nb_of (K2.out _ (W0.no (NB.h _))))))))); (with_reducible refine wpQuiet_nil ?_); intro wq hw1; have hq := nb_out hw1; clear hw1)
  go_wp2
  go_ret
  exact ⟨by rw [HF.out]; go_num, W0.no hq⟩
set_option maxHeartbeats 2000000 in
theorem sEncode (lp hp : Nat) (AL : Option Addr) (nL cL : Nat) (L : List (List Int)) (lq hq : Nat) (AR : Option Addr) (nR cR : Nat) (R : List (List Int)) (l1 h1 : Nat) (A : Option Addr) (n c : Nat) (v : List Int) (w : World) (hl : RRows w lp hp AL nL cL L) (hr : RRows w lq hq AR nR cR R) (hv : RInts w l1 h1 A n c v) (hb : BookOk L R) (hvb : vecB v = true) :
    Calls Try.prog 56 #[.agg #[.slice AL nL cL, .slice AR nR cR], .slice A n c] w fun e w' => e = .returned (.int .i64 (encF L R v : Nat)) ∧ Chg No w w' := by
  obtain rfl : nL = 4 := by have h9 : L.length = nL := hl.len; have := hb.l4; omega
  obtain rfl : nR = 4 := by have h9 : R.length = nR := hr.len; have := hb.r4; omega
  obtain rfl : n = 4 := by have h9 : v.length = n := hv.len; have := vecB_len hvb; omega
  have hnc := hv.le; have hcm := hv.cap
  have hne : ¬ c = 2 := by omega
  have hl1 := hl.le; have hl2 := hl.cap; have hl3 := hr.le; have hl4 := hr.cap
  obtain ⟨b, o, hA, _, _, _⟩ := hv.2.2.2 (by omega)
  subst hA
  have SV := vecB_small hvb
  have HT := RSl.take hv (k := 2) (by omega)
  have HD := RSl.drop hv (k := 2) (by omega)
  rw [if_neg hne] at HD
  simp only [Option.map_some, Addr.add_lit] at HD
  have K1 := hid (fun W (h : Chg No w W) => sClosest _ _ AL 4 cL L _ _ _ _ (v.take 2) W (hl.no h) (RInts.no HT h) (by omega) (by omega) hb.lv (SV.take 2))
  have K2 := hid (fun W (h : Chg No w W) => sClosest _ _ AR 4 cR R _ _ _ _ (v.drop 2) W (hr.no h) (RInts.no HD h) (by omega) (by omega) hb.rv (fun x hx => SV x (List.mem_of_mem_drop hx)))
  have g1 := closeF_lt (v.take 2) hb.l4
  have g2 := closeF_lt (v.drop 2) hb.r4
  have HF := hid (show encF L R v = closeF L (v.take 2) * 4 + closeF R (v.drop 2) from rfl)
  generalize closeF L (v.take 2) = x1 at *
  generalize closeF R (v.drop 2) = x2 at *
  have BX := hid (Box.new (w := w) [.slice AL 4 cL, .slice AR 4 cR] 25 rfl)
  clear hl hr hv HT HD SV hb hvb
  go_enter Try.func56, Try.ntmps56
  go_wp2_with fail
  have W0 : Chg No w (w.alloc (.cells #[.slice AL 4 cL, .slice AR 4 cR] 25)) := (Chg.refl No w).alloc _
  have f1 : ∀ p : NB (w.alloc (.cells #[.slice AL 4 cL, .slice AR 4 cR] 25)), p.wd.cell? ⟨w.heap.size, 0, none⟩ = some (.slice AL 4 cL) := nb_cell (BX.out.cell 0)
  have f2 : ∀ p : NB (w.alloc (.cells #[.slice AL 4 cL, .slice AR 4 cR] 25)), p.wd.cell? ⟨w.heap.size, 1, none⟩ = some (.slice AR 4 cR) := nb_cell (BX.out.cell 1)
  (refine wp_region_nb (by kernel_rfl) (by kernel_rfl) ?_; (repeat (first | go_big_quiet_step ((first | (go_at_call 96; (with_reducible exact nb_of (K1.out _ (W0.no (NB.h _))))) | (go_at_call 96; (with_reducible exact nb_of (K2.out _ (W0.no (NB.h _))))))) | quiet_step ((first | (go_at_call 96; (with_reducible exact nb_of (K1.out _ (W0.no (NB.h _))))) | (go_at_call 96; (with_reducible exact nb_of (K2.out _ (W0.no (NB.h _))))))))); (with_reducible refine wpQuiet_nil ?_); intro wq hw1; have hq := nb_out hw1; clear hw1)
  go_wp2
  go_ret
  exact ⟨by rw [HF.out]; go_num, W0.no hq⟩
end Go.Proofs.Ytifdcdpdihfbjaa
namespace Go.Proofs.Ytifdcdpdihfbjaa
open Go.RowKit
set_option linter.unusedVariables false
set_option linter.unusedSimpArgs false
set_option maxHeartbeats 4000000 in
theorem decodeVector (lp hp : Nat) (AL : Option Addr) (nL cL : Nat) (L : List (List Int)) (lq hq : Nat) (AR : Option Addr) (nR cR : Nat) (R : List (List Int)) (k : Nat) (w : World) (hl : RRows w lp hp AL nL cL L) (hr : RRows w lq hq AR nR cR R) (hb : BookOk L R) (hk : k < 16) :
    Calls Try.prog 59 #[.agg #[.slice AL nL cL, .slice AR nR cR], .int .i64 k] w (RetInts (decF L R k) w) := by
  obtain rfl : nL = 4 := by have h9 : L.length = nL := hl.len; have := hb.l4; omega
  obtain rfl : nR = 4 := by have h9 : R.length = nR := hr.len; have := hb.r4; omega
  have hl1 := hl.le; have hl2 := hl.cap; have hl3 := hr.le; have hl4 := hr.cap
  obtain ⟨i, hi⟩ : ∃ i : Nat, k / 4 = i := ⟨_, rfl⟩
  obtain ⟨j, hj⟩ : ∃ j : Nat, k % 4 = j := ⟨_, rfl⟩
  have hi4 : i < 4 := by omega
  have hj4 : j < 4 := by omega
  have e1 : (k : Int) / 4 = (i : Int) := by omega
  have e2 : (k : Int) % 4 = (j : Int) := by omega
  have e3 : (k : Int).tdiv 4 = (i : Int) := by rw [Int.tdiv_eq_ediv_of_nonneg (by omega)]; exact e1
  have e4 : (k : Int).tmod 4 = (j : Int) := by rw [Int.tmod_eq_emod_of_nonneg (by omega)]; exact e2
  have i1 : IntKind.i64.wrap (i : Int) = (i : Int) := by rw [IntKind.wrap_i64]; omega
  have i3 : (i : Int) < 4 := by omega
  have i4 : (j : Int) < 4 := by omega
  have i2 : IntKind.i64.wrap (j : Int) = (j : Int) := by rw [IntKind.wrap_i64]; omega
  obtain ⟨b1, o1, x, hA1, _, _, hx, A1, n1, c1, f1', hv1⟩ := hl.at_ hi4
  obtain ⟨b2, o2, y, hA2, _, _, hy, A2, n2, c2, f2', hv2⟩ := hr.at_ hj4
  subst hA1 hA2
  have hx2 := hb.lv x (List.mem_of_getElem? hx)
  have hy2 := hb.rv y (List.mem_of_getElem? hy)
  obtain rfl : n1 = 2 := by have h9 : x.length = n1 := hv1.len; omega
  obtain rfl : n2 = 2 := by have h9 : y.length = n2 := hv2.len; omega
  have hxl := hx2.1; have hyl := hy2.1
  have HF := hid (show decF L R k = x ++ y from by unfold decF; rw [hi, hj, getD_at hx, getD_at hy])
  have W0c : Chg No w (w.alloc (.cells #[.slice (some ⟨b1, o1, none⟩) 4 cL, .slice (some ⟨b2, o2, none⟩) 4 cR] 25)) := (Chg.refl No w).alloc _
  have BX := hid (Box.new (w := w) [.slice (some ⟨b1, o1, none⟩) 4 cL, .slice (some ⟨b2, o2, none⟩) 4 cR] 25 rfl)
  have s0 := W0c.size
  have F1 := hid (show w.cell? ⟨b1, o1 + i, none⟩ = some (.slice A1 2 c1) from by simpa using f1')
  have F2 := hid (show w.cell? ⟨b2, o2 + j, none⟩ = some (.slice A2 2 c2) from by simpa using f2')
  have HV1 := hid hv1; have HV2 := hid hv2
  have ha1 := hv1.le; have ha2 := hv1.cap; have ha3 := hv2.le; have ha4 := hv2.cap
  clear hl hr hi hj hk f1' f2' hv1 hv2 hx hy hx2 hy2 hb
  go_enter Try.func59, Try.ntmps59
  go_wp2_with fail
  obtain ⟨W0, hW0⟩ : ∃ W, w.alloc (.cells #[.slice (some ⟨b1, o1, none⟩) 4 cL, .slice (some ⟨b2, o2, none⟩) 4 cR] 25) = W := ⟨_, rfl⟩
  rw [hW0] at W0c s0 BX ⊢
  have g1 : W0.cell? ⟨w.heap.size, 0, none⟩ = some (.slice (some ⟨b1, o1, none⟩) 4 cL) := BX.out.cell 0
  have g2 : W0.cell? ⟨w.heap.size, 1, none⟩ = some (.slice (some ⟨b2, o2, none⟩) 4 cR) := BX.out.cell 1
  have g3 : W0.cell? ⟨b1, o1 + i, none⟩ = some (.slice A1 2 c1) := cell_keep W0c F1.out (fun e => e)
  have g4 : W0.cell? ⟨b2, o2 + j, none⟩ = some (.slice A2 2 c2) := cell_keep W0c F2.out (fun e => e)
  have t1 := cell_lt g1; have t3 := cell_lt g3; have t4 := cell_lt g4
  have HO0 := hid (show OInts (W0.alloc (.cells #[] 3)) W0.heap.size (.slice (some ⟨W0.heap.size, 0, none⟩) 0 0) [] from OSl.lit (T := 3) (sz := 1) (enc := cInt) (n := 0) [] [] (fun _ => rfl) rfl rfl (by omega) (Nat.le_refl _) (heap_top rfl))
  have HS1 := hid (src_ints (HV1.out.no (W0c.alloc (.cells #[] 3))))
  have z0 : W0.heap.size ≤ (W0.alloc (.cells #[] 3)).heap.size := by simp
  have hn2 : ([] ++ x).length + 2 ≤ 100000000 := by simp; omega
  clear hW0 F1 F2 BX
  go_region_law (first | ((refine step_push _ rfl (.tmp 5) (.tmp 11) 27 rfl 3 1 8 (.int .i64 0) cInt Try.underlying27 infoInt rfl (by omega) (by omega) (fun _ => rfl) oneInt W0.heap.size (.slice (some ⟨W0.heap.size, 0, none⟩) 0 0) [] rfl HO0.out A1 2 c1 x rfl HS1.out (Nat.le_of_ble_eq_true rfl) z0 ?_; intro v1 w1 ho1 hg1 hb1; have hcA : Chg No W0 w1 := Chg.pushed (Chg.drew ((Chg.refl No W0).alloc (.cells #[] 3))) hg1 (OSl.drew HO0.out) (Nat.le_refl _); have q1 := cell_keep hcA g1 (fun e => e); have q2 := cell_keep hcA g2 (fun e => e); have q3 := cell_keep hcA g3 (fun e => e); have q4 := cell_keep hcA g4 (fun e => e); have r1 := cell_lt q1; have r3 := cell_lt q3; have r4 := cell_lt q4; have HH1 := hid ho1; have HS2 := hid (src_ints (HV2.out.no (W0c.no hcA))); have z1 := hcA.size)) | ((refine step_push _ rfl (.tmp 12) (.tmp 18) 27 rfl 3 1 8 (.int .i64 0) cInt Try.underlying27 infoInt rfl (by omega) (by omega) (fun _ => rfl) oneInt W0.heap.size v1 ([] ++ x) rfl HH1.out A2 2 c2 y rfl HS2.out hn2 z1 ?_; intro v2 w2 ho2 hg2 hb2; have hcB : Chg No W0 w2 := Chg.pushed hcA hg2 HH1.out (Nat.le_refl _))))
  all_goals
    have HO2 := hid (OSl.down ho2 (base' := w.heap.size) s0)
    clear ho1 ho2 hg1 hg2 hb1 hb2 HH1
    go_wp2
    go_ret
    exact ⟨_, rfl, by rw [HF.out]; exact HO2.out, W0c.no hcB⟩
set_option maxHeartbeats 4000000 in
theorem sDecode (lp hp : Nat) (AL : Option Addr) (nL cL : Nat) (L : List (List Int)) (lq hq : Nat) (AR : Option Addr) (nR cR : Nat) (R : List (List Int)) (k : Nat) (w : World) (hl : RRows w lp hp AL nL cL L) (hr : RRows w lq hq AR nR cR R) (hb : BookOk L R) (hk : k < 16) :
    Calls Try.prog 55 #[.agg #[.slice AL nL cL, .slice AR nR cR], .int .i64 k] w (RetInts (decF L R k) w) := by
  obtain rfl : nL = 4 := by have h9 : L.length = nL := hl.len; have := hb.l4; omega
  obtain rfl : nR = 4 := by have h9 : R.length = nR := hr.len; have := hb.r4; omega
  have hl1 := hl.le; have hl2 := hl.cap; have hl3 := hr.le; have hl4 := hr.cap
  obtain ⟨i, hi⟩ : ∃ i : Nat, k / 4 = i := ⟨_, rfl⟩
  obtain ⟨j, hj⟩ : ∃ j : Nat, k % 4 = j := ⟨_, rfl⟩
  have hi4 : i < 4 := by omega
  have hj4 : j < 4 := by omega
  have e1 : (k : Int) / 4 = (i : Int) := by omega
  have e2 : (k : Int) % 4 = (j : Int) := by omega
  have e3 : (k : Int).tdiv 4 = (i : Int) := by rw [Int.tdiv_eq_ediv_of_nonneg (by omega)]; exact e1
  have e4 : (k : Int).tmod 4 = (j : Int) := by rw [Int.tmod_eq_emod_of_nonneg (by omega)]; exact e2
  have i1 : IntKind.i64.wrap (i : Int) = (i : Int) := by rw [IntKind.wrap_i64]; omega
  have i3 : (i : Int) < 4 := by omega
  have i4 : (j : Int) < 4 := by omega
  have i2 : IntKind.i64.wrap (j : Int) = (j : Int) := by rw [IntKind.wrap_i64]; omega
  obtain ⟨b1, o1, x, hA1, _, _, hx, A1, n1, c1, f1', hv1⟩ := hl.at_ hi4
  obtain ⟨b2, o2, y, hA2, _, _, hy, A2, n2, c2, f2', hv2⟩ := hr.at_ hj4
  subst hA1 hA2
  have hx2 := hb.lv x (List.mem_of_getElem? hx)
  have hy2 := hb.rv y (List.mem_of_getElem? hy)
  obtain rfl : n1 = 2 := by have h9 : x.length = n1 := hv1.len; omega
  obtain rfl : n2 = 2 := by have h9 : y.length = n2 := hv2.len; omega
  have hxl := hx2.1; have hyl := hy2.1
  have HF := hid (show decF L R k = x ++ y from by unfold decF; rw [hi, hj, getD_at hx, getD_at hy])
  have W0c : Chg No w (w.alloc (.cells #[.slice (some ⟨b1, o1, none⟩) 4 cL, .slice (some ⟨b2, o2, none⟩) 4 cR] 25)) := (Chg.refl No w).alloc _
  have BX := hid (Box.new (w := w) [.slice (some ⟨b1, o1, none⟩) 4 cL, .slice (some ⟨b2, o2, none⟩) 4 cR] 25 rfl)
  have s0 := W0c.size
  have F1 := hid (show w.cell? ⟨b1, o1 + i, none⟩ = some (.slice A1 2 c1) from by simpa using f1')
  have F2 := hid (show w.cell? ⟨b2, o2 + j, none⟩ = some (.slice A2 2 c2) from by simpa using f2')
  have HV1 := hid hv1; have HV2 := hid hv2
  have ha1 := hv1.le; have ha2 := hv1.cap; have ha3 := hv2.le; have ha4 := hv2.cap
  clear hl hr hi hj hk f1' f2' hv1 hv2 hx hy hx2 hy2 hb
  go_enter Try.func55, Try.ntmps55
  go_wp2_with fail
  obtain ⟨W0, hW0⟩ : ∃ W, w.alloc (.cells #[.slice (some ⟨b1, o1, none⟩) 4 cL, .slice (some ⟨b2, o2, none⟩) 4 cR] 25) = W := ⟨_, rfl⟩
  rw [hW0] at W0c s0 BX ⊢
  have g1 : W0.cell? ⟨w.heap.size, 0, none⟩ = some (.slice (some ⟨b1, o1, none⟩) 4 cL) := BX.out.cell 0
  have g2 : W0.cell? ⟨w.heap.size, 1, none⟩ = some (.slice (some ⟨b2, o2, none⟩) 4 cR) := BX.out.cell 1
  have g3 : W0.cell? ⟨b1, o1 + i, none⟩ = some (.slice A1 2 c1) := cell_keep W0c F1.out (fun e => e)
  have g4 : W0.cell? ⟨b2, o2 + j, none⟩ = some (.slice A2 2 c2) := cell_keep W0c F2.out (fun e => e)
  have t1 := cell_lt g1; have t3 := cell_lt g3; have t4 := cell_lt g4
  have HO0 := hid (show OInts (W0.alloc (.cells #[] 3)) W0.heap.size (.slice (some ⟨W0.heap.size, 0, none⟩) 0 0) [] from OSl.lit (T := 3) (sz := 1) (enc := cInt) (n := 0) [] [] (fun _ => rfl) rfl rfl (by omega) (Nat.le_refl _) (heap_top rfl))
  have HS1 := hid (src_ints (HV1.out.no (W0c.alloc (.cells #[] 3))))
  have z0 : W0.heap.size ≤ (W0.alloc (.cells #[] 3)).heap.size := by simp
  have hn2 : ([] ++ x).length + 2 ≤ 100000000 := by simp; omega
  clear hW0 F1 F2 BX
  go_region_law (first | ((refine step_push _ rfl (.tmp 5) (.tmp 11) 27 rfl 3 1 8 (.int .i64 0) cInt Try.underlying27 infoInt rfl (by omega) (by omega) (fun _ => rfl) oneInt W0.heap.size (.slice (some ⟨W0.heap.size, 0, none⟩) 0 0) [] rfl HO0.out A1 2 c1 x rfl HS1.out (Nat.le_of_ble_eq_true rfl) z0 ?_; intro v1 w1 ho1 hg1 hb1; have hcA : Chg No W0 w1 := Chg.pushed (Chg.drew ((Chg.refl No W0).alloc (.cells #[] 3))) hg1 (OSl.drew HO0.out) (Nat.le_refl _); have q1 := cell_keep hcA g1 (fun e => e); have q2 := cell_keep hcA g2 (fun e => e); have q3 := cell_keep hcA g3 (fun e => e); have q4 := cell_keep hcA g4 (fun e => e); have r1 := cell_lt q1; have r3 := cell_lt q3; have r4 := cell_lt q4; have HH1 := hid ho1; have HS2 := hid (src_ints (HV2.out.no (W0c.no hcA))); have z1 := hcA.size)) | ((refine step_push _ rfl (.tmp 12) (.tmp 18) 27 rfl 3 1 8 (.int .i64 0) cInt Try.underlying27 infoInt rfl (by omega) (by omega) (fun _ => rfl) oneInt W0.heap.size v1 ([] ++ x) rfl HH1.out A2 2 c2 y rfl HS2.out hn2 z1 ?_; intro v2 w2 ho2 hg2 hb2; have hcB : Chg No W0 w2 := Chg.pushed hcA hg2 HH1.out (Nat.le_refl _))))
  all_goals
    have HO2 := hid (OSl.down ho2 (base' := w.heap.size) s0)
    clear ho1 ho2 hg1 hg2 hb1 hb2 HH1
    go_wp2
    go_ret
    exact ⟨_, rfl, by rw [HF.out]; exact HO2.out, W0c.no hcB⟩
end Go.Proofs.Ytifdcdpdihfbjaa
namespace Go.Proofs.Ytifdcdpdihfbjaa
open Go.RowKit Go.Shelf
set_option linter.unusedVariables false
set_option linter.unusedSimpArgs false
theorem cell_grown {w w' : World} {row : Option Nat} {b o : Nat} {u : Value} (hg : w.grownBy w' row) (h : w.cell? ⟨b, o, none⟩ = some u) (hne : row ≠ some b) : w'.cell? ⟨b, o, none⟩ = some u :=
  cell_keep (Chg.grown (S := fun k => row = some k) (Chg.refl _ w) hg (fun k hk _ => hk)) h hne
set_option maxRecDepth 100000 in
set_option maxHeartbeats 8000000 in
theorem iCodeNear (lp hp : Nat) (AL : Option Addr) (nL cL : Nat) (L : List (List Int)) (lq hq : Nat) (AR : Option Addr) (nR cR : Nat) (R : List (List Int)) (l0 h0 : Nat) (A : Option Addr) (n c : Nat) (xs : List It) (l1 h1 : Nat) (A' : Option Addr) (n' c' : Nat) (at_ : List Int) (kk : Int) (w : World)
    (hl : RRows w lp hp AL nL cL L) (hr : RRows w lq hq AR nR cR R) (hx : RItems w l0 h0 A n c xs) (hy : RInts w l1 h1 A' n' c' at_) (hn : n ≤ 1000) (hb : BookOk L R)
    (hs : ∀ x ∈ xs, vecB x.vec = true) (ha : vecB at_ = true) (hkk0 : 0 ≤ kk) (hkk1 : kk ≤ 1000000) :
    Calls Try.prog 49 #[.agg #[.slice AL nL cL, .slice AR nR cR], .slice A n c, .slice A' n' c', .int .i64 kk] w (RetHits (cnearL L R xs at_ kk) w) := by
  have hnc := hx.le; have hcm := hx.cap
  have HX := hid hx
  have HY := hid hy
  have HS := hid hs
  have HSA := hid (vecB_small ha)
  have HL := hid hl
  have HR := hid hr
  have HB := hid hb
  obtain ⟨q, rfl⟩ := Int.eq_ofNat_of_zero_le hkk0
  have hn4 : n' = 4 := by have h9 : at_.length = n' := hy.len; have := vecB_len ha; omega
  subst hn4
  have BX := hid (Box.new (w := w) [.slice AL nL cL, .slice AR nR cR] 25 rfl)
  have HO0 := hid (show OHits ((w.alloc (.cells #[.slice AL nL cL, .slice AR nR cR] 25)).alloc (.cells #[] 39)) (w.heap.size + 1) (.slice (some ⟨w.heap.size + 1, 0, none⟩) 0 0) [] from OSl.lit (enc := cHit) (n := 0) [] [] (fun _ => rfl) rfl rfl (by omega) (by omega) (heap_top (by simp)))
  clear hx hy hs ha hl hr hb
  go_enter Try.func49, Try.ntmps49
  go_wp2
  go_loopw [9, 15] (fun v i wr => ∃ k : Nat, k ≤ n ∧ i = .int .i64 k ∧ Chg No (w.alloc (.cells #[.slice AL nL cL, .slice AR nR cR] 25)) wr ∧ Hid (OHits wr (w.heap.size + 1) v (hitsOf 3 at_ (coded L R (xs.take k))))) (fun _ i _ => n - (intOf i).toNat)
  case atStart => exact ⟨0, Nat.zero_le _, rfl, by (repeat (first | (with_reducible exact Chg.refl _ _) | ((with_reducible refine Chg.setNew ?_ _ ?_); rotate_left; first | (dsimp only; omega) | (simp; done) | (simp; omega)) | (with_reducible refine Chg.alloc ?_ _) | (with_reducible refine Chg.drew ?_) | (with_reducible refine Chg.drewN ?_ _) | (with_reducible refine Chg.no ?_ (by assumption)) | (with_reducible refine Chg.and_ ?_ (by assumption)) | ((with_reducible refine Chg.at_ ?_ (by assumption) ?_); rotate_left; (try simp only [World.size_alloc]); omega))), HO0⟩
  case round =>
    clear HO0
    obtain ⟨k, hk, rfl, hc, HO⟩ := hrel
    obtain ⟨wo, rfl⟩ : ∃ W : World, W = wr := ⟨_, rfl⟩
    have hcw : Chg No w wo := ((Chg.refl No w).alloc _).no hc
    have hlen9 : (hitsOf 3 at_ (coded L R (xs.take k))).length = k := by
      rw [hitsOf_length, coded_length, List.length_take]
      have := HX.out.len
      omega
    by_cases hlt : k < n
    · obtain ⟨b, o, z, rfl, _, _, hzk, hE⟩ := (HX.out.no hcw).at_ hlt
      obtain ⟨zk, zv, zt⟩ := z
      obtain ⟨hE1, ⟨A1, n1, c1, hE2, hv⟩, hE3⟩ := hE
      have f1 : wo.cell? ⟨b, o + k * 3, none⟩ = some (.int .i64 zk) := hE1
      have f2 : wo.cell? ⟨b, o + k * 3 + 1, none⟩ = some (.slice A1 n1 c1) := hE2
      have f3 : wo.cell? ⟨b, o + k * 3 + 2, none⟩ = some (.int .i64 zt) := hE3
      have hzv : vecB zv = true := HS.out _ (List.mem_of_getElem? hzk)
      have HV := hid hv
      have HD := hid (show hitsOf 3 at_ (coded L R (xs.take (k + 1))) = hitsOf 3 at_ (coded L R (xs.take k)) ++ [(zk, distF 3 (codedV L R zv) at_)] from coded_snoc hzk)
      have KE := hid (fun W (h : Chg No wo W) => encodeVector lp hp AL nL cL L lq hq AR nR cR R _ _ A1 n1 c1 zv W (HL.out.no (hcw.no h)) (HR.out.no (hcw.no h)) (HV.out.no h) HB.out hzv)
      have hc16 := encF_lt HB.out zv
      have hvD := decF_vec HB.out hc16
      have HDE : Hid (codedV L R zv = decF L R (encF L R zv)) := rfl
      obtain ⟨cd, hcd⟩ : ∃ cd, encF L R zv = cd := ⟨_, rfl⟩
      rw [hcd] at KE hc16 hvD HDE
      have KD := hid (fun W (h : Chg No wo W) => decodeVector lp hp AL nL cL L lq hq AR nR cR R cd W (HL.out.no (hcw.no h)) (HR.out.no (hcw.no h)) HB.out hc16)
      obtain ⟨D, hDD⟩ : ∃ D, decF L R cd = D := ⟨_, rfl⟩
      rw [hDD] at KD hvD HDE
      have hD4 : 4 ≤ D.length := by rw [vecB_len hvD]; omega
      have HSD := hid (vecB_small hvD)
      have KT := hid (fun l9 h9 A9 c9 W (h : Chg No wo W) (hd : RInts W l9 h9 A9 D.length c9 D) => iDistance _ _ _ _ _ _ _ _ _ _ at_ D 3 W (HY.out.no (hcw.no h)) hd (by omega) (by omega) HSA.out HSD.out (by omega) (by omega))
      have HDD := hid (show distF 3 (codedV L R zv) at_ = distF 3 at_ D from by rw [HDE.out, distF_symm])
      obtain ⟨dd, hdd⟩ : ∃ dd, distF 3 at_ D = dd := ⟨_, rfl⟩
      rw [hdd] at KT HDD
      obtain ⟨A9, c9, hv9, hr9⟩ := OHits.read HO.out
      rw [hlen9] at hv9
      subst hv9
      clear hzk hE1 hE2 hE3 hv hzv hr9 hcd hDD hvD hdd HDE
      generalize hacc : hitsOf 3 at_ (coded L R (xs.take k)) = acc at *
      clear hacc
      have b0 := (BX.out.no hc).f2
      have lb0 := (BX.out.no hc).lt
      go_wp2_with fail
      have BZ := hid (Box.new (w := wo) [.int .i64 zk, .slice A1 n1 c1, .int .i64 zt] 36 rfl)
      have so := hc.size
      simp only [World.size_alloc] at so
      have N1 : (Value.slice A9 k c9).ownBlock ≠ some w.heap.size := fun e => by have := (World.ownsRow.lt HO.out _ e).1; omega
      have N2 : (Value.slice A9 k c9).ownBlock ≠ some wo.heap.size := fun e => by have := (World.ownsRow.lt HO.out _ e).2; omega
      go_region_held3 (fun w' => (w'.cell? ⟨w.heap.size, 0, none⟩ = some (.slice AL nL cL) ∧ w'.cell? ⟨w.heap.size, 1, none⟩ = some (.slice AR nR cR)) ∧ (w'.cell? ⟨wo.heap.size, 0, none⟩ = some (.int .i64 zk) ∧ w'.cell? ⟨wo.heap.size, 1, none⟩ = some (.slice A1 n1 c1)))
        (first | go_keep | (go_split_ands; refine ⟨⟨?_, ?_⟩, ⟨?_, ?_⟩⟩ <;> exact cell_keep (by assumption) (by assumption) (fun e => e)) | (go_split_ands; refine ⟨⟨?_, ?_⟩, ⟨?_, ?_⟩⟩ <;> exact cell_grown (by assumption) (by assumption) (by assumption)))
        (first | ((go_at_call 60; (with_reducible refine (KE.out _ (by (repeat (first | (with_reducible exact Chg.refl _ _) | ((with_reducible refine Chg.setNew ?_ _ ?_); rotate_left; first | (dsimp only; omega) | (simp; done) | (simp; omega)) | (with_reducible refine Chg.alloc ?_ _) | (with_reducible refine Chg.drew ?_) | (with_reducible refine Chg.drewN ?_ _) | (with_reducible refine Chg.no ?_ (by assumption)) | (with_reducible refine Chg.and_ ?_ (by assumption)) | ((with_reducible refine Chg.at_ ?_ (by assumption) ?_); rotate_left; (try simp only [World.size_alloc]); omega))))).mono ?_); rintro e w1 ⟨rfl, hcA⟩; have hc1 : Chg No wo w1 := (by (repeat (first | (with_reducible exact Chg.refl _ _) | ((with_reducible refine Chg.setNew ?_ _ ?_); rotate_left; first | (dsimp only; omega) | (simp; done) | (simp; omega)) | (with_reducible refine Chg.alloc ?_ _) | (with_reducible refine Chg.drew ?_) | (with_reducible refine Chg.drewN ?_ _) | (with_reducible refine Chg.no ?_ (by assumption)) | (with_reducible refine Chg.and_ ?_ (by assumption)) | ((with_reducible refine Chg.at_ ?_ (by assumption) ?_); rotate_left; (try simp only [World.size_alloc]); omega))) : Chg No wo w1); have s1 := hc1.size; have hz1 := hcA)) | ((go_at_call 59; (with_reducible refine (KD.out _ (by (repeat (first | (with_reducible exact Chg.refl _ _) | ((with_reducible refine Chg.setNew ?_ _ ?_); rotate_left; first | (dsimp only; omega) | (simp; done) | (simp; omega)) | (with_reducible refine Chg.alloc ?_ _) | (with_reducible refine Chg.drew ?_) | (with_reducible refine Chg.drewN ?_ _) | (with_reducible refine Chg.no ?_ (by assumption)) | (with_reducible refine Chg.and_ ?_ (by assumption)) | ((with_reducible refine Chg.at_ ?_ (by assumption) ?_); rotate_left; (try simp only [World.size_alloc]); omega))))).mono ?_); rintro e w2 ⟨v2, rfl, ho2, hcB⟩; obtain ⟨A2, c2, rfl, hr2⟩ := OInts.read ho2; have hc2 : Chg No wo w2 := (by (repeat (first | (with_reducible exact Chg.refl _ _) | ((with_reducible refine Chg.setNew ?_ _ ?_); rotate_left; first | (dsimp only; omega) | (simp; done) | (simp; omega)) | (with_reducible refine Chg.alloc ?_ _) | (with_reducible refine Chg.drew ?_) | (with_reducible refine Chg.drewN ?_ _) | (with_reducible refine Chg.no ?_ (by assumption)) | (with_reducible refine Chg.and_ ?_ (by assumption)) | ((with_reducible refine Chg.at_ ?_ (by assumption) ?_); rotate_left; (try simp only [World.size_alloc]); omega))) : Chg No wo w2); have s2 := hc2.size; have R2 := hid hr2; have p2 := hr2.cap; have k2 := hr2.le; clear ho2 hr2; have hz2 := hcB)) | ((go_at_call 58; (with_reducible refine (KT.out _ _ _ _ _ (by (repeat (first | (with_reducible exact Chg.refl _ _) | ((with_reducible refine Chg.setNew ?_ _ ?_); rotate_left; first | (dsimp only; omega) | (simp; done) | (simp; omega)) | (with_reducible refine Chg.alloc ?_ _) | (with_reducible refine Chg.drew ?_) | (with_reducible refine Chg.drewN ?_ _) | (with_reducible refine Chg.no ?_ (by assumption)) | (with_reducible refine Chg.and_ ?_ (by assumption)) | ((with_reducible refine Chg.at_ ?_ (by assumption) ?_); rotate_left; (try simp only [World.size_alloc]); omega)))) (R2.out.no (by (repeat (first | (with_reducible exact Chg.refl _ _) | ((with_reducible refine Chg.setNew ?_ _ ?_); rotate_left; first | (dsimp only; omega) | (simp; done) | (simp; omega)) | (with_reducible refine Chg.alloc ?_ _) | (with_reducible refine Chg.drew ?_) | (with_reducible refine Chg.drewN ?_ _) | (with_reducible refine Chg.no ?_ (by assumption)) | (with_reducible refine Chg.and_ ?_ (by assumption)) | ((with_reducible refine Chg.at_ ?_ (by assumption) ?_); rotate_left; (try simp only [World.size_alloc]); omega)))))).mono ?_); rintro e w3 ⟨rfl, hcC⟩; have hc3 : Chg No wo w3 := (by (repeat (first | (with_reducible exact Chg.refl _ _) | ((with_reducible refine Chg.setNew ?_ _ ?_); rotate_left; first | (dsimp only; omega) | (simp; done) | (simp; omega)) | (with_reducible refine Chg.alloc ?_ _) | (with_reducible refine Chg.drew ?_) | (with_reducible refine Chg.drewN ?_ _) | (with_reducible refine Chg.no ?_ (by assumption)) | (with_reducible refine Chg.and_ ?_ (by assumption)) | ((with_reducible refine Chg.at_ ?_ (by assumption) ?_); rotate_left; (try simp only [World.size_alloc]); omega))) : Chg No wo w3); have HX1 := hid (Src.one (sz := 2) (enc := cHit) (y := (zk, dd)) (Box.new (w := w3) [.int .i64 zk, .int .i64 dd] 39 rfl) rfl); have HH := hid (OSl.alloc (OSl.no HO.out hc3) (.cells #[.int .i64 zk, .int .i64 dd] 39)); have s3 := hc3.size; have hz3 := hcC)) | ((refine step_push _ rfl (.tmp 19) (.tmp 31) 30 rfl 39 2 16 (.agg #[.int .i64 0, .int .i64 0]) cHit Try.underlying30 infoHit rfl (by omega) (by omega) (fun _ => rfl) oneHit (w.heap.size + 1) _ acc (by rfl) HH.out _ 1 1 [(zk, dd)] (by rfl) HX1.out (by omega) (by simp; omega) ?_; intro v4 w4 ho4 hg4 hb4; have hcD : Chg No (w.alloc (.cells #[.slice AL nL cL, .slice AR nR cR] 25)) w4 := Chg.pushed ((hc.no hc3).alloc _) hg4 HH.out (by simp))))
      all_goals
        have HO8 := hid (show OHits w4 (w.heap.size + 1) v4 (hitsOf 3 at_ (coded L R (xs.take (k + 1)))) from by rw [HD.out, HDD.out]; exact ho4)
        clear ho4 hg4 hb4
        go_wp2
        go_roundw
        case rel => exact ⟨k + 1, by omega, by go_num, hcD, HO8⟩
        case measure => simp [intOf]; omega
    · have h9 := HO.out
      have hxl := HX.out.len
      rw [List.take_of_length_le (by omega)] at h9
      obtain ⟨A9, c9, hv9, hr9⟩ := OHits.read h9
      have hl8 : (hitsOf 3 at_ (coded L R xs)).length = n := by rw [hitsOf_length, coded_length]; omega
      rw [hl8] at hv9
      subst hv9
      have hp9 := hr9.cap; have hk9 := hr9.le
      rw [hl8] at hk9
      have HO8 := hid h9
      have hz := hcw.size
      have K := hid (fun W (hW : Chg No wo W) => iFirstHits (w.heap.size + 1) A9 n c9 (hitsOf 3 at_ (coded L R xs)) q W (OSl.no HO8.out hW) (by omega) (by omega))
      have hT : (sortHits (hitsOf 3 at_ (coded L R xs))).take q = cnearL L R xs at_ (q : Int) := by have h7 := nearest_sort (coded L R xs) 3 at_ (q : Int); unfold cnearL; simpa using h7
      rw [hT] at K
      clear h9 hr9 hlen9 hl8 HO hT
      (go_wp2_with fail; (with_reducible refine (K.out _ (by (repeat (first | (with_reducible exact Chg.refl _ _) | ((with_reducible refine Chg.setNew ?_ _ ?_); rotate_left; first | (dsimp only; omega) | (simp; done) | (simp; omega)) | (with_reducible refine Chg.alloc ?_ _) | (with_reducible refine Chg.drew ?_) | (with_reducible refine Chg.drewN ?_ _) | (with_reducible refine Chg.no ?_ (by assumption)) | (with_reducible refine Chg.and_ ?_ (by assumption)) | ((with_reducible refine Chg.at_ ?_ (by assumption) ?_); rotate_left; (try simp only [World.size_alloc]); omega))))).mono ?_); rintro e w2 ⟨v2, rfl, ho2, hc2⟩)
      have HF := hid (OSl.down ho2 (base' := w.heap.size) hz)
      have hcF : Chg No w w2 := hcw.trans hc2 (fun i hi h => by have := (World.ownsRow.lt HO8.out i h).1; omega)
      clear ho2 hc2
      go_wp2
      go_ret
      exact ⟨_, rfl, HF.out, hcF⟩
set_option maxHeartbeats 4000000 in
theorem iCodeNearest (lp hp : Nat) (AL : Option Addr) (nL cL : Nat) (L : List (List Int)) (lq hq : Nat) (AR : Option Addr) (nR cR : Nat) (R : List (List Int)) (l0 h0 : Nat) (A : Option Addr) (n c : Nat) (xs : List It) (l1 h1 : Nat) (A' : Option Addr) (n' c' : Nat) (at_ : List Int) (k : Int) (w : World)
    (hl : RRows w lp hp AL nL cL L) (hr : RRows w lq hq AR nR cR R) (hx : RItems w l0 h0 A n c xs) (hy : RInts w l1 h1 A' n' c' at_) :
    Calls Try.prog 9 #[.agg #[.slice AL nL cL, .slice AR nR cR], .slice A n c, .slice A' n' c', .int .i64 k] w (RetHits (CnearF L R xs at_ k) w) := by
  have HX := hid hx; have HY := hid hy; have HL := hid hl; have HR := hid hr
  have BX := hid (Box.new (w := w) [.slice AL nL cL, .slice AR nR cR] 25 rfl)
  have K1 := hid (fun W (h : Chg No w W) => isBook lp hp AL nL cL L lq hq AR nR cR R W (HL.out.no h) (HR.out.no h))
  have K2 := hid (fun W (h : Chg No w W) => iCanFind l0 h0 A n c xs l1 h1 A' n' c' at_ 3 k W (HX.out.no h) (HY.out.no h))
  have HB := hid (show cnOk L R xs at_ k = (bookB L R && canB xs 3 at_ k) from rfl)
  clear hl hr hx hy
  cases hb1 : bookB L R with
  | false =>
    have HF := hid (CnearF_no (L := L) (R := R) (l := xs) (at_ := at_) (k := k) (by rw [HB.out, hb1]; rfl))
    rw [hb1] at K1
    clear hb1
    go_enter Try.func9, Try.ntmps9
    (go_wp2_with fail; (with_reducible refine (K1.out _ (by (repeat (first | (with_reducible exact Chg.refl _ _) | ((with_reducible refine Chg.setNew ?_ _ ?_); rotate_left; first | (dsimp only; omega) | (simp; done) | (simp; omega)) | (with_reducible refine Chg.alloc ?_ _) | (with_reducible refine Chg.drew ?_) | (with_reducible refine Chg.drewN ?_ _) | (with_reducible refine Chg.no ?_ (by assumption)) | (with_reducible refine Chg.and_ ?_ (by assumption)) | ((with_reducible refine Chg.at_ ?_ (by assumption) ?_); rotate_left; (try simp only [World.size_alloc]); omega))))).mono ?_); rintro e w1 ⟨rfl, hc1⟩)
    go_wp2
    go_ret
    exact ⟨_, rfl, by rw [HF.out]; exact OSl.nil_ _, by (repeat (first | (with_reducible exact Chg.refl _ _) | ((with_reducible refine Chg.setNew ?_ _ ?_); rotate_left; first | (dsimp only; omega) | (simp; done) | (simp; omega)) | (with_reducible refine Chg.alloc ?_ _) | (with_reducible refine Chg.drew ?_) | (with_reducible refine Chg.drewN ?_ _) | (with_reducible refine Chg.no ?_ (by assumption)) | (with_reducible refine Chg.and_ ?_ (by assumption)) | ((with_reducible refine Chg.at_ ?_ (by assumption) ?_); rotate_left; (try simp only [World.size_alloc]); omega)))⟩
  | true =>
    rw [hb1] at K1
    cases hb2 : canB xs 3 at_ k with
    | false =>
      have HF := hid (CnearF_no (L := L) (R := R) (l := xs) (at_ := at_) (k := k) (by rw [HB.out, hb2]; simp))
      rw [hb2] at K2
      clear hb1 hb2
      go_enter Try.func9, Try.ntmps9
      (go_wp2_with fail; (with_reducible refine (K1.out _ (by (repeat (first | (with_reducible exact Chg.refl _ _) | ((with_reducible refine Chg.setNew ?_ _ ?_); rotate_left; first | (dsimp only; omega) | (simp; done) | (simp; omega)) | (with_reducible refine Chg.alloc ?_ _) | (with_reducible refine Chg.drew ?_) | (with_reducible refine Chg.drewN ?_ _) | (with_reducible refine Chg.no ?_ (by assumption)) | (with_reducible refine Chg.and_ ?_ (by assumption)) | ((with_reducible refine Chg.at_ ?_ (by assumption) ?_); rotate_left; (try simp only [World.size_alloc]); omega))))).mono ?_); rintro e w1 ⟨rfl, hc1⟩)
      have q1 : Chg No w w1 := (by (repeat (first | (with_reducible exact Chg.refl _ _) | ((with_reducible refine Chg.setNew ?_ _ ?_); rotate_left; first | (dsimp only; omega) | (simp; done) | (simp; omega)) | (with_reducible refine Chg.alloc ?_ _) | (with_reducible refine Chg.drew ?_) | (with_reducible refine Chg.drewN ?_ _) | (with_reducible refine Chg.no ?_ (by assumption)) | (with_reducible refine Chg.and_ ?_ (by assumption)) | ((with_reducible refine Chg.at_ ?_ (by assumption) ?_); rotate_left; (try simp only [World.size_alloc]); omega))) : Chg No w w1)
      (go_wp2_with fail; (with_reducible refine (K2.out _ q1).mono ?_); rintro e w2 ⟨rfl, hc2⟩)
      go_wp2
      go_ret
      exact ⟨_, rfl, by rw [HF.out]; exact OSl.nil_ _, q1.no hc2⟩
    | true =>
      rw [hb2] at K2
      have hok : CnOk L R xs at_ k := cnOk_ok (by rw [HB.out, hb1, hb2]; rfl)
      have HF := hid (CnearF_ok hok.ok)
      have hn16 : n ≤ 16 := by have := HX.out.len; have := storeB_len hok.can.store; omega
      have hk1 := hok.k1; have hk16 := hok.k16
      have K3 := hid (fun W (h : Chg No w W) => iCodeNear lp hp AL nL cL L lq hq AR nR cR R l0 h0 A n c xs l1 h1 A' n' c' at_ k W (HL.out.no h) (HR.out.no h) (HX.out.no h) (HY.out.no h) (by omega) hok.book hok.can.each hok.can.vec (by omega) (by omega))
      clear hb1 hb2 hok
      go_enter Try.func9, Try.ntmps9
      (go_wp2_with fail; (with_reducible refine (K1.out _ (by (repeat (first | (with_reducible exact Chg.refl _ _) | ((with_reducible refine Chg.setNew ?_ _ ?_); rotate_left; first | (dsimp only; omega) | (simp; done) | (simp; omega)) | (with_reducible refine Chg.alloc ?_ _) | (with_reducible refine Chg.drew ?_) | (with_reducible refine Chg.drewN ?_ _) | (with_reducible refine Chg.no ?_ (by assumption)) | (with_reducible refine Chg.and_ ?_ (by assumption)) | ((with_reducible refine Chg.at_ ?_ (by assumption) ?_); rotate_left; (try simp only [World.size_alloc]); omega))))).mono ?_); rintro e w1 ⟨rfl, hc1⟩)
      have q1 : Chg No w w1 := (by (repeat (first | (with_reducible exact Chg.refl _ _) | ((with_reducible refine Chg.setNew ?_ _ ?_); rotate_left; first | (dsimp only; omega) | (simp; done) | (simp; omega)) | (with_reducible refine Chg.alloc ?_ _) | (with_reducible refine Chg.drew ?_) | (with_reducible refine Chg.drewN ?_ _) | (with_reducible refine Chg.no ?_ (by assumption)) | (with_reducible refine Chg.and_ ?_ (by assumption)) | ((with_reducible refine Chg.at_ ?_ (by assumption) ?_); rotate_left; (try simp only [World.size_alloc]); omega))) : Chg No w w1)
      have b1 := (BX.out.no hc1).f2
      have m1 := (BX.out.no hc1).lt
      (go_wp2_with fail; (with_reducible refine (K2.out _ q1).mono ?_); rintro e w2 ⟨rfl, hc2⟩)
      have q2 : Chg No w w2 := q1.no hc2
      have b2 := (BX.out.no (hc1.no hc2)).f2
      have m2 := (BX.out.no (hc1.no hc2)).lt
      (go_wp2_with fail; (with_reducible refine (K3.out _ q2).mono ?_); rintro e w4 ⟨v4, rfl, ho4, hc4⟩)
      have s3 := q2.size
      have HO := hid (OSl.down ho4 (base' := w.heap.size) s3)
      clear ho4
      go_wp2
      go_ret
      exact ⟨_, rfl, by rw [HF.out]; exact HO.out, q2.no hc4⟩
set_option maxHeartbeats 2000000 in
theorem iEncodeVector (lp hp : Nat) (AL : Option Addr) (nL cL : Nat) (L : List (List Int)) (lq hq : Nat) (AR : Option Addr) (nR cR : Nat) (R : List (List Int)) (l1 h1 : Nat) (A : Option Addr) (n c : Nat) (v : List Int) (w : World) (hl : RRows w lp hp AL nL cL L) (hr : RRows w lq hq AR nR cR R) (hv : RInts w l1 h1 A n c v) (hbb : bookB L R = true) (hvb : vecB v = true) :
    Calls Try.prog 13 #[.agg #[.slice AL nL cL, .slice AR nR cR], .slice A n c] w fun e w' => e = .returned (.int .i64 (encF L R v : Nat)) ∧ Chg No w w' := by
  have HL := hid hl; have HR := hid hr; have HV := hid hv
  have BX := hid (Box.new (w := w) [.slice AL nL cL, .slice AR nR cR] 25 rfl)
  have K1 := hid (fun W (h : Chg No w W) => isBook lp hp AL nL cL L lq hq AR nR cR R W (HL.out.no h) (HR.out.no h))
  have K2 := hid (fun W (h : Chg No w W) => iIsVec4 l1 h1 A n c v W (HV.out.no h))
  have K3 := hid (fun W (h : Chg No w W) => encodeVector lp hp AL nL cL L lq hq AR nR cR R l1 h1 A n c v W (HL.out.no h) (HR.out.no h) (HV.out.no h) (bookB_ok hbb) hvb)
  rw [hbb] at K1
  rw [hvb] at K2
  generalize encF L R v = r at *
  clear hl hr hv hbb hvb
  go_enter Try.func13, Try.ntmps13
  (go_wp2_with fail; (with_reducible refine (K1.out _ (by (repeat (first | (with_reducible exact Chg.refl _ _) | ((with_reducible refine Chg.setNew ?_ _ ?_); rotate_left; first | (dsimp only; omega) | (simp; done) | (simp; omega)) | (with_reducible refine Chg.alloc ?_ _) | (with_reducible refine Chg.drew ?_) | (with_reducible refine Chg.drewN ?_ _) | (with_reducible refine Chg.no ?_ (by assumption)) | (with_reducible refine Chg.and_ ?_ (by assumption)) | ((with_reducible refine Chg.at_ ?_ (by assumption) ?_); rotate_left; (try simp only [World.size_alloc]); omega))))).mono ?_); rintro e w1 ⟨rfl, hc1⟩)
  have q1 : Chg No w w1 := (by (repeat (first | (with_reducible exact Chg.refl _ _) | ((with_reducible refine Chg.setNew ?_ _ ?_); rotate_left; first | (dsimp only; omega) | (simp; done) | (simp; omega)) | (with_reducible refine Chg.alloc ?_ _) | (with_reducible refine Chg.drew ?_) | (with_reducible refine Chg.drewN ?_ _) | (with_reducible refine Chg.no ?_ (by assumption)) | (with_reducible refine Chg.and_ ?_ (by assumption)) | ((with_reducible refine Chg.at_ ?_ (by assumption) ?_); rotate_left; (try simp only [World.size_alloc]); omega))) : Chg No w w1)
  have b1 := (BX.out.no hc1).f2
  have m1 := (BX.out.no hc1).lt
  (go_wp2_with fail; (with_reducible refine (K2.out _ q1).mono ?_); rintro e w2 ⟨rfl, rfl⟩)
  (go_wp2_with fail; (with_reducible refine (K3.out _ q1).mono ?_); rintro e w4 ⟨rfl, hc4⟩)
  go_wp2
  go_ret
  exact ⟨rfl, q1.no hc4⟩
set_option maxHeartbeats 4000000 in
theorem iCodeDistances (lp hp : Nat) (AL : Option Addr) (nL cL : Nat) (L : List (List Int)) (lq hq : Nat) (AR : Option Addr) (nR cR : Nat) (R : List (List Int)) (l1 h1 : Nat) (A : Option Addr) (n c : Nat) (at_ : List Int) (w : World) (hl : RRows w lp hp AL nL cL L) (hr : RRows w lq hq AR nR cR R) (hv : RInts w l1 h1 A n c at_) (hbb : bookB L R = true) (hvb : vecB at_ = true) :
    Calls Try.prog 12 #[.agg #[.slice AL nL cL, .slice AR nR cR], .slice A n c] w (RetInts (cdistL L R at_ 16) w) := by
  have HL := hid hl; have HR := hid hr; have HV := hid hv
  have hn4 : n = 4 := by have h9 : at_.length = n := hv.len; have := vecB_len hvb; omega
  subst hn4
  have BX := hid (Box.new (w := w) [.slice AL nL cL, .slice AR nR cR] 25 rfl)
  have HSA := hid (vecB_small hvb)
  have HB := hid (bookB_ok hbb)
  have K1 := hid (fun W (h : Chg No w W) => isBook lp hp AL nL cL L lq hq AR nR cR R W (HL.out.no h) (HR.out.no h))
  have K2 := hid (fun W (h : Chg No w W) => iIsVec4 l1 h1 A 4 c at_ W (HV.out.no h))
  rw [hbb] at K1
  rw [hvb] at K2
  clear hl hr hv hbb hvb
  go_enter Try.func12, Try.ntmps12
  (go_wp2_with fail; (with_reducible refine (K1.out _ (by (repeat (first | (with_reducible exact Chg.refl _ _) | ((with_reducible refine Chg.setNew ?_ _ ?_); rotate_left; first | (dsimp only; omega) | (simp; done) | (simp; omega)) | (with_reducible refine Chg.alloc ?_ _) | (with_reducible refine Chg.drew ?_) | (with_reducible refine Chg.drewN ?_ _) | (with_reducible refine Chg.no ?_ (by assumption)) | (with_reducible refine Chg.and_ ?_ (by assumption)) | ((with_reducible refine Chg.at_ ?_ (by assumption) ?_); rotate_left; (try simp only [World.size_alloc]); omega))))).mono ?_); rintro e w1 ⟨rfl, hc1⟩)
  have q1 : Chg No w w1 := (by (repeat (first | (with_reducible exact Chg.refl _ _) | ((with_reducible refine Chg.setNew ?_ _ ?_); rotate_left; first | (dsimp only; omega) | (simp; done) | (simp; omega)) | (with_reducible refine Chg.alloc ?_ _) | (with_reducible refine Chg.drew ?_) | (with_reducible refine Chg.drewN ?_ _) | (with_reducible refine Chg.no ?_ (by assumption)) | (with_reducible refine Chg.and_ ?_ (by assumption)) | ((with_reducible refine Chg.at_ ?_ (by assumption) ?_); rotate_left; (try simp only [World.size_alloc]); omega))) : Chg No w w1)
  have BX1 := hid (BX.out.no hc1)
  have b1 := BX1.out.f2
  have m1 := BX1.out.lt
  have s1 := q1.size
  (go_wp2_with fail; (with_reducible refine (K2.out _ q1).mono ?_); rintro e w2 ⟨rfl, rfl⟩)
  have HO0 := hid (show OInts (w1.alloc (.cells #[] 3)) w1.heap.size (.slice (some ⟨w1.heap.size, 0, none⟩) 0 0) [] from OSl.lit (T := 3) (sz := 1) (enc := cInt) (n := 0) [] [] (fun _ => rfl) rfl rfl (by omega) (by omega) (heap_top rfl))
  clear hc1 K1 K2
  go_wp2
  go_loopw [5, 6, 16] (fun v s6 i wr => ∃ k : Nat, k ≤ 16 ∧ i = .int .i64 k ∧ Chg No w1 wr ∧ Hid (OInts wr w1.heap.size v (cdistL L R at_ k))) (fun _ _ i _ => 16 - (intOf i).toNat)
  case atStart => exact ⟨0, Nat.zero_le _, rfl, by (repeat (first | (with_reducible exact Chg.refl _ _) | ((with_reducible refine Chg.setNew ?_ _ ?_); rotate_left; first | (dsimp only; omega) | (simp; done) | (simp; omega)) | (with_reducible refine Chg.alloc ?_ _) | (with_reducible refine Chg.drew ?_) | (with_reducible refine Chg.drewN ?_ _) | (with_reducible refine Chg.no ?_ (by assumption)) | (with_reducible refine Chg.and_ ?_ (by assumption)) | ((with_reducible refine Chg.at_ ?_ (by assumption) ?_); rotate_left; (try simp only [World.size_alloc]); omega))), HO0⟩
  case round =>
    clear HO0
    obtain ⟨k, hk, rfl, hc, HO⟩ := hrel
    obtain ⟨wo, rfl⟩ : ∃ W : World, W = wr := ⟨_, rfl⟩
    have hcw : Chg No w wo := q1.no hc
    have so := hc.size
    by_cases hlt : k < 16
    · have HD := hid (cdist_snoc L R at_ k)
      have hl9 := cdist_len L R at_ k
      have KD := hid (fun W (h : Chg No wo W) => decodeVector lp hp AL nL cL L lq hq AR nR cR R k W (HL.out.no (hcw.no h)) (HR.out.no (hcw.no h)) HB.out hlt)
      have hvD := decF_vec HB.out hlt
      generalize hacc : cdistL L R at_ k = acc at *
      obtain ⟨D, hDD⟩ : ∃ D, decF L R k = D := ⟨_, rfl⟩
      rw [hDD] at KD hvD HD
      have hD4 : 4 ≤ D.length := by rw [vecB_len hvD]; omega
      have HSD := hid (vecB_small hvD)
      have hac : acc.length ≤ 16 := by omega
      have HDD := hid (show distF 3 D at_ = distF 3 at_ D from distF_symm 3 D at_)
      have KT := hid (fun l9 h9 A9 c9 W (h : Chg No wo W) (hd : RInts W l9 h9 A9 D.length c9 D) => iDistance _ _ _ _ _ _ _ _ _ _ at_ D 3 W (HV.out.no (hcw.no h)) hd (by omega) (by omega) HSA.out HSD.out (by omega) (by omega))
      obtain ⟨dd, hdd⟩ : ∃ dd, distF 3 at_ D = dd := ⟨_, rfl⟩
      rw [hdd] at KT HDD
      have b2 := (BX1.out.no hc).f2
      have m2 := (BX1.out.no hc).lt
      obtain ⟨A9, c9, hv9, hr9⟩ := OInts.read HO.out
      subst hv9
      have hp9 := hr9.cap; have hq9 := hr9.le
      clear hDD hvD hdd hacc hl9 hr9
      (go_wp2_with fail; (with_reducible refine (KD.out _ (Chg.refl _ _)).mono ?_); rintro e w3 ⟨v3, rfl, ho3, hc3⟩)
      obtain ⟨A3, c3, rfl, hr3⟩ := OInts.read ho3
      have p3 := hr3.cap; have k3 := hr3.le
      have R3 := hid hr3
      clear ho3 hr3
      (go_wp2_with fail; (with_reducible refine (KT.out _ _ _ _ _ hc3 R3.out).mono ?_); rintro e w4 ⟨rfl, hc4⟩)
      have q4 : Chg No wo w4 := hc3.no hc4
      have s4 := q4.size
      have HH := hid (OSl.alloc (OSl.no HO.out q4) (.cells #[.int .i64 dd] 3))
      have HX1 := hid (Src.one (sz := 1) (enc := cInt) (y := dd) (Box.new (w := w4) [.int .i64 dd] 3 rfl) rfl)
      go_wp2_with (at_builtin; refine wpList_push _ rfl _ _ 27 rfl 3 1 8 (.int .i64 0) cInt Try.underlying27 infoInt rfl (by omega) (by omega) (fun _ => rfl) oneInt w1.heap.size _ acc rfl HH.out _ 1 1 [dd] rfl HX1.out (by omega) (by simp; omega) ?_; intro v' w6 ho hg2 hb2)
      have hc7 : Chg No w1 w6 := Chg.pushed ((hc.no q4).alloc _) hg2 HH.out (Nat.le_refl _)
      have HO5 : Hid (OInts w6 w1.heap.size v' (cdistL L R at_ (k + 1))) := by show OInts _ _ _ _; rw [HD.out, HDD.out]; exact ho
      clear ho hg2 hb2 HX1 HH HO
      go_wp2
      go_roundw
      case rel => exact ⟨k + 1, by omega, by go_num, hc7, HO5⟩
      case measure => simp [intOf]; omega
    · obtain rfl : k = 16 := by omega
      go_wp2
      go_ret
      exact ⟨_, rfl, OSl.down HO.out (by omega), hcw⟩
end Go.Proofs.Ytifdcdpdihfbjaa
namespace Go.Proofs.Ytifdcdpdihfbjaa
open Go.RowKit Go.Shelf
set_option linter.unusedVariables false
set_option linter.unusedSimpArgs false
theorem chg_eqC {P : Program} {f : Nat} {args : Array Value} {w : World} {v : Value} (h : Calls P f args w fun e w' => e = .returned v ∧ w = w') : Calls P f args w fun e w' => e = .returned v ∧ Chg No w w' :=
  h.mono (fun _ _ ⟨he, hw⟩ => ⟨he, by rw [← hw]; exact Chg.refl _ _⟩)
set_option maxRecDepth 100000 in
set_option maxHeartbeats 8000000 in
theorem sCodeNearest (lp hp : Nat) (AL : Option Addr) (nL cL : Nat) (L : List (List Int)) (lq hq : Nat) (AR : Option Addr) (nR cR : Nat) (R : List (List Int)) (l0 h0 : Nat) (A : Option Addr) (n c : Nat) (xs : List It) (l1 h1 : Nat) (A' : Option Addr) (n' c' : Nat) (at_ : List Int) (k : Int) (w : World)
    (hl : RRows w lp hp AL nL cL L) (hr : RRows w lq hq AR nR cR R) (hx : RItems w l0 h0 A n c xs) (hy : RInts w l1 h1 A' n' c' at_) :
    Calls Try.prog 11 #[.agg #[.slice AL nL cL, .slice AR nR cR], .slice A n c, .slice A' n' c', .int .i64 k] w (RetHits (CnearF L R xs at_ k) w) := by
  have hnc := hx.le; have hcm := hx.cap
  have HX := hid hx; have HY := hid hy; have HL := hid hl; have HR := hid hr
  have BX := hid (Box.new (w := w) [.slice AL nL cL, .slice AR nR cR] 25 rfl)
  have K1 := hid (fun W (h : Chg No w W) => validBook lp hp AL nL cL L lq hq AR nR cR R W (HL.out.no h) (HR.out.no h))
  have K2 := hid (fun W (h : Chg No w W) => sValidQuery l0 h0 A n c xs l1 h1 A' n' c' at_ 3 W (HX.out.no h) (HY.out.no h))
  have K4 := hid (fun W => chg_eqC (inRange k 1 16 W))
  have HB := hid (show cnOk L R xs at_ k = (bookB L R && (queryB xs 3 at_ && inB k 1 16)) from by unfold cnOk; rw [canB_query])
  clear hl hr hx hy
  cases hb1 : bookB L R with
  | false =>
    have HF := hid (CnearF_no (L := L) (R := R) (l := xs) (at_ := at_) (k := k) (by rw [HB.out, hb1]; rfl))
    rw [hb1] at K1
    clear hb1
    go_enter Try.func11, Try.ntmps11
    (go_wp2_with fail; (with_reducible refine (K1.out _ (by (repeat (first | (with_reducible exact Chg.refl _ _) | ((with_reducible refine Chg.setNew ?_ _ ?_); rotate_left; first | (dsimp only; omega) | (simp; done) | (simp; omega)) | (with_reducible refine Chg.alloc ?_ _) | (with_reducible refine Chg.drew ?_) | (with_reducible refine Chg.drewN ?_ _) | (with_reducible refine Chg.no ?_ (by assumption)) | (with_reducible refine Chg.and_ ?_ (by assumption)) | ((with_reducible refine Chg.at_ ?_ (by assumption) ?_); rotate_left; (try simp only [World.size_alloc]); omega))))).mono ?_); rintro e w1 ⟨rfl, hc1⟩)
    have q1 : Chg No w w1 := (by (repeat (first | (with_reducible exact Chg.refl _ _) | ((with_reducible refine Chg.setNew ?_ _ ?_); rotate_left; first | (dsimp only; omega) | (simp; done) | (simp; omega)) | (with_reducible refine Chg.alloc ?_ _) | (with_reducible refine Chg.drew ?_) | (with_reducible refine Chg.drewN ?_ _) | (with_reducible refine Chg.no ?_ (by assumption)) | (with_reducible refine Chg.and_ ?_ (by assumption)) | ((with_reducible refine Chg.at_ ?_ (by assumption) ?_); rotate_left; (try simp only [World.size_alloc]); omega))) : Chg No w w1)
    have b1 := (BX.out.no (Chg.no (by (repeat (first | (with_reducible exact Chg.refl _ _) | ((with_reducible refine Chg.setNew ?_ _ ?_); rotate_left; first | (dsimp only; omega) | (simp; done) | (simp; omega)) | (with_reducible refine Chg.alloc ?_ _) | (with_reducible refine Chg.drew ?_) | (with_reducible refine Chg.drewN ?_ _) | (with_reducible refine Chg.no ?_ (by assumption)) | (with_reducible refine Chg.and_ ?_ (by assumption)) | ((with_reducible refine Chg.at_ ?_ (by assumption) ?_); rotate_left; (try simp only [World.size_alloc]); omega)))) hc1)).f2
    have m1 := (BX.out.no (Chg.no (by (repeat (first | (with_reducible exact Chg.refl _ _) | ((with_reducible refine Chg.setNew ?_ _ ?_); rotate_left; first | (dsimp only; omega) | (simp; done) | (simp; omega)) | (with_reducible refine Chg.alloc ?_ _) | (with_reducible refine Chg.drew ?_) | (with_reducible refine Chg.drewN ?_ _) | (with_reducible refine Chg.no ?_ (by assumption)) | (with_reducible refine Chg.and_ ?_ (by assumption)) | ((with_reducible refine Chg.at_ ?_ (by assumption) ?_); rotate_left; (try simp only [World.size_alloc]); omega)))) hc1)).lt
    go_wp2
    go_ret
    exact ⟨_, rfl, by rw [HF.out]; exact OSl.nil_ _, q1⟩
  | true =>
    rw [hb1] at K1
    cases hb2 : queryB xs 3 at_ with
    | false =>
      have HF := hid (CnearF_no (L := L) (R := R) (l := xs) (at_ := at_) (k := k) (by rw [HB.out, hb2]; simp))
      rw [hb2] at K2
      clear hb1 hb2
      go_enter Try.func11, Try.ntmps11
      (go_wp2_with fail; (with_reducible refine (K1.out _ (by (repeat (first | (with_reducible exact Chg.refl _ _) | ((with_reducible refine Chg.setNew ?_ _ ?_); rotate_left; first | (dsimp only; omega) | (simp; done) | (simp; omega)) | (with_reducible refine Chg.alloc ?_ _) | (with_reducible refine Chg.drew ?_) | (with_reducible refine Chg.drewN ?_ _) | (with_reducible refine Chg.no ?_ (by assumption)) | (with_reducible refine Chg.and_ ?_ (by assumption)) | ((with_reducible refine Chg.at_ ?_ (by assumption) ?_); rotate_left; (try simp only [World.size_alloc]); omega))))).mono ?_); rintro e w1 ⟨rfl, hc1⟩)
      have q1 : Chg No w w1 := (by (repeat (first | (with_reducible exact Chg.refl _ _) | ((with_reducible refine Chg.setNew ?_ _ ?_); rotate_left; first | (dsimp only; omega) | (simp; done) | (simp; omega)) | (with_reducible refine Chg.alloc ?_ _) | (with_reducible refine Chg.drew ?_) | (with_reducible refine Chg.drewN ?_ _) | (with_reducible refine Chg.no ?_ (by assumption)) | (with_reducible refine Chg.and_ ?_ (by assumption)) | ((with_reducible refine Chg.at_ ?_ (by assumption) ?_); rotate_left; (try simp only [World.size_alloc]); omega))) : Chg No w w1)
      have b1 := (BX.out.no (Chg.no (by (repeat (first | (with_reducible exact Chg.refl _ _) | ((with_reducible refine Chg.setNew ?_ _ ?_); rotate_left; first | (dsimp only; omega) | (simp; done) | (simp; omega)) | (with_reducible refine Chg.alloc ?_ _) | (with_reducible refine Chg.drew ?_) | (with_reducible refine Chg.drewN ?_ _) | (with_reducible refine Chg.no ?_ (by assumption)) | (with_reducible refine Chg.and_ ?_ (by assumption)) | ((with_reducible refine Chg.at_ ?_ (by assumption) ?_); rotate_left; (try simp only [World.size_alloc]); omega)))) hc1)).f2
      have m1 := (BX.out.no (Chg.no (by (repeat (first | (with_reducible exact Chg.refl _ _) | ((with_reducible refine Chg.setNew ?_ _ ?_); rotate_left; first | (dsimp only; omega) | (simp; done) | (simp; omega)) | (with_reducible refine Chg.alloc ?_ _) | (with_reducible refine Chg.drew ?_) | (with_reducible refine Chg.drewN ?_ _) | (with_reducible refine Chg.no ?_ (by assumption)) | (with_reducible refine Chg.and_ ?_ (by assumption)) | ((with_reducible refine Chg.at_ ?_ (by assumption) ?_); rotate_left; (try simp only [World.size_alloc]); omega)))) hc1)).lt
      (go_wp2_with fail; (with_reducible refine (K2.out _ q1).mono ?_); rintro e w2 ⟨rfl, hc2⟩)
      go_wp2
      go_ret
      exact ⟨_, rfl, by rw [HF.out]; exact OSl.nil_ _, q1.no hc2⟩
    | true =>
      rw [hb2] at K2
      cases hb3 : inB k 1 16 with
      | false =>
        have HF := hid (CnearF_no (L := L) (R := R) (l := xs) (at_ := at_) (k := k) (by rw [HB.out, hb3]; simp))
        rw [hb3] at K4
        clear hb1 hb2 hb3
        go_enter Try.func11, Try.ntmps11
        (go_wp2_with fail; (with_reducible refine (K1.out _ (by (repeat (first | (with_reducible exact Chg.refl _ _) | ((with_reducible refine Chg.setNew ?_ _ ?_); rotate_left; first | (dsimp only; omega) | (simp; done) | (simp; omega)) | (with_reducible refine Chg.alloc ?_ _) | (with_reducible refine Chg.drew ?_) | (with_reducible refine Chg.drewN ?_ _) | (with_reducible refine Chg.no ?_ (by assumption)) | (with_reducible refine Chg.and_ ?_ (by assumption)) | ((with_reducible refine Chg.at_ ?_ (by assumption) ?_); rotate_left; (try simp only [World.size_alloc]); omega))))).mono ?_); rintro e w1 ⟨rfl, hc1⟩)
        have q1 : Chg No w w1 := (by (repeat (first | (with_reducible exact Chg.refl _ _) | ((with_reducible refine Chg.setNew ?_ _ ?_); rotate_left; first | (dsimp only; omega) | (simp; done) | (simp; omega)) | (with_reducible refine Chg.alloc ?_ _) | (with_reducible refine Chg.drew ?_) | (with_reducible refine Chg.drewN ?_ _) | (with_reducible refine Chg.no ?_ (by assumption)) | (with_reducible refine Chg.and_ ?_ (by assumption)) | ((with_reducible refine Chg.at_ ?_ (by assumption) ?_); rotate_left; (try simp only [World.size_alloc]); omega))) : Chg No w w1)
        have b1 := (BX.out.no (Chg.no (by (repeat (first | (with_reducible exact Chg.refl _ _) | ((with_reducible refine Chg.setNew ?_ _ ?_); rotate_left; first | (dsimp only; omega) | (simp; done) | (simp; omega)) | (with_reducible refine Chg.alloc ?_ _) | (with_reducible refine Chg.drew ?_) | (with_reducible refine Chg.drewN ?_ _) | (with_reducible refine Chg.no ?_ (by assumption)) | (with_reducible refine Chg.and_ ?_ (by assumption)) | ((with_reducible refine Chg.at_ ?_ (by assumption) ?_); rotate_left; (try simp only [World.size_alloc]); omega)))) hc1)).f2
        have m1 := (BX.out.no (Chg.no (by (repeat (first | (with_reducible exact Chg.refl _ _) | ((with_reducible refine Chg.setNew ?_ _ ?_); rotate_left; first | (dsimp only; omega) | (simp; done) | (simp; omega)) | (with_reducible refine Chg.alloc ?_ _) | (with_reducible refine Chg.drew ?_) | (with_reducible refine Chg.drewN ?_ _) | (with_reducible refine Chg.no ?_ (by assumption)) | (with_reducible refine Chg.and_ ?_ (by assumption)) | ((with_reducible refine Chg.at_ ?_ (by assumption) ?_); rotate_left; (try simp only [World.size_alloc]); omega)))) hc1)).lt
        (go_wp2_with fail; (with_reducible refine (K2.out _ q1).mono ?_); rintro e w2 ⟨rfl, hc2⟩)
        (go_wp2_with fail; (with_reducible refine (K4.out _).mono ?_); rintro e w3 ⟨rfl, hc3⟩)
        go_wp2
        go_ret
        exact ⟨_, rfl, by rw [HF.out]; exact OSl.nil_ _, (q1.no hc2).no hc3⟩
      | true =>
        rw [hb3] at K4
        have hok : CnOk L R xs at_ k := cnOk_ok (by rw [HB.out, hb1, hb2, hb3]; rfl)
        have HF := hid (CnearF_ok hok.ok)
        have hn16 : n ≤ 16 := by have := HX.out.len; have := storeB_len hok.can.store; omega
        have hk1 := hok.k1; have hk16 := hok.k16
        have HS := hid hok.can.each
        have HSA := hid (vecB_small hok.can.vec)
        have HBK := hid hok.book
        have hn4 : n' = 4 := by have h9 : at_.length = n' := HY.out.len; have := vecB_len hok.can.vec; omega
        subst hn4
        have HO0 := hid (show OHits ((w.alloc (.cells #[.slice AL nL cL, .slice AR nR cR] 25)).alloc (.cells #[] 39)) w.heap.size (.slice (some ⟨w.heap.size + 1, 0, none⟩) 0 0) [] from OSl.lit (enc := cHit) (n := 0) [] [] (fun _ => rfl) rfl rfl (by omega) (by omega) (heap_top (by simp)))
        clear hb1 hb2 hb3 hok
        go_enter Try.func11, Try.ntmps11
        (go_wp2_with fail; (with_reducible refine (K1.out _ (by (repeat (first | (with_reducible exact Chg.refl _ _) | ((with_reducible refine Chg.setNew ?_ _ ?_); rotate_left; first | (dsimp only; omega) | (simp; done) | (simp; omega)) | (with_reducible refine Chg.alloc ?_ _) | (with_reducible refine Chg.drew ?_) | (with_reducible refine Chg.drewN ?_ _) | (with_reducible refine Chg.no ?_ (by assumption)) | (with_reducible refine Chg.and_ ?_ (by assumption)) | ((with_reducible refine Chg.at_ ?_ (by assumption) ?_); rotate_left; (try simp only [World.size_alloc]); omega))))).mono ?_); rintro e w1 ⟨rfl, hc1⟩)
        have q1 : Chg No w w1 := (by (repeat (first | (with_reducible exact Chg.refl _ _) | ((with_reducible refine Chg.setNew ?_ _ ?_); rotate_left; first | (dsimp only; omega) | (simp; done) | (simp; omega)) | (with_reducible refine Chg.alloc ?_ _) | (with_reducible refine Chg.drew ?_) | (with_reducible refine Chg.drewN ?_ _) | (with_reducible refine Chg.no ?_ (by assumption)) | (with_reducible refine Chg.and_ ?_ (by assumption)) | ((with_reducible refine Chg.at_ ?_ (by assumption) ?_); rotate_left; (try simp only [World.size_alloc]); omega))) : Chg No w w1)
        have b1 := (BX.out.no (Chg.no (by (repeat (first | (with_reducible exact Chg.refl _ _) | ((with_reducible refine Chg.setNew ?_ _ ?_); rotate_left; first | (dsimp only; omega) | (simp; done) | (simp; omega)) | (with_reducible refine Chg.alloc ?_ _) | (with_reducible refine Chg.drew ?_) | (with_reducible refine Chg.drewN ?_ _) | (with_reducible refine Chg.no ?_ (by assumption)) | (with_reducible refine Chg.and_ ?_ (by assumption)) | ((with_reducible refine Chg.at_ ?_ (by assumption) ?_); rotate_left; (try simp only [World.size_alloc]); omega)))) hc1)).f2
        have m1 := (BX.out.no (Chg.no (by (repeat (first | (with_reducible exact Chg.refl _ _) | ((with_reducible refine Chg.setNew ?_ _ ?_); rotate_left; first | (dsimp only; omega) | (simp; done) | (simp; omega)) | (with_reducible refine Chg.alloc ?_ _) | (with_reducible refine Chg.drew ?_) | (with_reducible refine Chg.drewN ?_ _) | (with_reducible refine Chg.no ?_ (by assumption)) | (with_reducible refine Chg.and_ ?_ (by assumption)) | ((with_reducible refine Chg.at_ ?_ (by assumption) ?_); rotate_left; (try simp only [World.size_alloc]); omega)))) hc1)).lt
        have HO1 := hid (HO0.out.no hc1)
        have B1 := hid (BX.out.no (Chg.no (by (repeat (first | (with_reducible exact Chg.refl _ _) | ((with_reducible refine Chg.setNew ?_ _ ?_); rotate_left; first | (dsimp only; omega) | (simp; done) | (simp; omega)) | (with_reducible refine Chg.alloc ?_ _) | (with_reducible refine Chg.drew ?_) | (with_reducible refine Chg.drewN ?_ _) | (with_reducible refine Chg.no ?_ (by assumption)) | (with_reducible refine Chg.and_ ?_ (by assumption)) | ((with_reducible refine Chg.at_ ?_ (by assumption) ?_); rotate_left; (try simp only [World.size_alloc]); omega)))) hc1))
        clear hc1 K1
        (go_wp2_with fail; (with_reducible refine (K2.out _ q1).mono ?_); rintro e w2 ⟨rfl, hc2⟩)
        (go_wp2_with fail; (with_reducible refine (K4.out _).mono ?_); rintro e w3 ⟨rfl, hc3⟩)
        have q3 : Chg No w w3 := (q1.no hc2).no hc3
        have HO3 := hid ((HO1.out.no hc2).no hc3)
        have B3 := hid ((B1.out.no hc2).no hc3)
        clear hc2 hc3 K2 K4 HO0 HO1 B1 b1 m1 q1
        go_wp2
        go_loopw [9, 10] (fun v i wr => ∃ j : Nat, j ≤ n ∧ i = .int .i64 j ∧ Chg No w3 wr ∧ Hid (OHits wr w.heap.size v (addAll k (hitsOf 3 at_ (coded L R (xs.take j)))))) (fun _ i _ => n - (intOf i).toNat)
        case atStart => exact ⟨0, Nat.zero_le _, rfl, Chg.refl _ _, HO3⟩
        case round =>
          clear HO3
          obtain ⟨j, hj, rfl, hc, HO⟩ := hrel
          obtain ⟨wo, rfl⟩ : ∃ W : World, W = wr := ⟨_, rfl⟩
          have hcw : Chg No w wo := q3.no hc
          by_cases hlt : j < n
          · obtain ⟨b, o, z, rfl, _, _, hzk, hE⟩ := (HX.out.no hcw).at_ hlt
            obtain ⟨zk, zv, zt⟩ := z
            obtain ⟨hE1, ⟨A1, n1, c1, hE2, hv⟩, hE3⟩ := hE
            have f1 : wo.cell? ⟨b, o + j * 3, none⟩ = some (.int .i64 zk) := hE1
            have f2 : wo.cell? ⟨b, o + j * 3 + 1, none⟩ = some (.slice A1 n1 c1) := hE2
            have hzv : vecB zv = true := HS.out _ (List.mem_of_getElem? hzk)
            have HV := hid hv
            have HD := hid (show hitsOf 3 at_ (coded L R (xs.take (j + 1))) = hitsOf 3 at_ (coded L R (xs.take j)) ++ [(zk, distF 3 (codedV L R zv) at_)] from coded_snoc hzk)
            have KE := hid (fun W (h : Chg No wo W) => sEncode lp hp AL nL cL L lq hq AR nR cR R _ _ A1 n1 c1 zv W (HL.out.no (hcw.no h)) (HR.out.no (hcw.no h)) (HV.out.no h) HBK.out hzv)
            have hc16 := encF_lt HBK.out zv
            have hvD := decF_vec HBK.out hc16
            have HDE : Hid (codedV L R zv = decF L R (encF L R zv)) := rfl
            obtain ⟨cd, hcd⟩ : ∃ cd, encF L R zv = cd := ⟨_, rfl⟩
            rw [hcd] at KE hc16 hvD HDE
            have KD := hid (fun W (h : Chg No wo W) => sDecode lp hp AL nL cL L lq hq AR nR cR R cd W (HL.out.no (hcw.no h)) (HR.out.no (hcw.no h)) HBK.out hc16)
            obtain ⟨D, hDD⟩ : ∃ D, decF L R cd = D := ⟨_, rfl⟩
            rw [hDD] at KD hvD HDE
            have hD4 : 4 ≤ D.length := by rw [vecB_len hvD]; omega
            have hD5 : D.length ≤ 4 := by rw [vecB_len hvD]; omega
            have HSD := hid (vecB_small hvD)
            have KT := hid (fun l9 h9 A9 c9 W (h : Chg No wo W) (hd : RInts W l9 h9 A9 D.length c9 D) => sDist _ _ _ _ _ _ _ _ _ _ D at_ 3 W hd (HY.out.no (hcw.no h)) (by omega) (by omega) HSD.out HSA.out (by omega) (by omega))
            rw [HDE.out] at HD
            obtain ⟨dd, hdd⟩ : ∃ dd, distF 3 D at_ = dd := ⟨_, rfl⟩
            rw [hdd] at KT HD
            obtain ⟨A9, c9, hv9, hr9⟩ := OHits.read HO.out
            have hlen9 : (addAll k (hitsOf 3 at_ (coded L R (xs.take j)))).length ≤ 1000 := by
              have h1 := addAll_length k (hitsOf 3 at_ (coded L R (xs.take j)))
              rw [hitsOf_length, coded_length] at h1
              have := List.length_take_le j xs
              have := HX.out.len
              omega
            subst hv9
            have HR9 := hid hr9
            have hp9 := hr9.cap; have hq9 := hr9.le
            clear hzk hE1 hE2 hE3 hv hzv hr9 hcd hDD hvD hdd HDE
            generalize hacc : addAll k (hitsOf 3 at_ (coded L R (xs.take j))) = acc at *
            have HAC := hid hacc
            clear hacc
            have b0 := (B3.out.no hc).f2
            have lb0 := (B3.out.no hc).lt
            have so := hcw.size
            have KA := hid (fun W (h : Chg No wo W) => sAddHit _ _ _ _ _ acc zk dd k W (HR9.out.no h) (by omega) (by omega) (by omega))
            have i0 : (0 : Int) ≤ (j : Int) := by omega
            have i1 : (j : Int) < (n : Int) := by omega
            go_wp2_with fail
            go_region_held3 (fun w' => (w'.cell? ⟨w.heap.size, 0, none⟩ = some (.slice AL nL cL) ∧ w'.cell? ⟨w.heap.size, 1, none⟩ = some (.slice AR nR cR)) ∧ (w'.cell? ⟨b, o + j * 3, none⟩ = some (.int .i64 zk) ∧ w'.cell? ⟨b, o + j * 3 + 1, none⟩ = some (.slice A1 n1 c1)))
              (first | go_keep | (go_split_ands; refine ⟨⟨?_, ?_⟩, ⟨?_, ?_⟩⟩ <;> exact cell_keep (by assumption) (by assumption) (fun e => e)))
              (first | ((go_at_call 56; (with_reducible refine (KE.out _ (by (repeat (first | (with_reducible exact Chg.refl _ _) | ((with_reducible refine Chg.setNew ?_ _ ?_); rotate_left; first | (dsimp only; omega) | (simp; done) | (simp; omega)) | (with_reducible refine Chg.alloc ?_ _) | (with_reducible refine Chg.drew ?_) | (with_reducible refine Chg.drewN ?_ _) | (with_reducible refine Chg.no ?_ (by assumption)) | (with_reducible refine Chg.and_ ?_ (by assumption)) | ((with_reducible refine Chg.at_ ?_ (by assumption) ?_); rotate_left; (try simp only [World.size_alloc]); omega))))).mono ?_); rintro e w4 ⟨rfl, hcA⟩)) | ((go_at_call 55; (with_reducible refine (KD.out _ (by (repeat (first | (with_reducible exact Chg.refl _ _) | ((with_reducible refine Chg.setNew ?_ _ ?_); rotate_left; first | (dsimp only; omega) | (simp; done) | (simp; omega)) | (with_reducible refine Chg.alloc ?_ _) | (with_reducible refine Chg.drew ?_) | (with_reducible refine Chg.drewN ?_ _) | (with_reducible refine Chg.no ?_ (by assumption)) | (with_reducible refine Chg.and_ ?_ (by assumption)) | ((with_reducible refine Chg.at_ ?_ (by assumption) ?_); rotate_left; (try simp only [World.size_alloc]); omega))))).mono ?_); rintro e w5 ⟨v5, rfl, ho5, hcB⟩; obtain ⟨A5, c5, rfl, hr5⟩ := OInts.read ho5; have R5 := hid hr5; have p5 := hr5.cap; have k5 := hr5.le; clear ho5 hr5)) | ((go_at_call 54; (with_reducible refine (KT.out _ _ _ _ _ (by (repeat (first | (with_reducible exact Chg.refl _ _) | ((with_reducible refine Chg.setNew ?_ _ ?_); rotate_left; first | (dsimp only; omega) | (simp; done) | (simp; omega)) | (with_reducible refine Chg.alloc ?_ _) | (with_reducible refine Chg.drew ?_) | (with_reducible refine Chg.drewN ?_ _) | (with_reducible refine Chg.no ?_ (by assumption)) | (with_reducible refine Chg.and_ ?_ (by assumption)) | ((with_reducible refine Chg.at_ ?_ (by assumption) ?_); rotate_left; (try simp only [World.size_alloc]); omega)))) (R5.out.no (by (repeat (first | (with_reducible exact Chg.refl _ _) | ((with_reducible refine Chg.setNew ?_ _ ?_); rotate_left; first | (dsimp only; omega) | (simp; done) | (simp; omega)) | (with_reducible refine Chg.alloc ?_ _) | (with_reducible refine Chg.drew ?_) | (with_reducible refine Chg.drewN ?_ _) | (with_reducible refine Chg.no ?_ (by assumption)) | (with_reducible refine Chg.and_ ?_ (by assumption)) | ((with_reducible refine Chg.at_ ?_ (by assumption) ?_); rotate_left; (try simp only [World.size_alloc]); omega)))))).mono ?_); rintro e w6 ⟨rfl, hcC⟩)) | ((go_at_call 53; (with_reducible refine (KA.out _ (by (repeat (first | (with_reducible exact Chg.refl _ _) | ((with_reducible refine Chg.setNew ?_ _ ?_); rotate_left; first | (dsimp only; omega) | (simp; done) | (simp; omega)) | (with_reducible refine Chg.alloc ?_ _) | (with_reducible refine Chg.drew ?_) | (with_reducible refine Chg.drewN ?_ _) | (with_reducible refine Chg.no ?_ (by assumption)) | (with_reducible refine Chg.and_ ?_ (by assumption)) | ((with_reducible refine Chg.at_ ?_ (by assumption) ?_); rotate_left; (try simp only [World.size_alloc]); omega))))).mono ?_); rintro e w7 ⟨v7, rfl, ho7, hcD⟩)))
            all_goals
              have hc7 : Chg No wo w7 := by (repeat (first | (with_reducible exact Chg.refl _ _) | ((with_reducible refine Chg.setNew ?_ _ ?_); rotate_left; first | (dsimp only; omega) | (simp; done) | (simp; omega)) | (with_reducible refine Chg.alloc ?_ _) | (with_reducible refine Chg.drew ?_) | (with_reducible refine Chg.drewN ?_ _) | (with_reducible refine Chg.no ?_ (by assumption)) | (with_reducible refine Chg.and_ ?_ (by assumption)) | ((with_reducible refine Chg.at_ ?_ (by assumption) ?_); rotate_left; (try simp only [World.size_alloc]); omega)))
              have hcE : Chg No w3 w7 := hc.no hc7
              have hsz : w.heap.size ≤ w6.heap.size := (show Chg No w w6 from by (repeat (first | (with_reducible exact Chg.refl _ _) | ((with_reducible refine Chg.setNew ?_ _ ?_); rotate_left; first | (dsimp only; omega) | (simp; done) | (simp; omega)) | (with_reducible refine Chg.alloc ?_ _) | (with_reducible refine Chg.drew ?_) | (with_reducible refine Chg.drewN ?_ _) | (with_reducible refine Chg.no ?_ (by assumption)) | (with_reducible refine Chg.and_ ?_ (by assumption)) | ((with_reducible refine Chg.at_ ?_ (by assumption) ?_); rotate_left; (try simp only [World.size_alloc]); omega)))).size
              have HB7 := hid (show OHits w7 w.heap.size v7 (addAll k (hitsOf 3 at_ (coded L R (xs.take (j + 1))))) from by
                have h8 := OSl.down ho7 (base' := w.heap.size) (by first | exact hsz | omega)
                rw [HD.out, addAll_snoc, HAC.out]
                exact h8)
              clear ho7
              go_wp2
              go_roundw
              case rel => exact ⟨j + 1, by omega, by go_num, hcE, HB7⟩
              case measure => simp [intOf]; omega
          · have h9 := HO.out
            rw [List.take_of_length_le (by have := HX.out.len; omega), nearest_add] at h9
            have HO8 := hid h9
            clear h9 HO
            go_wp2
            go_ret
            exact ⟨_, rfl, by rw [HF.out]; exact HO8.out, hcw⟩
end Go.Proofs.Ytifdcdpdihfbjaa
