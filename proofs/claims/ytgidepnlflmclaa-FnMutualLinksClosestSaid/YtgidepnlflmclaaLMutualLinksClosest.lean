/- FnMutualLinksClosest: the closest pair is mutual. No condition. (The plain facts on the first closest pair, the walk of ClosestPair and the law, in one text.) -/
import Derived.Test.YtgidepnlflmclaaPMut
import Derived.Test.YtgidepnlflmclaaMut
import Derived.Deep.RegionHeld3
import Derived.Deep.RegionLaw
import Derived.Deep.RegionWith
import Derived.Deep.DeepCutAuto
import Derived.Test.YtgidepnlflmclaaLift
import Derived.Test.YtgidepnlflmclaaLinksJ
import Derived.Test.YtgidepnlflmclaaMutS
import Derived.Test.YtgidepnlflmclaaDrawU
import Derived.Test.YtgidepnlflmclaaEqG
namespace Go.Proofs.Ytgidepnlflmclaa
open Go.RowKit
set_option linter.unusedVariables false
set_option linter.unusedSimpArgs false

theorem absI_comm (x y : Int) : absI (x - y) = absI (y - x) := by unfold absI; omega
theorem distF_turn (kind : Int) : ∀ (a b : List Int) (n : Int), (a.zip b).foldl (fun n p => dStep kind n (absI (p.1 - p.2))) n = (b.zip a).foldl (fun n p => dStep kind n (absI (p.1 - p.2))) n
  | [], b, n => by simp
  | a, [], n => by simp
  | x :: a, y :: b, n => by
    simp only [List.zip_cons_cons, List.foldl_cons]
    rw [absI_comm x y]
    exact distF_turn kind a b _
theorem distF_comm (kind : Int) (a b : List Int) : distF kind a b = distF kind b a := distF_turn kind a b 0
/-- the vector of the item at a place, the distance of two -/
def vecI (l : List It) (i : Nat) : List Int := (l.getD i default).vec
def dI (l : List It) (kind : Int) (i k : Nat) : Int := distF kind (vecI l i) (vecI l k)
theorem vecI_eq {l : List It} {i : Nat} {x : It} (h : l[i]? = some x) : vecI l i = x.vec := by unfold vecI; rw [List.getD_eq_getElem?_getD, h]; rfl
theorem dI_comm (l : List It) (kind : Int) (i k : Nat) : dI l kind i k = dI l kind k i := distF_comm _ _ _
/-- the first closest one of the pairs before (i, k) -/
structure Best (l : List It) (kind : Int) (i k a b : Nat) : Prop where
  ab : a < b
  bn : b < l.length
  ord : a < i ∨ (a = i ∧ b ≤ k)
  le : ∀ x y, x < y → y < l.length → (x < i ∨ (x = i ∧ y < k)) → dI l kind a b ≤ dI l kind x y
  lt : ∀ x y, x < y → y < l.length → (x < i ∨ (x = i ∧ y < k)) → (x < a ∨ (x = a ∧ y < b)) → dI l kind a b < dI l kind x y
theorem best_start {l : List It} {kind : Int} (h : 2 ≤ l.length) : Best l kind 0 1 0 1 :=
  ⟨by omega, by omega, by omega, fun x y h1 _ h2 => by omega, fun x y h1 _ h2 => by omega⟩
theorem best_keep {l : List It} {kind : Int} {i k a b : Nat} (h : Best l kind i k a b) (hik : i < k) (hd : ¬ dI l kind i k < dI l kind a b) : Best l kind i (k + 1) a b := by
  refine ⟨h.ab, h.bn, by have := h.ord; omega, fun x y h1 h2 h3 => ?_, fun x y h1 h2 h3 h4 => ?_⟩
  · by_cases he : x = i ∧ y = k
    · obtain ⟨rfl, rfl⟩ := he; omega
    · exact h.le x y h1 h2 (by omega)
  · by_cases he : x = i ∧ y = k
    · obtain ⟨rfl, rfl⟩ := he
      have := h.ord; omega
    · exact h.lt x y h1 h2 (by omega) h4
theorem best_take {l : List It} {kind : Int} {i k a b : Nat} (h : Best l kind i k a b) (hik : i < k) (hk : k < l.length) (hd : dI l kind i k < dI l kind a b) : Best l kind i (k + 1) i k := by
  refine ⟨hik, hk, by omega, fun x y h1 h2 h3 => ?_, fun x y h1 h2 h3 h4 => ?_⟩
  · by_cases he : x = i ∧ y = k
    · obtain ⟨rfl, rfl⟩ := he; omega
    · have := h.le x y h1 h2 (by omega); omega
  · have := h.le x y h1 h2 (by omega); omega
theorem best_next {l : List It} {kind : Int} {i a b : Nat} (h : Best l kind i l.length a b) : Best l kind (i + 1) (i + 2) a b := by
  refine ⟨h.ab, h.bn, by have := h.ord; omega, fun x y h1 h2 h3 => h.le x y h1 h2 (by omega), fun x y h1 h2 h3 h4 => h.lt x y h1 h2 (by omega) h4⟩
/-- the very nearest one is a neighbour -/
theorem first_near {m : List It} {kind many : Int} {at_ : List Int} (hs : storeB m = true) (hm : 1 ≤ many) {z : It} (hz : z ∈ m) (h : ∀ y ∈ m, y ≠ z → nearB (z.key, distF kind z.vec at_) (y.key, distF kind y.vec at_) = true) : z.key ∈ (nearestF m kind at_ many).map Prod.fst := by
  have hsrt := all_srt kind at_ hs
  have hmem := all_mem (kind := kind) (at_ := at_) hz
  unfold nearestF
  have hsub : ∀ x ∈ insAll (hitsOf kind at_ m), ∃ y ∈ m, x = (y.key, distF kind y.vec at_) := fun x hx => hits_mem.1 ((insAll_perm _).mem_iff.1 hx)
  generalize insAll (hitsOf kind at_ m) = S at *
  cases S with
  | nil => cases hmem
  | cons x t =>
    obtain ⟨q, hq⟩ : ∃ q, many.toNat = q + 1 := ⟨many.toNat - 1, by omega⟩
    rw [hq, List.take_succ_cons, List.map_cons]
    rcases List.mem_cons.1 hmem with he | ht
    · rw [← he]; exact List.mem_cons_self
    · exfalso
      have h1 := (List.pairwise_cons.1 hsrt).1 _ ht
      obtain ⟨y, hy, rfl⟩ := hsub x List.mem_cons_self
      by_cases hyz : y = z
      · subst hyz
        rw [nearB_irrefl] at h1; cases h1
      · have h2 := nearB_asymm (h y hy hyz)
        rw [h2] at h1; cases h1
theorem cut_mem {l : List It} {i k : Nat} {z : It} (hi : i < l.length) (hk : l[k]? = some z) (hne : k ≠ i) : z ∈ cutL l i := by
  unfold cutL
  rw [List.mem_append]
  rcases Nat.lt_or_gt_of_ne hne with h | h
  · left
    exact List.mem_of_getElem? (i := k) (by rw [List.getElem?_take, if_pos h]; exact hk)
  · right
    exact List.mem_of_getElem? (i := k - (i + 1)) (by rw [List.getElem?_drop, show i + 1 + (k - (i + 1)) = k from by omega]; exact hk)
theorem cut_at {l : List It} {i : Nat} {y : It} (hi : i < l.length) (hy : y ∈ cutL l i) : ∃ j, j ≠ i ∧ l[j]? = some y := by
  obtain ⟨j, hj⟩ := List.getElem?_of_mem hy
  rw [cutL_get hi] at hj
  split at hj
  · exact ⟨j, by omega, hj⟩
  · exact ⟨j + 1, by omega, hj⟩
/-- who is nearest to the item at a place -/
theorem link_first {l : List It} (hs : storeB l = true) {kind many : Int} (hm : 1 ≤ many) {i k : Nat} (hi : i < l.length) (hk : k < l.length) (hne : k ≠ i) (h : ∀ j, j < l.length → j ≠ i → j ≠ k → dI l kind i k < dI l kind i j ∨ (dI l kind i k = dI l kind i j ∧ k < j)) : keyI l k ∈ linkAt l kind many i := by
  have hx : l[i]? = some l[i] := List.getElem?_eq_getElem hi
  have hz : l[k]? = some l[k] := List.getElem?_eq_getElem hk
  rw [linkAt_eq hx, keyI_eq hz]
  refine first_near (storeB_sub hs (cutL_sub l i)) hm (cut_mem hi hz hne) (fun y hy hyz => ?_)
  obtain ⟨j, hji, hj⟩ := cut_at hi hy
  have hjl := (List.getElem?_eq_some_iff.1 hj).1
  have hjk : j ≠ k := fun e => hyz (by subst e; rw [hz] at hj; injection hj with hj; exact hj.symm)
  have h9 := h j hjl hji hjk
  unfold dI at h9
  rw [distF_comm kind (vecI l i), distF_comm kind (vecI l i), vecI_eq hx, vecI_eq hz, vecI_eq hj] at h9
  rw [nearB_iff]
  rcases h9 with h9 | ⟨h9, h8⟩
  · exact Or.inl h9
  · exact Or.inr ⟨h9, storeB_lt hs hz hj h8⟩
theorem best_mut {l : List It} (hs : storeB l = true) {kind many : Int} (hm : 1 ≤ many) {k a b : Nat} (h : Best l kind l.length k a b) : mutB l kind many a b = true := by
  have hab := h.ab
  have hbn := h.bn
  have hL : ∀ x y, x < y → y < l.length → dI l kind a b ≤ dI l kind x y := fun x y h1 h2 => h.le x y h1 h2 (Or.inl (by omega))
  have hT : ∀ x y, x < y → y < l.length → (x < a ∨ (x = a ∧ y < b)) → dI l kind a b < dI l kind x y := fun x y h1 h2 h3 => h.lt x y h1 h2 (Or.inl (by omega)) h3
  unfold mutB
  rw [decide_eq_true, decide_eq_true]
  · rfl
  · refine link_first hs hm hbn (by omega) (by omega) (fun j hj h1 h2 => ?_)
    rw [dI_comm l kind b a]
    rcases Nat.lt_or_gt_of_ne h1 with h3 | h3
    · have h4 := hL j b h3 hbn
      rw [dI_comm l kind b j]
      by_cases h5 : j < a
      · exact Or.inl (hT j b h3 hbn (Or.inl h5))
      · by_cases h6 : dI l kind a b = dI l kind j b
        · exact Or.inr ⟨h6, by omega⟩
        · exact Or.inl (by omega)
    · have h4 := hL b j h3 hj
      by_cases h6 : dI l kind a b = dI l kind b j
      · exact Or.inr ⟨h6, by omega⟩
      · exact Or.inl (by omega)
  · refine link_first hs hm (by omega) hbn (by omega) (fun j hj h1 h2 => ?_)
    rcases Nat.lt_or_gt_of_ne h1 with h3 | h3
    · have h4 := hT j a h3 (by omega) (Or.inl h3)
      rw [dI_comm l kind a j]
      exact Or.inl h4
    · have h4 := hL a j h3 hj
      by_cases h5 : j < b
      · exact Or.inl (hT a j h3 hj (Or.inr ⟨rfl, h5⟩))
      · by_cases h6 : dI l kind a b = dI l kind a j
        · exact Or.inr ⟨h6, by omega⟩
        · exact Or.inl (by omega)
end Go.Proofs.Ytgidepnlflmclaa
namespace Go.Proofs.Ytgidepnlflmclaa
open Go.RowKit Go.Sort Go.Shelf
set_option linter.unusedVariables false
set_option linter.unusedSimpArgs false
/-- the keys of the first closest pair come back -/
def RetPair (xs : List It) (kind : Int) (w : World) (e : Ending) (w' : World) : Prop := ∃ a b k, Best xs kind xs.length k a b ∧ e = .returned (.tuple #[.int .i64 (keyI xs a), .int .i64 (keyI xs b), .bool true]) ∧ Chg No w w'
set_option maxRecDepth 100000 in
set_option maxHeartbeats 8000000 in
theorem iClosestPair (l0 h0 : Nat) (A : Option Addr) (n c : Nat) (xs : List It) (kind : Int) (w : World) (hx : RItems w l0 h0 A n c xs) (hs : storeB xs = true) (hk1 : 1 ≤ kind) (hk4 : kind ≤ 4) (hn2 : 2 ≤ n) :
    Calls Try.prog 36 #[.slice A n c, .int .i64 kind] w (RetPair xs kind w) := by
  have hnc := hx.le; have hcm := hx.cap
  have HX := hid hx
  have hxl : xs.length = n := hx.len
  have hn16 : n ≤ 16 := by have := storeB_len hs; omega
  have K1 := hid (fun W (h : Chg No w W) => iValidStore l0 h0 A n c xs W (hx.no h))
  have K2 := hid (fun W => iIsKind kind W)
  rw [hs] at K1
  rw [show kindB kind = true from by unfold kindB; rw [decide_eq_true ⟨hk1, hk4⟩]] at K2
  have HXL := hid hxl
  have HS := hid hs
  have HVB := hid (fun (x : It) (hx : x ∈ xs) => storeB_vec hs hx)
  have d2 : decide ((n : Int) < 2) = false := decide_eq_false (by omega)
  clear hx hs hxl
  go_enter Try.func36, Try.ntmps36
  (go_wp2_with fail; (with_reducible refine (K1.out _ (Chg.refl _ _)).mono ?_); rintro e w1 ⟨rfl, hc1⟩)
  (go_wp2_with fail; (with_reducible refine (K2.out _).mono ?_); rintro e w2 ⟨rfl, rfl⟩)
  have s1 := hc1.size
  obtain ⟨xb, xo, xz, xhA, _, _, xhz, xhE⟩ := (HX.out.no hc1).at_ (k := 0) (by omega)
  obtain ⟨xk, xv, xt⟩ := xz
  obtain ⟨xhE1, ⟨xA, xn, xc, xhE2, xhv⟩, xhE3⟩ := xhE
  subst xhA
  obtain ⟨yb, yo, yz, yhA, _, _, yhz, yhE⟩ := (HX.out.no hc1).at_ (k := 1) (by omega)
  obtain ⟨yk, yv, yt⟩ := yz
  obtain ⟨yhE1, ⟨yA, yn, yc, yhE2, yhv⟩, yhE3⟩ := yhE
  injection yhA with yhA
  injection yhA with e1 e2 _
  subst e1 e2
  have f1 : w1.cell? ⟨xb, xo, none⟩ = some (.int .i64 xk) := by simpa using xhE1
  have f2 : w1.cell? ⟨xb, xo + 1, none⟩ = some (.slice xA xn xc) := by simpa using xhE2
  have f3 : w1.cell? ⟨xb, xo + 2, none⟩ = some (.int .i64 xt) := by simpa using xhE3
  have f4 : w1.cell? ⟨xb, xo + 3, none⟩ = some (.int .i64 yk) := by simpa using yhE1
  have f5 : w1.cell? ⟨xb, xo + 4, none⟩ = some (.slice yA yn yc) := by simpa using yhE2
  have f6 : w1.cell? ⟨xb, xo + 5, none⟩ = some (.int .i64 yt) := by simpa using yhE3
  have t1 := cell_lt f1
  have HV0 := hid xhv; have HV1 := hid yhv
  have HZ0 := hid xhz; have HZ1 := hid yhz
  clear xhE1 xhE2 xhE3 yhE1 yhE2 yhE3 xhv yhv xhz yhz
  go_wp2_with fail
  go_cut [7, 8] (fun s7 s8 wx => ∃ g0 g1 : Nat, s7 = .pointer (some ⟨g0, 0, none⟩) ∧ s8 = .pointer (some ⟨g1, 0, none⟩) ∧ g0 ≠ g1 ∧ w1.heap.size ≤ g0 ∧ w1.heap.size ≤ g1 ∧ Chg No w1 wx ∧ Hid (Box wx g0 [.int .i64 xk, .slice xA xn xc, .int .i64 xt]) ∧ Hid (Box wx g1 [.int .i64 yk, .slice yA yn yc, .int .i64 yt]))
  case first =>
    go_region
    all_goals
      go_wp2_with fail
      go_meet
      refine ⟨_, _, rfl, rfl, by omega, by omega, by omega, by (repeat (first | (with_reducible exact Chg.refl _ _) | ((with_reducible refine Chg.setNew ?_ _ ?_); rotate_left; first | (dsimp only; omega) | (simp; done) | (simp; omega)) | (with_reducible refine Chg.alloc ?_ _) | (with_reducible refine Chg.drew ?_) | (with_reducible refine Chg.drewN ?_ _) | (with_reducible refine Chg.no ?_ (by assumption)) | (with_reducible refine Chg.and_ ?_ (by assumption)) | ((with_reducible refine Chg.at_ ?_ (by assumption) ?_); rotate_left; (try simp only [World.size_alloc]); omega))), ?_, ?_⟩
      · first | exact Box.drew (Box.alloc (Box.new _ _ rfl) _) | exact Box.drew (Box.new _ _ (by simp))
      · first | exact Box.drew (Box.alloc (Box.new _ _ rfl) _) | exact Box.drew (Box.new _ _ (by simp))
  case rest =>
    obtain ⟨g0, g1, rfl, rfl, hgg, hg0, hg1, hc2, BA0, BB0⟩ := hcut
    obtain ⟨w3, rfl⟩ : ∃ W : World, W = wc := ⟨_, rfl⟩
    have hw3 : Chg No w w3 := hc1.no hc2
    have HST := hid (best_start (l := xs) (kind := kind) (by have := HXL.out; omega))
    clear f1 f2 f3 f4 f5 f6 t1 K1 K2
    go_wp2
    go_loopw [34] (fun i wr => ∃ (j a b : Nat) (pa pb : ItP), j ≤ n ∧ i = .int .i64 j ∧ Hid (Best xs kind j (j + 1) a b) ∧ Hid (xs[a]? = some pa.it) ∧ Hid (xs[b]? = some pb.it) ∧ Hid (RInts w1 l0 h0 pa.A pa.n pa.c pa.it.vec) ∧ Hid (RInts w1 l0 h0 pb.A pb.n pb.c pb.it.vec) ∧ Chg No w1 wr ∧ Hid (Box wr g0 [.int .i64 pa.it.key, .slice pa.A pa.n pa.c, .int .i64 pa.it.tags]) ∧ Hid (Box wr g1 [.int .i64 pb.it.key, .slice pb.A pb.n pb.c, .int .i64 pb.it.tags])) (fun i _ => n - (intOf i).toNat)
    case atStart => exact ⟨0, 0, 1, ⟨⟨xk, xv, xt⟩, xA, xn, xc⟩, ⟨⟨yk, yv, yt⟩, yA, yn, yc⟩, Nat.zero_le _, rfl, HST, HZ0, HZ1, HV0, HV1, hc2, BA0, BB0⟩
    case round =>
      clear HST BA0 BB0 HZ0 HZ1 HV0 HV1
      obtain ⟨j, a, b, pa, pb, hj, rfl, HB, HA, HBI, HVA, HVB2, hc, BA, BB⟩ := hrel
      obtain ⟨wo, rfl⟩ : ∃ W : World, W = wr := ⟨_, rfl⟩
      obtain ⟨⟨ak, av, at0⟩, aA, an, ac⟩ := pa
      obtain ⟨⟨bk, bv, bt0⟩, bA, bn, bc⟩ := pb
      have so := hc.size
      by_cases hlt : j < n
      · skip
        obtain ⟨zb, zo, zz, zhA, _, _, zhz, zhE⟩ := (HX.out.no hc1).at_ hlt
        obtain ⟨zk, zv, zt⟩ := zz
        obtain ⟨zhE1, ⟨zA, zn, zc, zhE2, zhv⟩, zhE3⟩ := zhE
        injection zhA with zhA
        injection zhA with e1 e2 _
        subst e1 e2
        have f1 : wo.cell? ⟨xb, xo + j * 3, none⟩ = some (.int .i64 zk) := cell_keep hc zhE1 (fun e => e)
        have f2 : wo.cell? ⟨xb, xo + j * 3 + 1, none⟩ = some (.slice zA zn zc) := cell_keep hc zhE2 (fun e => e)
        have f3 : wo.cell? ⟨xb, xo + j * 3 + 2, none⟩ = some (.int .i64 zt) := cell_keep hc zhE3 (fun e => e)
        have HZ := hid zhz
        have HZV := hid zhv
        have HXo := hid (HX.out.no hc1)
        have HD0 := RSl.drop HXo.out (k := j + 1) (by omega)
        obtain ⟨AD, hAD⟩ : ∃ AD, (if c = j + 1 then some ⟨xb, xo, none⟩ else (some (⟨xb, xo, none⟩ : Addr)).map (·.add ((j + 1) * 3))) = AD := ⟨_, rfl⟩
        rw [hAD] at HD0
        have HD := hid HD0
        have HAD := hid hAD
        obtain ⟨wz, hwz⟩ : ∃ W, wo.alloc (.cells #[.int .i64 zk, .slice zA zn zc, .int .i64 zt] 48) = W := ⟨_, rfl⟩
        have hcz : Chg No wo wz := by rw [← hwz]; exact (Chg.refl No wo).alloc _
        have BZ := hid (show Box wz wo.heap.size [.int .i64 zk, .slice zA zn zc, .int .i64 zt] from by rw [← hwz]; exact Box.new _ _ rfl)
        have sz := hcz.size
        have BAz := hid (BA.out.no hcz); have BBz := hid (BB.out.no hcz)
        have n0 : ¬ g0 = wo.heap.size := by have := BA.out.lt; omega
        have n1 : ¬ g1 = wo.heap.size := by have := BB.out.lt; omega
        have i1 : IntKind.i64.wrap ((j : Int) + 1) = (j : Int) + 1 := by rw [IntKind.wrap_i64]; omega
        have i2 : ((j : Int) + 1).toNat = j + 1 := by omega
        have i3 : (j : Int) + 1 ≤ n := by omega
        have i4 : (j : Int) + 1 ≤ c := by omega
        have i5 : 0 ≤ (j : Int) + 1 := by omega
        have i6 : (j : Int) ≤ (j : Int) + 1 := by omega
        have i7 : j ≤ c := by omega
        have i8 : (j : Int) ≤ (c : Int) := by omega
        clear zhE1 zhE2 zhE3 zhv zhz hAD HD0 BA BB
        have hAD := HAD.out
        simp only [Option.map_some, Addr.add_lit] at hAD
        go_wp2
        go_loopw [44] (fun i' wr => ∃ (m a b : Nat) (pa pb : ItP), m ≤ n - (j + 1) ∧ i' = .int .i64 m ∧ Hid (Best xs kind j (j + 1 + m) a b) ∧ Hid (xs[a]? = some pa.it) ∧ Hid (xs[b]? = some pb.it) ∧ Hid (RInts w1 l0 h0 pa.A pa.n pa.c pa.it.vec) ∧ Hid (RInts w1 l0 h0 pb.A pb.n pb.c pb.it.vec) ∧ Chg (fun k => k = g0 ∨ k = g1) wz wr ∧ Hid (Box wr g0 [.int .i64 pa.it.key, .slice pa.A pa.n pa.c, .int .i64 pa.it.tags]) ∧ Hid (Box wr g1 [.int .i64 pb.it.key, .slice pb.A pb.n pb.c, .int .i64 pb.it.tags])) (fun i' _ => (n - (j + 1)) - (intOf i').toNat)
        case atStart => exact ⟨0, a, b, ⟨⟨ak, av, at0⟩, aA, an, ac⟩, ⟨⟨bk, bv, bt0⟩, bA, bn, bc⟩, Nat.zero_le _, rfl, HB, HA, HBI, HVA, HVB2, Chg.refl _ _, BAz, BBz⟩
        case round =>
          clear HB HA HBI HVA HVB2 BAz BBz hwz
          obtain ⟨m, a, b, pa, pb, hm, rfl, HB, HA, HBI, HVA, HVB2, hcm9, BA, BB⟩ := hrel
          obtain ⟨wi, rfl⟩ : ∃ W : World, W = wr := ⟨_, rfl⟩
          obtain ⟨⟨ak, av, at0⟩, aA, an, ac⟩ := pa
          obtain ⟨⟨bk, bv, bt0⟩, bA, bn, bc⟩ := pb
          have hcw : Chg No w1 wi := (hc.no hcz).trans hcm9 (fun i hi h => by omega)
          have BZi := hid (BZ.out.keep hcm9 (fun h => by omega))
          have si := hcm9.size
          by_cases hlm : m < n - (j + 1)
          · skip
            obtain ⟨yb, yo, yz, yhA, _, _, yhz, yhE⟩ := (RSl.at_ HD.out hlm)
            obtain ⟨yk, yv, yt⟩ := yz
            obtain ⟨yhE1, ⟨yA, yn, yc, yhE2, yhv⟩, yhE3⟩ := yhE
            have yz2 : xs[j + 1 + m]? = some ⟨yk, yv, yt⟩ := by rw [List.getElem?_drop] at yhz; exact yhz
            obtain ⟨b', o', hA9, g1', g2', g3', hv9⟩ : ∃ b' o', AD = some ⟨b', o', none⟩ ∧ wi.cell? ⟨b', o' + m * 3, none⟩ = some (.int .i64 yk) ∧ wi.cell? ⟨b', o' + m * 3 + 1, none⟩ = some (.slice yA yn yc) ∧ wi.cell? ⟨b', o' + m * 3 + 2, none⟩ = some (.int .i64 yt) ∧ RInts w1 l0 h0 yA yn yc yv := by
              exact ⟨_, _, yhA, cell_keep hcw yhE1 (fun e => e), cell_keep hcw yhE2 (fun e => e), cell_keep hcw yhE3 (fun e => e), yhv⟩
            clear hAD HAD yhE1 yhE2 yhE3 yhv yhz yhA
            subst hA9
            have jm : j + 1 + m < xs.length := by rw [HXL.out]; omega
            have e3 : dI xs kind j (j + 1 + m) = distF kind zv yv := by unfold dI; rw [vecI_eq HZ.out, vecI_eq yz2]
            have e4 : dI xs kind a b = distF kind av bv := by unfold dI; rw [vecI_eq HA.out, vecI_eq HBI.out]
            obtain ⟨wy, hwy⟩ : ∃ W, wi.alloc (.cells #[.int .i64 yk, .slice yA yn yc, .int .i64 yt] 48) = W := ⟨_, rfl⟩
            have hcy : Chg No wi wy := by rw [← hwy]; exact (Chg.refl No wi).alloc _
            have BY := hid (show Box wy wi.heap.size [.int .i64 yk, .slice yA yn yc, .int .i64 yt] from by rw [← hwy]; exact Box.new _ _ rfl)
            have BAy := hid (BA.out.no hcy); have BBy := hid (BB.out.no hcy); have BZy := hid (BZi.out.no hcy)
            have hcw1 : Chg No w1 wy := hcw.no hcy
            have hzv := HVB.out _ (List.mem_of_getElem? HZ.out)
            have hyv := HVB.out _ (List.mem_of_getElem? yz2)
            have hav := HVB.out _ (List.mem_of_getElem? HA.out)
            have hbv := HVB.out _ (List.mem_of_getElem? HBI.out)
            simp only [] at hzv hyv hav hbv
            have l1 : zn = 4 := by have h9 : zv.length = zn := HZV.out.len; have := vecB_len hzv; omega
            have l2 : yn = 4 := by have h9 : yv.length = yn := hv9.len; have := vecB_len hyv; omega
            have l3 : an = 4 := by have h9 : av.length = an := HVA.out.len; have := vecB_len hav; omega
            have l4 : bn = 4 := by have h9 : bv.length = bn := HVB2.out.len; have := vecB_len hbv; omega
            subst l1 l2 l3 l4
            have HY9 := hid hv9
            have SZ := hid (vecB_small hzv); have SY := hid (vecB_small hyv); have SA := hid (vecB_small hav); have SB := hid (vecB_small hbv)
            have KZ := hid (fun W (h : Chg No wy W) => iDistance _ _ _ _ zA yA 4 zc 4 yc zv yv kind W (HZV.out.no (hcw1.no h)) (HY9.out.no (hcw1.no h)) (by omega) (by omega) SZ.out SY.out hk1 hk4)
            have KA := hid (fun W (h : Chg No wy W) => iDistance _ _ _ _ aA bA 4 ac 4 bc av bv kind W (HVA.out.no (hcw1.no h)) (HVB2.out.no (hcw1.no h)) (by omega) (by omega) SA.out SB.out hk1 hk4)
            rw [← e3] at KZ
            rw [← e4] at KA
            have HTK := hid (best_take HB.out (by omega) jm)
            have HKP := hid (best_keep HB.out (by omega))
            obtain ⟨dz, hdz⟩ : ∃ d, dI xs kind j (j + 1 + m) = d := ⟨_, rfl⟩
            obtain ⟨da, hda⟩ : ∃ d, dI xs kind a b = d := ⟨_, rfl⟩
            rw [hdz] at KZ HTK HKP
            rw [hda] at KA HTK HKP
            have n2 : ¬ g0 = wi.heap.size := by have := BA.out.lt; omega
            have n3 : ¬ g1 = wi.heap.size := by have := BB.out.lt; omega
            have n4 : ¬ wo.heap.size = wi.heap.size := by have := BZi.out.lt; omega
            have HZ2 := hid yz2
            have F1 : ∀ p : NB wy, p.wd.cell? ⟨wo.heap.size, 1, none⟩ = some (.slice zA 4 zc) := nb_cell (BZy.out.cell 1)
            have F2 : ∀ p : NB wy, p.wd.cell? ⟨wi.heap.size, 1, none⟩ = some (.slice yA 4 yc) := nb_cell (BY.out.cell 1)
            have F3 : ∀ p : NB wy, p.wd.cell? ⟨g0, 1, none⟩ = some (.slice aA 4 ac) := nb_cell (BAy.out.cell 1)
            have F4 : ∀ p : NB wy, p.wd.cell? ⟨g1, 1, none⟩ = some (.slice bA 4 bc) := nb_cell (BBy.out.cell 1)
            clear hzv hyv hav hbv hv9 e3 e4 hdz hda yz2 HB
            by_cases hd : dz < da
            · have d1 : decide (dz < da) = true := decide_eq_true hd
              have HB2 := hid (HTK.out hd)
              clear hd HTK HKP
              go_wp2_with fail
              (refine wp_region_nb (by kernel_rfl) (by kernel_rfl) ?_; (repeat (first | go_big_quiet_step ((first | (go_at_call 50; (with_reducible exact nb_of (KZ.out _ (NB.h _)))) | (go_at_call 50; (with_reducible exact nb_of (KA.out _ (NB.h _)))))) | quiet_step ((first | (go_at_call 50; (with_reducible exact nb_of (KZ.out _ (NB.h _)))) | (go_at_call 50; (with_reducible exact nb_of (KA.out _ (NB.h _)))))))); (with_reducible refine wpQuiet_nil ?_); intro wq hw1; have hq := nb_out hw1; clear hw1)
              have BZq := hid (BZy.out.no hq); have BYq := hid (BY.out.no hq); have BAq := hid (BAy.out.no hq); have BBq := hid (BBy.out.no hq)
              have p1 := BZq.out.f3; have p2 := BYq.out.f3; have p3 := BAq.out.f3; have p4 := BBq.out.f3
              have r1 := BZq.out.lt; have r2 := BYq.out.lt; have r3 := BAq.out.lt; have r4 := BBq.out.lt
              go_wp2_with fail
              go_region
              all_goals
                obtain ⟨wS, hwS⟩ : ∃ W, ((((((wq.setCell ⟨g0, 0, none⟩ (.int .i64 zk)).setCell ⟨g0, 1, none⟩ (.slice zA 4 zc)).setCell ⟨g0, 2, none⟩ (.int .i64 zt)).setCell ⟨g1, 0, none⟩ (.int .i64 yk)).setCell ⟨g1, 1, none⟩ (.slice yA 4 yc)).setCell ⟨g1, 2, none⟩ (.int .i64 yt)) = W := ⟨_, rfl⟩
                have hcs : Chg (fun k => k = g0 ∨ k = g1) wq wS := by
                  rw [← hwS]
                  exact ((((((Chg.refl _ wq).setCell (p := ⟨g0, 0, none⟩) _ (fun _ => Or.inl rfl)).setCell (p := ⟨g0, 1, none⟩) _ (fun _ => Or.inl rfl)).setCell (p := ⟨g0, 2, none⟩) _ (fun _ => Or.inl rfl)).setCell (p := ⟨g1, 0, none⟩) _ (fun _ => Or.inr rfl)).setCell (p := ⟨g1, 1, none⟩) _ (fun _ => Or.inr rfl)).setCell (p := ⟨g1, 2, none⟩) _ (fun _ => Or.inr rfl)
                have BA2 : Box wS g0 [.int .i64 zk, .slice zA 4 zc, .int .i64 zt] := by
                  rw [← hwS]
                  exact (((((BAq.out.set_ 0 (.int .i64 zk)).set_ 1 (.slice zA 4 zc)).set_ 2 (.int .i64 zt)).far (p := ⟨g1, 0, none⟩) hgg (.int .i64 yk)).far (p := ⟨g1, 1, none⟩) hgg (.slice yA 4 yc)).far (p := ⟨g1, 2, none⟩) hgg (.int .i64 yt)
                have BB2 : Box wS g1 [.int .i64 yk, .slice yA 4 yc, .int .i64 yt] := by
                  rw [← hwS]
                  exact (((((BBq.out.far (p := ⟨g0, 0, none⟩) hgg.symm (.int .i64 zk)).far (p := ⟨g0, 1, none⟩) hgg.symm (.slice zA 4 zc)).far (p := ⟨g0, 2, none⟩) hgg.symm (.int .i64 zt)).set_ 0 (.int .i64 yk)).set_ 1 (.slice yA 4 yc)).set_ 2 (.int .i64 yt)
                have BA3 := hid (Box.drew BA2); have BB3 := hid (Box.drew BB2)
                have hc9 : Chg (fun k => k = g0 ∨ k = g1) wz wS.drew := Chg.drew (((hcm9.no hcy).no hq).and_ hcs)
                rw [hwS]
                clear hcs BA2 BB2 hwS
                go_wp2_with fail
                go_roundw
                case rel => exact ⟨m + 1, j, j + 1 + m, ⟨⟨zk, zv, zt⟩, zA, 4, zc⟩, ⟨⟨yk, yv, yt⟩, yA, 4, yc⟩, by omega, by go_num, HB2, HZ, HZ2, HZV, HY9, hc9, BA3, BB3⟩
                case measure => simp [intOf]; omega
            · have d1 : decide (dz < da) = false := decide_eq_false hd
              have HB2 := hid (HKP.out hd)
              clear hd HTK HKP
              go_wp2_with fail
              (refine wp_region_nb (by kernel_rfl) (by kernel_rfl) ?_; (repeat (first | go_big_quiet_step ((first | (go_at_call 50; (with_reducible exact nb_of (KZ.out _ (NB.h _)))) | (go_at_call 50; (with_reducible exact nb_of (KA.out _ (NB.h _)))))) | quiet_step ((first | (go_at_call 50; (with_reducible exact nb_of (KZ.out _ (NB.h _)))) | (go_at_call 50; (with_reducible exact nb_of (KA.out _ (NB.h _)))))))); (with_reducible refine wpQuiet_nil ?_); intro wq hw1; have hq := nb_out hw1; clear hw1)
              have BAq := hid (BAy.out.no hq); have BBq := hid (BBy.out.no hq)
              go_wp2
              go_roundw
              case rel => exact ⟨m + 1, a, b, ⟨⟨ak, av, at0⟩, aA, 4, ac⟩, ⟨⟨bk, bv, bt0⟩, bA, 4, bc⟩, by omega, by go_num, HB2, HA, HBI, HVA, HVB2, (hcm9.no hcy).no hq, BAq, BBq⟩
              case measure => simp [intOf]; omega
          · have hmn : j + 1 + m = xs.length := by rw [HXL.out]; omega
            have HBN := hid (best_next (show Best xs kind j xs.length a b from by have h9 := HB.out; rw [hmn] at h9; exact h9))
            clear hmn
            go_wp2
            go_roundw
            case rel => exact ⟨j + 1, a, b, ⟨⟨ak, av, at0⟩, aA, an, ac⟩, ⟨⟨bk, bv, bt0⟩, bA, bn, bc⟩, by omega, by go_num, HBN, HA, HBI, HVA, HVB2, hcw, BA, BB⟩
            case measure => simp [intOf]; omega
      · have hjn : j = n := by omega
        have HBE := hid (show Best xs kind xs.length (j + 1) a b from by have h9 := HB.out; rw [hjn] at h9; rw [HXL.out, hjn]; exact h9)
        have ka : keyI xs a = ak := keyI_eq HA.out
        have kb : keyI xs b = bk := keyI_eq HBI.out
        have HKA := hid ka; have HKB := hid kb
        have p1 := BA.out.f3; have p2 := BB.out.f3
        clear hjn ka kb
        go_wp2_with fail
        go_region
        all_goals
          go_wp2
          (refine bodyPost_ret (by simp [results, Try.results36, go_sem, *]; rfl) rfl ?_)
          exact ⟨a, b, _, HBE.out, by rw [HKA.out, HKB.out], hc1.no (Chg.drew hc)⟩
end Go.Proofs.Ytgidepnlflmclaa
namespace Go.Proofs.Ytgidepnlflmclaa
open Go.ChangeShapes Go.WideShapes Go.ChangeAt Go.RowKit Go.Shelf
set_option linter.unusedVariables false
set_option linter.unusedSimpArgs false
namespace lawMutualLinksClosest
set_option maxRecDepth 100000 in
set_option maxHeartbeats 8000000 in
theorem walk (A : Option Addr) (n c : Nat) (w : World) (hC : Code w w.heap.size A n c) : Calls Try.prog 11 #[.slice A n c] w fun e w' => e = .returned (.bool true) ∧ Chg No w w' := by
  have hn1 := hC.1
  have hn2 := hC.2.1
  by_cases hbig : 1048576 < n
  · skip
    go_enter Try.func11, Try.ntmps11
    go_wp2
    go_ret
    exact ⟨rfl, Chg.refl _ _⟩
  · skip
    have hbig' : n ≤ 1048576 := by omega
    go_enter Try.func11, Try.ntmps11
    (go_wp2_with fail; (with_reducible refine (drawMutualLinks A n c _ hC).mono ?_); rintro e w1 ⟨v1, xs, kind, many, rfl, ho1, hl1, hkd, hmd, hc1⟩)
    obtain ⟨A1, c1, rfl, hr1⟩ := OItems.read ho1
    have hm1 := hr1.cap; have hk1 := hr1.le
    have HX := hid hr1
    have hkd0 := hkd.1; have hkd5 := hkd.2; have hmd0 := hmd.1; have hmd6 := hmd.2
    have s1 := hc1.size
    clear ho1 hr1 hkd hmd
    obtain ⟨L, hL⟩ : ∃ L, MutF xs kind many = L := ⟨_, rfl⟩
    have KS := hid (fun W (h : Chg No w1 W) => sMutualLinks _ _ _ _ _ xs kind many W (HX.out.no h))
    have KI := hid (fun W (h : Chg No w1 W) => iMutualLinks _ _ _ _ _ xs kind many W (HX.out.no h))
    rw [hL] at KS KI
    have HL := hid hL
    clear hL
    (go_wp2_with fail; (with_reducible refine (KI.out _ (Chg.refl _ _)).mono ?_); rintro e w2 ⟨v2, rfl, ho2, hc2⟩)
    obtain ⟨A2, c2, rfl, hr2⟩ := ORows.read ho2
    have hp2 := hr2.cap; have hl2 := hr2.le
    have R2 := hid hr2
    have s2 := hc2.size
    clear ho2 hr2
    (go_wp2_with fail; (with_reducible refine (KS.out _ hc2).mono ?_); rintro e w3 ⟨v3, rfl, ho3, hc3⟩)
    obtain ⟨A3, c3, rfl, hr3⟩ := ORows.read ho3
    have hp3 := hr3.cap; have hl3 := hr3.le
    have R3 := hid hr3
    have s3 := hc3.size
    clear ho3 hr3
    have q3 : Chg No w1 w3 := hc2.no hc3
    (go_wp2_with fail; (with_reducible refine (equalLists _ _ _ _ _ _ _ _ _ L _ (R2.out.no hc3) R3.out).mono ?_); rintro e w4 ⟨rfl, hc4⟩)
    have q4 : Chg No w1 w4 := q3.no hc4
    have r4 : Chg No w2 w4 := hc3.no hc4
    have s4 := hc4.size
    clear R3
    have KA := hid (fun W (h : Chg No w1 W) => iLinksOf _ _ _ _ _ xs kind many W (HX.out.no h))
    obtain ⟨M, hM⟩ : ∃ M, LinksF xs kind many = M := ⟨_, rfl⟩
    rw [hM] at KA
    have hLM := HL.out
    by_cases hM2 : M.length < 2
    · have hMl : (M.length : Int) ≤ 1 := by omega
      have e1 : decide ((M.length : Int) < 2) = true := decide_eq_true (by omega)
      clear hM2 hM hLM
      (go_wp2_with fail; (with_reducible refine (KA.out _ q4).mono ?_); rintro e w5 ⟨v5, rfl, ho5, hc5⟩)
      obtain ⟨A5, c5, rfl, hr5⟩ := ORows.read ho5
      have hp5 := hr5.cap; have hl5 := hr5.le
      have R5 := hid hr5
      have s5 := hc5.size
      clear ho5 hr5
      (go_wp2_with fail; (with_reducible refine (KS.out _ (q4.no hc5)).mono ?_); rintro e w8 ⟨v8, rfl, ho8, hc8⟩)
      obtain ⟨A8, c8, rfl, hr8⟩ := ORows.read ho8
      have hp8 := hr8.cap; have hl8 := hr8.le
      have R8 := hid hr8
      have s8 := hc8.size
      clear ho8 hr8
      (go_wp2_with fail; (with_reducible refine (equalLists _ _ _ _ _ _ _ _ _ L _ (R2.out.no ((r4.no hc5).no hc8)) R8.out).mono ?_); rintro e w9 ⟨rfl, hc9⟩)
      go_wp2
      go_ret
      exact ⟨rfl, hc1.no (((q4.no hc5).no hc8).no hc9)⟩
    · have hlk : linkB xs kind many = true := by
        cases h : linkB xs kind many with
        | true => rfl
        | false => rw [LinksF_no h] at hM; rw [← hM] at hM2; simp at hM2
      have hok := linkB_ok hlk
      have hMl : M.length = xs.length := by rw [← hM, LinksF_ok hlk, linksL_len]
      have hLL : mutL xs kind many = L := by rw [← MutF_ok hlk]; exact hLM
      have hx16 : xs.length ≤ 16 := storeB_len hok.store
      have hL256 : L.length ≤ 256 := by
        have h1 := mutL_len xs kind many
        rw [hLL] at h1
        have h2 : xs.length * xs.length ≤ 16 * 16 := Nat.mul_le_mul hx16 hx16
        omega
      have hM16 : M.length ≤ 16 := by omega
      have e1 : decide ((M.length : Int) < 2) = false := decide_eq_false (by omega)
      have HMU := hid (show ∀ a b k, Best xs kind xs.length k a b → [keyI xs a, keyI xs b] ∈ L from fun a b k h => by rw [← hLL]; exact mutL_in h.ab h.bn (best_mut hok.store hok.many1 h))
      have KC := hid (fun W (h : Chg No w1 W) => iClosestPair _ _ _ _ _ xs kind W (HX.out.no h) hok.store hok.kind1 hok.kind4 (by omega))
      clear hM2 hM hLM hlk hok hLL KI KS hMl
      (go_wp2_with fail; (with_reducible refine (KA.out _ q4).mono ?_); rintro e w5 ⟨v5, rfl, ho5, hc5⟩)
      obtain ⟨A5, c5, rfl, hr5⟩ := ORows.read ho5
      have hp5 := hr5.cap; have hl5 := hr5.le
      have R5 := hid hr5
      have s5 := hc5.size
      clear ho5 hr5
      have q5 := q4.no hc5
      (go_wp2_with fail; (with_reducible refine (KC.out _ q5).mono ?_); rintro e w6 ⟨a, b, k, hbst, rfl, hc6⟩)
      have HIN := hid (HMU.out a b k hbst)
      generalize keyI xs a = ka at *
      generalize keyI xs b = kb at *
      have q6 := q5.no hc6
      have r6 : Chg No w2 w6 := (r4.no hc5).no hc6
      clear hbst KC KA
      go_wp2
      go_loopw [10, 11] (fun s i wr => ∃ (m : Nat) (t : Bool), m ≤ L.length ∧ i = .int .i64 m ∧ s = .bool t ∧ Chg No w6 wr ∧ Hid (t = decide ([ka, kb] ∈ L.take m))) (fun _ i _ => L.length - (intOf i).toNat)
      case atStart => exact ⟨0, false, Nat.zero_le _, rfl, rfl, Chg.refl _ _, by (show false = _; simp)⟩
      case round =>
        obtain ⟨m, t, hm, rfl, rfl, hc, HT⟩ := hrel
        obtain ⟨wo, rfl⟩ : ∃ W : World, W = wr := ⟨_, rfl⟩
        by_cases hlt : m < L.length
        · obtain ⟨b2, o2, u, Au, nu, cu, rfl, _, _, hu, f2', hv2⟩ := (R2.out.no (r6.no hc)).at_ hlt
          have hTK := take_snoc hu
          have HTK := hid hTK
          cases t with
          | true =>
            have HT2 := hid (show true = decide ([ka, kb] ∈ L.take (m + 1)) from by
              have h9 := of_decide_eq_true HT.out.symm
              rw [HTK.out, decide_eq_true (List.mem_append.2 (Or.inl h9))])
            clear hu f2' hv2 hTK
            go_wp2
            go_roundw
            case rel => exact ⟨m + 1, true, by omega, by go_num, rfl, hc, HT2⟩
            case measure => simp [intOf]; omega
          | false =>
            have f2 : wo.cell? ⟨b2, o2 + m, none⟩ = some (.slice Au nu cu) := f2'
            have t2 := cell_lt f2
            have hl2 := hv2.le; have hp2 := hv2.cap
            have KE := hid (fun W (h : Chg No wo W) (g : Nat) (hg : W.heap[g]? = some (.cells #[.int .i64 ka, .int .i64 kb] 3 (0, 0))) => equalIntsG _ _ _ _ Au (some ⟨g, 0, none⟩) nu cu 2 2 u [ka, kb] W (hv2.no h) (RInts.lit (n := 2) hg [ka, kb] rfl rfl (by omega)))
            have hnt : ¬ [ka, kb] ∈ L.take m := of_decide_eq_false HT.out.symm
            have HT2 := hid (show decide (u = [ka, kb]) = decide ([ka, kb] ∈ L.take (m + 1)) from by
              rw [hTK]
              by_cases hur : u = [ka, kb]
              · rw [decide_eq_true hur, decide_eq_true (List.mem_append.2 (Or.inr (List.mem_singleton.2 hur.symm)))]
              · rw [decide_eq_false hur, decide_eq_false]
                intro h9
                rcases List.mem_append.1 h9 with h9 | h9
                · exact hnt h9
                · exact hur (List.mem_singleton.1 h9).symm)
            generalize decide (u = [ka, kb]) = t9 at *
            clear hu f2' hv2 hTK hnt
            (go_wp2_with fail; (with_reducible refine (KE.out _ ((Chg.refl _ _).alloc _) _ (heap_top rfl)).mono ?_); rintro e w7 ⟨rfl, hc7⟩)
            have hc9 : Chg No w6 w7 := (hc.alloc _).no hc7
            go_wp2
            go_roundw
            case rel => exact ⟨m + 1, t9, by omega, by go_num, rfl, hc9, HT2⟩
            case measure => simp [intOf]; omega
        · have hmm : m = L.length := by omega
          have ht : t = true := by rw [HT.out, hmm, List.take_length, decide_eq_true HIN.out]
          clear hmm HT
          subst ht
          go_wp2
          go_ret
          exact ⟨rfl, hc1.no (q6.no hc)⟩

set_option maxRecDepth 100000 in
theorem lifted (os : Os) (started : os.Started) (H : Type) (enc : TypeId × Value → H) :
    ReturnsInHanded {} Try.checked os 11 .any (Rows.fnMutualLinksClosestSpec.pre6 enc Try.prog Try.f11 Rows.fnMutualLinksClosestRow.domain false) (Rows.fnMutualLinksClosestSpec.post enc Try.prog Try.f11 false true false false) := by
  refine returnsInHanded_of_change (C := Try.checked) own started (by kernel_rfl) Try.func11
    (ChangeSpec.witness6 (enc := enc) (C := Try.checked) false ⟨#[], #[.slice none 0 0], []⟩ 8 (by kernel_rfl) (by kernel_rfl) (by kernel_rfl) (by kernel_rfl)) ?_
  intro W base args ds gs before hval0 hW hcnd _
  have hval : ∀ (j : Nat) t v, Try.f11.params[j]? = some t → args[j]? = some v → Value.okWide Try.prog W .any base t v := hval0
  have hW' := hW
  obtain ⟨p, q, hA0, hV, rfl, hfz, hnd⟩ := hW
  have hA : DataW.TrodAll enc Try.prog W 0 (fun _ => true) true Try.f11.params.toList args.toList ds p := hA0
  rw [Try.params11] at hA hval
  obtain ⟨v0, vs0, d0, ds0, p0, q0, hargs, rfl, rfl, h0, r0⟩ := trodAll_cons hA
  obtain ⟨rfl, rfl, rfl⟩ := trodAll_nil r0
  obtain rfl : args = #[v0] := by cases args; simp_all
  obtain ⟨rfl, rfl⟩ := trodVars_none hV
  obtain ⟨a0, len0, cap0, rfl⟩ := okWide_slice Try.underlying35 (hval 0 35 v0 rfl rfl)
  have k0 := h0
  have lt0 : ∀ x ∈ p0, x.block < W.heap.size := by obtain ⟨m, hm⟩ := k0; exact DataW.trod_lt m _ _ _ hm
  have w0 : Code W W.heap.size a0 len0 cap0 := by
    obtain ⟨fuel, hf⟩ := h0
    rcases open_ints Try.underlying35 Try.underlying5 (by kernel_rfl) hf with ⟨hcs, _⟩ | ⟨x, l, c, zs, hcs, _, hl, hm, hz, _, hcell, hwz⟩
    · simp [Value.cells] at hcs
      obtain ⟨rfl, rfl, rfl⟩ := hcs
      exact code_nil _
    · simp [Value.cells] at hcs
      obtain ⟨rfl, rfl, rfl⟩ := hcs
      exact code_row hl hm (by simpa using hz) hcell hwz
  clear hA0 hval0
  refine (walk a0 len0 cap0 W w0).mono fun e W' ⟨he, bel0⟩ => ?_
  have bel := bel0.below
  subst he
  exact ⟨_, rfl, _, _, _, [], _, [], hW', trodAll_mk1 (shut_bool Try.underlying4 _), (trodAll_cons_mk (Below.trod laidOut (by kernel_rfl) (of_decide_eq_true (by kernel_rfl)) k0 bel lt0) trodAll_mk0), rfl, bel.frame _, fun h => by cases h⟩

theorem over : Rows.fnMutualLinksClosestRow.holds Try.pinned (OpenSpec.ofChange Rows.fnMutualLinksClosestSpec) :=
  OpenClaim.holds_of_wide 11 Try.f11 rfl rfl rfl rfl rfl rfl rfl ⟨rfl, rfl, rfl, rfl, rfl⟩ rfl rfl rfl rfl rfl (by kernel_rfl) Try.func11 (by kernel_rfl)
    (of_decide_eq_true (by kernel_rfl)) (by unfold Func.isWrapper; first | (rw [if_pos (by decide +kernel)]; kernel_rfl) | (rw [if_neg (by decide +kernel)]; exact ⟨rfl, rfl⟩))
    (fun os started H enc _ => lifted os started H enc)

theorem proved : Rows.FnMutualLinksClosestSaid := over
#print axioms proved

end lawMutualLinksClosest
end Go.Proofs.Ytgidepnlflmclaa
