/- Hashes: HashNearest, the program's and the reference's. -/
import Derived.Test.YtifdcdpdihfbjaaHash3
import Derived.Test.YtifdcdpdihfbjaaIsIn
import Derived.Test.YtifdcdpdihfbjaaNearJ
namespace Go.Proofs.Ytifdcdpdihfbjaa
open Go.RowKit Go.Shelf
set_option linter.unusedVariables false
set_option linter.unusedSimpArgs false
/-- the nearest of a bucket, of valid arguments -/
def hnOk (ps : List (List Int)) (l : List It) (at_ : List Int) (bt k : Int) : Bool := planesB ps && (canB l 3 at_ k && inB bt 0 6)
def HnearF (ps : List (List Int)) (l : List It) (at_ : List Int) (bt k : Int) : List (Int × Int) := if hnOk ps l at_ bt k = true then nearestF (bucketL ps l at_ bt) 3 at_ k else []
theorem HnearF_no {ps : List (List Int)} {l : List It} {at_ : List Int} {bt k : Int} (h : hnOk ps l at_ bt k = false) : HnearF ps l at_ bt k = [] := by unfold HnearF; rw [h]; rfl
theorem HnearF_ok {ps : List (List Int)} {l : List It} {at_ : List Int} {bt k : Int} (h : hnOk ps l at_ bt k = true) : HnearF ps l at_ bt k = nearestF (bucketL ps l at_ bt) 3 at_ k := by unfold HnearF; rw [h]; rfl
structure HnOk (ps : List (List Int)) (l : List It) (at_ : List Int) (bt k : Int) : Prop where
  planes : planesB ps = true
  can : Can l 3 at_
  k1 : 1 ≤ k
  k16 : k ≤ 16
  b0 : 0 ≤ bt
  b6 : bt ≤ 6
theorem hnOk_ok {ps : List (List Int)} {l : List It} {at_ : List Int} {bt k : Int} (h : hnOk ps l at_ bt k = true) : HnOk ps l at_ bt k := by
  unfold hnOk inB at h
  rw [Bool.and_eq_true, Bool.and_eq_true, decide_eq_true_eq] at h
  obtain ⟨hC, h1, h2⟩ := canB_can h.2.1
  exact ⟨h.1, hC, h1, h2, h.2.2.1, h.2.2.2⟩
theorem HnOk.ok {ps : List (List Int)} {l : List It} {at_ : List Int} {bt k : Int} (h : HnOk ps l at_ bt k) : hnOk ps l at_ bt k = true := by
  unfold hnOk inB
  rw [h.planes, h.can.can h.k1 h.k16, decide_eq_true ⟨h.b0, h.b6⟩]; rfl
theorem HnOk.bucket {ps : List (List Int)} {l : List It} {at_ : List Int} {bt k : Int} (h : HnOk ps l at_ bt k) : bucketOk ps l at_ bt = true := by
  unfold bucketOk
  rw [h.planes, h.can.store, h.can.vec, decide_eq_true ⟨h.b0, h.b6⟩]; rfl
theorem bucketL_sub (ps : List (List Int)) (l : List It) (at_ : List Int) (bt : Int) : (bucketL ps l at_ bt).Sublist l := List.filter_sublist
theorem chg_eq2 {P : Program} {f : Nat} {args : Array Value} {w : World} {v : Value} (h : Calls P f args w fun e w' => e = .returned v ∧ w = w') : Calls P f args w fun e w' => e = .returned v ∧ Chg No w w' :=
  h.mono (fun _ _ ⟨he, hw⟩ => ⟨he, by rw [← hw]; exact Chg.refl _ _⟩)
set_option maxHeartbeats 4000000 in
theorem iHashNearest (lp hp : Nat) (AP : Option Addr) (np cp : Nat) (ps : List (List Int)) (l0 h0 : Nat) (A : Option Addr) (n c : Nat) (xs : List It) (l1 h1 : Nat) (A' : Option Addr) (n' c' : Nat) (at_ : List Int) (bt k : Int) (w : World)
    (hps : RRows w lp hp AP np cp ps) (hx : RItems w l0 h0 A n c xs) (hy : RInts w l1 h1 A' n' c' at_) :
    Calls Try.prog 27 #[.slice AP np cp, .slice A n c, .slice A' n' c', .int .i64 bt, .int .i64 k] w (RetHits (HnearF ps xs at_ bt k) w) := by
  have HX := hid hx; have HY := hid hy; have HP := hid hps
  have K1 := hid (fun W (h : RRows W lp hp AP np cp ps) => areVectors lp hp AP np cp ps W h)
  have K2 := hid (fun W (h : RItems W l0 h0 A n c xs) (h2 : RInts W l1 h1 A' n' c' at_) => iCanFind l0 h0 A n c xs l1 h1 A' n' c' at_ 3 k W h h2)
  have HB := hid (show hnOk ps xs at_ bt k = (planesB ps && (canB xs 3 at_ k && inB bt 0 6)) from rfl)
  clear hps hx hy
  cases hb1 : planesB ps with
  | false =>
    have HF := hid (HnearF_no (ps := ps) (l := xs) (at_ := at_) (bt := bt) (k := k) (by rw [HB.out, hb1]; rfl))
    rw [hb1] at K1
    clear hb1
    go_enter Try.func27, Try.ntmps27
    (go_wp2_with fail; (with_reducible refine (K1.out _ HP.out).mono ?_); rintro e w1 ⟨rfl, hc1⟩)
    go_wp2
    go_ret
    exact ⟨_, rfl, by rw [HF.out]; exact OSl.nil_ _, by (repeat (first | (with_reducible exact Chg.refl _ _) | ((with_reducible refine Chg.setNew ?_ _ ?_); rotate_left; first | (dsimp only; omega) | (simp; done) | (simp; omega)) | (with_reducible refine Chg.alloc ?_ _) | (with_reducible refine Chg.drew ?_) | (with_reducible refine Chg.drewN ?_ _) | (with_reducible refine Chg.no ?_ (by assumption)) | (with_reducible refine Chg.and_ ?_ (by assumption)) | ((with_reducible refine Chg.at_ ?_ (by assumption) ?_); rotate_left; (try simp only [World.size_alloc]); omega)))⟩
  | true =>
    rw [hb1] at K1
    cases hb2 : canB xs 3 at_ k with
    | false =>
      have HF := hid (HnearF_no (ps := ps) (l := xs) (at_ := at_) (bt := bt) (k := k) (by rw [HB.out, hb2]; simp))
      rw [hb2] at K2
      clear hb1 hb2
      go_enter Try.func27, Try.ntmps27
      (go_wp2_with fail; (with_reducible refine (K1.out _ HP.out).mono ?_); rintro e w1 ⟨rfl, hc1⟩)
      (go_wp2_with fail; (with_reducible refine (K2.out _ (HX.out.no hc1) (HY.out.no hc1)).mono ?_); rintro e w2 ⟨rfl, hc2⟩)
      go_wp2
      go_ret
      exact ⟨_, rfl, by rw [HF.out]; exact OSl.nil_ _, by (repeat (first | (with_reducible exact Chg.refl _ _) | ((with_reducible refine Chg.setNew ?_ _ ?_); rotate_left; first | (dsimp only; omega) | (simp; done) | (simp; omega)) | (with_reducible refine Chg.alloc ?_ _) | (with_reducible refine Chg.drew ?_) | (with_reducible refine Chg.drewN ?_ _) | (with_reducible refine Chg.no ?_ (by assumption)) | (with_reducible refine Chg.and_ ?_ (by assumption)) | ((with_reducible refine Chg.at_ ?_ (by assumption) ?_); rotate_left; (try simp only [World.size_alloc]); omega)))⟩
    | true =>
      rw [hb2] at K2
      by_cases a1 : bt < 0
      · have HF := hid (HnearF_no (ps := ps) (l := xs) (at_ := at_) (bt := bt) (k := k) (by rw [HB.out]; unfold inB; rw [decide_eq_false (by omega)]; simp))
        have j1 : decide (bt < 0) = true := decide_eq_true a1
        clear hb1 hb2
        go_enter Try.func27, Try.ntmps27
        (go_wp2_with fail; (with_reducible refine (K1.out _ HP.out).mono ?_); rintro e w1 ⟨rfl, hc1⟩)
        (go_wp2_with fail; (with_reducible refine (K2.out _ (HX.out.no hc1) (HY.out.no hc1)).mono ?_); rintro e w2 ⟨rfl, hc2⟩)
        go_wp2
        go_ret
        exact ⟨_, rfl, by rw [HF.out]; exact OSl.nil_ _, by (repeat (first | (with_reducible exact Chg.refl _ _) | ((with_reducible refine Chg.setNew ?_ _ ?_); rotate_left; first | (dsimp only; omega) | (simp; done) | (simp; omega)) | (with_reducible refine Chg.alloc ?_ _) | (with_reducible refine Chg.drew ?_) | (with_reducible refine Chg.drewN ?_ _) | (with_reducible refine Chg.no ?_ (by assumption)) | (with_reducible refine Chg.and_ ?_ (by assumption)) | ((with_reducible refine Chg.at_ ?_ (by assumption) ?_); rotate_left; (try simp only [World.size_alloc]); omega)))⟩
      · have j1 : decide (bt < 0) = false := decide_eq_false a1
        by_cases a2 : 6 < bt
        · have HF := hid (HnearF_no (ps := ps) (l := xs) (at_ := at_) (bt := bt) (k := k) (by rw [HB.out]; unfold inB; rw [decide_eq_false (by omega)]; simp))
          have j2 : decide (6 < bt) = true := decide_eq_true a2
          clear hb1 hb2 a1
          go_enter Try.func27, Try.ntmps27
          (go_wp2_with fail; (with_reducible refine (K1.out _ HP.out).mono ?_); rintro e w1 ⟨rfl, hc1⟩)
          (go_wp2_with fail; (with_reducible refine (K2.out _ (HX.out.no hc1) (HY.out.no hc1)).mono ?_); rintro e w2 ⟨rfl, hc2⟩)
          go_wp2
          go_ret
          exact ⟨_, rfl, by rw [HF.out]; exact OSl.nil_ _, by (repeat (first | (with_reducible exact Chg.refl _ _) | ((with_reducible refine Chg.setNew ?_ _ ?_); rotate_left; first | (dsimp only; omega) | (simp; done) | (simp; omega)) | (with_reducible refine Chg.alloc ?_ _) | (with_reducible refine Chg.drew ?_) | (with_reducible refine Chg.drewN ?_ _) | (with_reducible refine Chg.no ?_ (by assumption)) | (with_reducible refine Chg.and_ ?_ (by assumption)) | ((with_reducible refine Chg.at_ ?_ (by assumption) ?_); rotate_left; (try simp only [World.size_alloc]); omega)))⟩
        · have hok : HnOk ps xs at_ bt k := hnOk_ok (by rw [HB.out, hb1, hb2]; unfold inB; rw [decide_eq_true (by omega)]; rfl)
          have HF := hid (HnearF_ok hok.ok)
          have hpv := (planesB_iff ps).1 hb1
          have hn16 : n ≤ 16 := by have := HX.out.len; have := storeB_len hok.can.store; omega
          have hn4 : n' = 4 := by have h9 : at_.length = n' := HY.out.len; have := vecB_len hok.can.vec; omega
          have hp6 : np ≤ 6 := by have h9 : ps.length = np := HP.out.len; omega
          have HPV := hid hpv.2
          have HXV := hid hok.can.each
          have SA := hid (vecB_small hok.can.vec)
          have hk1 := hok.k1; have hk16 := hok.k16
          have HCS := hid (hok.can.sub (bucketL_sub ps xs at_ bt))
          have hbl : (bucketL ps xs at_ bt).length ≤ 16 := by have := (bucketL_sub ps xs at_ bt).length_le; have := HX.out.len; omega
          subst hn4
          have j2 : decide (6 < bt) = false := decide_eq_false a2
          have K3 := hid (fun W (h : RRows W lp hp AP np cp ps) (hA : RItems W l0 h0 A n c xs) (h2 : RInts W l1 h1 A' 4 c' at_) => iBucketL lp hp AP np cp ps l0 h0 A n c xs l1 _ A' c' at_ bt W h hA h2 (by omega) HPV.out hp6 HXV.out SA.out)
          obtain ⟨S, hS⟩ : ∃ S, bucketL ps xs at_ bt = S := ⟨_, rfl⟩
          rw [hS] at K3 HF HCS hbl
          have K4 := hid (fun A9 c9 W l9 h9 (h : RItems W l9 h9 A9 S.length c9 S) (h2 : RInts W l1 h1 A' 4 c' at_) => iNearest l9 h9 A9 S.length c9 S l1 h1 A' 4 c' at_ 3 k W h h2 (by omega) HCS.out.each HCS.out.vec HCS.out.kind1 HCS.out.kind4 (by omega) (by omega))
          clear hb1 hb2 a1 a2 hpv hok hS
          go_enter Try.func27, Try.ntmps27
          (go_wp2_with fail; (with_reducible refine (K1.out _ HP.out).mono ?_); rintro e w1 ⟨rfl, hc1⟩)
          (go_wp2_with fail; (with_reducible refine (K2.out _ (HX.out.no hc1) (HY.out.no hc1)).mono ?_); rintro e w2 ⟨rfl, hc2⟩)
          have q2 : Chg No w w2 := hc1.no hc2
          (go_wp2_with fail; (with_reducible refine (K3.out _ (HP.out.no q2) (HX.out.no q2) (HY.out.no q2)).mono ?_); intro e w3 hret; obtain ⟨A3, c3, rfl, hr3, hc3⟩ := hret.ps; clear hret)
          have q3 : Chg No w w3 := q2.no hc3
          (go_wp2_with fail; (with_reducible refine (K4.out _ _ _ _ _ hr3 (HY.out.no q3)).mono ?_); rintro e w4 ⟨v4, rfl, ho4, hc4⟩)
          have s3 := q3.size
          have HO := hid (OSl.down ho4 (base' := w.heap.size) s3)
          clear ho4 hr3
          go_wp2
          go_ret
          exact ⟨_, rfl, by rw [HF.out]; exact HO.out, q3.no hc4⟩
set_option maxRecDepth 100000 in
set_option maxHeartbeats 4000000 in
theorem sHashNearest (lp hp : Nat) (AP : Option Addr) (np cp : Nat) (ps : List (List Int)) (l0 h0 : Nat) (A : Option Addr) (n c : Nat) (xs : List It) (l1 h1 : Nat) (A' : Option Addr) (n' c' : Nat) (at_ : List Int) (bt k : Int) (w : World)
    (hps : RRows w lp hp AP np cp ps) (hx : RItems w l0 h0 A n c xs) (hy : RInts w l1 h1 A' n' c' at_) :
    Calls Try.prog 23 #[.slice AP np cp, .slice A n c, .slice A' n' c', .int .i64 bt, .int .i64 k] w (RetHits (HnearF ps xs at_ bt k) w) := by
  have hnc := hx.le; have hcm := hx.cap
  have HX := hid hx; have HY := hid hy; have HP := hid hps
  have K1 := hid (fun W (h : RRows W lp hp AP np cp ps) => chg_eq2 (sValidPlanes lp hp AP np cp ps W h))
  have K2 := hid (fun W (h : RItems W l0 h0 A n c xs) (h2 : RInts W l1 h1 A' n' c' at_) => sValidQuery l0 h0 A n c xs l1 h1 A' n' c' at_ 3 W h h2)
  have K3 := hid (fun W => inRange bt 0 6 W)
  have K4 := hid (fun W => inRange k 1 16 W)
  have HB := hid (show hnOk ps xs at_ bt k = (planesB ps && ((queryB xs 3 at_ && inB k 1 16) && inB bt 0 6)) from by unfold hnOk; rw [canB_query])
  clear hps hx hy
  cases hb1 : planesB ps with
  | false =>
    have HF := hid (HnearF_no (ps := ps) (l := xs) (at_ := at_) (bt := bt) (k := k) (by rw [HB.out, hb1]; rfl))
    rw [hb1] at K1
    clear hb1
    go_enter Try.func23, Try.ntmps23
    (go_wp2_with fail; (with_reducible refine (K1.out _ HP.out).mono ?_); rintro e w1 ⟨rfl, hc1⟩)
    go_wp2
    go_ret
    exact ⟨_, rfl, by rw [HF.out]; exact OSl.nil_ _, by (repeat (first | (with_reducible exact Chg.refl _ _) | ((with_reducible refine Chg.setNew ?_ _ ?_); rotate_left; first | (dsimp only; omega) | (simp; done) | (simp; omega)) | (with_reducible refine Chg.alloc ?_ _) | (with_reducible refine Chg.drew ?_) | (with_reducible refine Chg.drewN ?_ _) | (with_reducible refine Chg.no ?_ (by assumption)) | (with_reducible refine Chg.and_ ?_ (by assumption)) | ((with_reducible refine Chg.at_ ?_ (by assumption) ?_); rotate_left; (try simp only [World.size_alloc]); omega)))⟩
  | true =>
    rw [hb1] at K1
    cases hb2 : queryB xs 3 at_ with
    | false =>
      have HF := hid (HnearF_no (ps := ps) (l := xs) (at_ := at_) (bt := bt) (k := k) (by rw [HB.out, hb2]; simp))
      rw [hb2] at K2
      clear hb1 hb2
      go_enter Try.func23, Try.ntmps23
      (go_wp2_with fail; (with_reducible refine (K1.out _ HP.out).mono ?_); rintro e w1 ⟨rfl, hc1⟩)
      (go_wp2_with fail; (with_reducible refine (K2.out _ (HX.out.no hc1) (HY.out.no hc1)).mono ?_); rintro e w2 ⟨rfl, hc2⟩)
      go_wp2
      go_ret
      exact ⟨_, rfl, by rw [HF.out]; exact OSl.nil_ _, by (repeat (first | (with_reducible exact Chg.refl _ _) | ((with_reducible refine Chg.setNew ?_ _ ?_); rotate_left; first | (dsimp only; omega) | (simp; done) | (simp; omega)) | (with_reducible refine Chg.alloc ?_ _) | (with_reducible refine Chg.drew ?_) | (with_reducible refine Chg.drewN ?_ _) | (with_reducible refine Chg.no ?_ (by assumption)) | (with_reducible refine Chg.and_ ?_ (by assumption)) | ((with_reducible refine Chg.at_ ?_ (by assumption) ?_); rotate_left; (try simp only [World.size_alloc]); omega)))⟩
    | true =>
      rw [hb2] at K2
      cases hb3 : inB bt 0 6 with
      | false =>
        have HF := hid (HnearF_no (ps := ps) (l := xs) (at_ := at_) (bt := bt) (k := k) (by rw [HB.out, hb3]; simp))
        rw [hb3] at K3
        clear hb1 hb2 hb3
        go_enter Try.func23, Try.ntmps23
        (go_wp2_with fail; (with_reducible refine (K1.out _ HP.out).mono ?_); rintro e w1 ⟨rfl, hc1⟩)
        (go_wp2_with fail; (with_reducible refine (K2.out _ (HX.out.no hc1) (HY.out.no hc1)).mono ?_); rintro e w2 ⟨rfl, hc2⟩)
        (go_wp2_with fail; (with_reducible refine (K3.out _).mono ?_); rintro e w3 ⟨rfl, rfl⟩)
        go_wp2
        go_ret
        exact ⟨_, rfl, by rw [HF.out]; exact OSl.nil_ _, by (repeat (first | (with_reducible exact Chg.refl _ _) | ((with_reducible refine Chg.setNew ?_ _ ?_); rotate_left; first | (dsimp only; omega) | (simp; done) | (simp; omega)) | (with_reducible refine Chg.alloc ?_ _) | (with_reducible refine Chg.drew ?_) | (with_reducible refine Chg.drewN ?_ _) | (with_reducible refine Chg.no ?_ (by assumption)) | (with_reducible refine Chg.and_ ?_ (by assumption)) | ((with_reducible refine Chg.at_ ?_ (by assumption) ?_); rotate_left; (try simp only [World.size_alloc]); omega)))⟩
      | true =>
        rw [hb3] at K3
        cases hb4 : inB k 1 16 with
        | false =>
          have HF := hid (HnearF_no (ps := ps) (l := xs) (at_ := at_) (bt := bt) (k := k) (by rw [HB.out, hb4]; simp))
          rw [hb4] at K4
          clear hb1 hb2 hb3 hb4
          go_enter Try.func23, Try.ntmps23
          (go_wp2_with fail; (with_reducible refine (K1.out _ HP.out).mono ?_); rintro e w1 ⟨rfl, hc1⟩)
          (go_wp2_with fail; (with_reducible refine (K2.out _ (HX.out.no hc1) (HY.out.no hc1)).mono ?_); rintro e w2 ⟨rfl, hc2⟩)
          (go_wp2_with fail; (with_reducible refine (K3.out _).mono ?_); rintro e w3 ⟨rfl, rfl⟩)
          (go_wp2_with fail; (with_reducible refine (K4.out _).mono ?_); rintro e w3 ⟨rfl, rfl⟩)
          go_wp2
          go_ret
          exact ⟨_, rfl, by rw [HF.out]; exact OSl.nil_ _, by (repeat (first | (with_reducible exact Chg.refl _ _) | ((with_reducible refine Chg.setNew ?_ _ ?_); rotate_left; first | (dsimp only; omega) | (simp; done) | (simp; omega)) | (with_reducible refine Chg.alloc ?_ _) | (with_reducible refine Chg.drew ?_) | (with_reducible refine Chg.drewN ?_ _) | (with_reducible refine Chg.no ?_ (by assumption)) | (with_reducible refine Chg.and_ ?_ (by assumption)) | ((with_reducible refine Chg.at_ ?_ (by assumption) ?_); rotate_left; (try simp only [World.size_alloc]); omega)))⟩
        | true =>
          rw [hb4] at K4
          have hok : HnOk ps xs at_ bt k := hnOk_ok (by rw [HB.out, hb1, hb2, hb3, hb4]; rfl)
          have HF := hid (HnearF_ok hok.ok)
          have HBK := hid hok.bucket
          have hn16 : n ≤ 16 := by have := HX.out.len; have := storeB_len hok.can.store; omega
          have hk1 := hok.k1; have hk16 := hok.k16
          have HCS := hid (hok.can.sub (bucketL_sub ps xs at_ bt))
          have hbl : (bucketL ps xs at_ bt).length ≤ 16 := by have := (bucketL_sub ps xs at_ bt).length_le; have := HX.out.len; omega
          have K5 := hid (fun W (h : RRows W lp hp AP np cp ps) (hA : RItems W l0 h0 A n c xs) (h2 : RInts W l1 h1 A' n' c' at_) => sBucketOf lp hp AP np cp ps l0 h0 A n c xs l1 _ A' n' c' at_ bt W h hA h2)
          have HBM := hid (fun (x : It) (hx : x ∈ xs) => bucket_mem hok.bucket hx)
          obtain ⟨T, hT⟩ : ∃ T, bucketF ps xs at_ bt = T := ⟨_, rfl⟩
          rw [hT] at K5 HBM
          have K6 := hid (fun A9 c9 W l9 h9 (h : RItems W l9 h9 A9 (bucketL ps xs at_ bt).length c9 (bucketL ps xs at_ bt)) (h2 : RInts W l1 h1 A' n' c' at_) => sNearest l9 h9 A9 (bucketL ps xs at_ bt).length c9 (bucketL ps xs at_ bt) l1 h1 A' n' c' at_ 3 k W h h2 (by omega) HCS.out.each HCS.out.vec HCS.out.kind1 HCS.out.kind4 (by omega) (by omega))
          clear hb1 hb2 hb3 hb4 hok hT
          go_enter Try.func23, Try.ntmps23
          (go_wp2_with fail; (with_reducible refine (K1.out _ HP.out).mono ?_); rintro e w1 ⟨rfl, hc1⟩)
          (go_wp2_with fail; (with_reducible refine (K2.out _ (HX.out.no hc1) (HY.out.no hc1)).mono ?_); rintro e w2 ⟨rfl, hc2⟩)
          (go_wp2_with fail; (with_reducible refine (K3.out _).mono ?_); rintro e w3 ⟨rfl, rfl⟩)
          (go_wp2_with fail; (with_reducible refine (K4.out _).mono ?_); rintro e w3 ⟨rfl, rfl⟩)
          have q2 : Chg No w w2 := hc1.no hc2
          (go_wp2_with fail; (with_reducible refine (K5.out _ (HP.out.no q2) (HX.out.no q2) (HY.out.no q2)).mono ?_); rintro e w3 ⟨v3, rfl, ho3, hc3⟩)
          obtain ⟨A3, c3, rfl, hr3⟩ := OInts.read ho3
          have hp3 := hr3.cap; have hl3 := hr3.le
          have R3 := hid hr3
          have q3 : Chg No w w3 := q2.no hc3
          have s3 := q3.size
          have HO0 := hid (show OSl 36 3 cItem (w3.alloc (.cells #[] 36)) w3.heap.size (.slice (some ⟨w3.heap.size, 0, none⟩) 0 0) [] from
            OSl.lit (enc := cItem) (n := 0) [] [] (fun _ => rfl) rfl rfl (by omega) (by omega) (heap_top (by simp)))
          clear ho3 hr3 hc1 hc2 hc3 K1 K2 K3 K4 K5
          go_wp2
          go_loopw [12, 13] (fun v i wr => ∃ k : Nat, k ≤ n ∧ i = .int .i64 k ∧ Chg No w3 wr ∧ ∃ qs : List ItP, Hid (qs.map (·.it) = bucketL ps (xs.take k) at_ bt) ∧ Hid (OSl 36 3 cItem wr w3.heap.size v qs) ∧ Hid (∀ p ∈ qs, RInts w l0 h0 p.A p.n p.c p.it.vec)) (fun _ i _ => n - (intOf i).toNat)
          case atStart => exact ⟨0, Nat.zero_le _, rfl, (Chg.refl _ _).alloc _, [], rfl, HO0, (fun p hp => by cases hp)⟩
          case round =>
            clear HO0
            obtain ⟨i, hi, rfl, hc, qs, HE, HO, HI⟩ := hrel
            obtain ⟨wo, rfl⟩ : ∃ W : World, W = wr := ⟨_, rfl⟩
            have hcw : Chg No w wo := q3.no hc
            have so := hc.size
            by_cases hlt : i < n
            · obtain ⟨b, o, z, hA0, _, _, hzk, hE⟩ := (HX.out.no hcw).at_ hlt
              obtain ⟨_, _, _, hA1, _, _, hzk1, hEo⟩ := HX.out.at_ hlt
              rw [hA0] at hA1
              injection hA1 with hA1
              injection hA1 with e1 e2 _
              subst e1 e2
              rw [hzk] at hzk1
              injection hzk1 with hzk1
              subst hzk1
              subst hA0
              obtain ⟨zk, zv, zt⟩ := z
              obtain ⟨hE1, ⟨A1, n1, c1, hE2, hv⟩, hE3⟩ := hE
              obtain ⟨_, ⟨A2, n2, c2, hE2o, hvo⟩, _⟩ := hEo
              have h9 := cell_keep hcw hE2o (fun e => e)
              rw [hE2] at h9
              injection h9 with h9
              injection h9 with e1 e2 e3
              subst e1 e2 e3
              have f1 : wo.cell? ⟨b, o + i * 3, none⟩ = some (.int .i64 zk) := hE1
              have f2 : wo.cell? ⟨b, o + i * 3 + 1, none⟩ = some (.slice A1 n1 c1) := hE2
              have f3 : wo.cell? ⟨b, o + i * 3 + 2, none⟩ = some (.int .i64 zt) := hE3
              have HV := hid hvo
              have hmem := HBM.out _ (List.mem_of_getElem? hzk)
              have hpl : qs.length ≤ 16 := by
                have h9 := congrArg List.length HE.out
                rw [List.length_map] at h9
                have h8 := List.length_filter_le (nearHB ps at_ bt) (xs.take i)
                rw [List.length_take] at h8
                unfold bucketL at h9
                omega
              have KN := hid (sIsIn _ _ A3 T.length c3 T zk wo (R3.out.no hc))
              have HTK := hid (take_snoc hzk)
              clear hzk hv hvo hE2o hE1 hE2 hE3
              by_cases hin : zk ∈ T
              · rw [decide_eq_true hin] at KN
                have HN := hid (hmem.1 hin)
                have HFE := hid (show bucketL ps (xs.take (i + 1)) at_ bt = bucketL ps (xs.take i) at_ bt ++ [⟨zk, zv, zt⟩] from by
                  unfold bucketL
                  rw [HTK.out, List.filter_append]
                  congr 1
                  rw [List.filter_cons, HN.out]
                  rfl)
                clear hin hmem
                have HH := hid (HO.out.alloc (.cells #[.int .i64 zk, .slice A1 n1 c1, .int .i64 zt] 36))
                have HX1 := hid (Src.one (sz := 3) (enc := cItem) (y := ⟨⟨zk, zv, zt⟩, A1, n1, c1⟩) (Box.new (w := wo) (g := wo.heap.size) [.int .i64 zk, .slice A1 n1 c1, .int .i64 zt] 36 rfl) rfl)
                (go_wp2_with fail; (with_reducible refine (KN.out).mono ?_); rintro e w5 ⟨rfl, rfl⟩)
                go_wp2_with (at_builtin; refine wpList_push _ rfl _ _ 26 rfl 36 3 40 (.agg #[.int .i64 0, .slice none 0 0, .int .i64 0]) cItem Try.underlying26 infoItem rfl (by omega) (by omega) (fun _ => rfl) oneItem w3.heap.size _ qs rfl HH.out _ 1 1 [⟨⟨zk, zv, zt⟩, A1, n1, c1⟩] rfl HX1.out (by omega) (by simp; omega) ?_; intro v' w6 ho6 hg6 hb6)
                have hc6 : Chg No w3 w6 := Chg.pushed (hc.alloc _) hg6 HH.out (Nat.le_refl _)
                have HO6 := hid ho6
                have HE6 : Hid ((qs ++ [(⟨⟨zk, zv, zt⟩, A1, n1, c1⟩ : ItP)]).map (·.it) = bucketL ps (xs.take (i + 1)) at_ bt) := by show _ = _; rw [HFE.out, List.map_append, HE.out]; rfl
                have HI6 : Hid (∀ p ∈ qs ++ [(⟨⟨zk, zv, zt⟩, A1, n1, c1⟩ : ItP)], RInts w l0 h0 p.A p.n p.c p.it.vec) := fun p hp => by
                  rcases List.mem_append.1 hp with hp | hp
                  · exact HI.out p hp
                  · rw [List.mem_singleton.1 hp]; exact HV.out
                clear ho6 hg6 hb6 HX1 HH HE HI HO HFE
                go_wp2
                go_roundw
                case rel => exact ⟨i + 1, by omega, by go_num, hc6, _, HE6, HO6, HI6⟩
                case measure => simp [intOf]; omega
              · rw [decide_eq_false hin] at KN
                have hnf : nearHB ps at_ bt ⟨zk, zv, zt⟩ = false := by
                  cases h : nearHB ps at_ bt ⟨zk, zv, zt⟩ with
                  | false => rfl
                  | true => exact absurd (hmem.2 h) hin
                have HE6 : Hid (qs.map (·.it) = bucketL ps (xs.take (i + 1)) at_ bt) := by
                  show _ = _
                  rw [HE.out]
                  unfold bucketL
                  rw [HTK.out, List.filter_append, List.filter_cons, hnf]
                  simp
                clear hin hmem hnf HE
                (go_wp2_with fail; (with_reducible refine (KN.out).mono ?_); rintro e w5 ⟨rfl, rfl⟩)
                go_wp2
                go_roundw
                case rel => exact ⟨i + 1, by omega, by go_num, hc, _, HE6, HO, HI⟩
                case measure => simp [intOf]; omega
            · have HE2 := HE.out
              rw [List.take_of_length_le (by have := HX.out.len; omega)] at HE2
              obtain ⟨A6, c6, hv6, hr6⟩ := read_ps HO.out (fun p hp => (HI.out p hp).no hcw)
              rw [HE2] at hv6 hr6
              subst hv6
              have hp6 := hr6.cap; have hl6 := hr6.le
              have HR6 := hid hr6
              clear HE HE2 hr6 HO HI
              (go_wp2_with fail; (with_reducible refine (K6.out _ _ _ _ _ HR6.out (HY.out.no hcw)).mono ?_); rintro e w7 ⟨v7, rfl, ho7, hc7⟩)
              have HO7 := hid (OSl.down ho7 (base' := w.heap.size) hcw.size)
              clear ho7
              go_wp2
              go_ret
              exact ⟨_, rfl, by rw [HF.out]; exact HO7.out, hcw.no hc7⟩
end Go.Proofs.Ytifdcdpdihfbjaa
