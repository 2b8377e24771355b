/- Nearest, WithinDist and Distance: the program's and the reference's answer the same plain functions. -/
import Derived.Test.YtkglmhhihpofiaaNearI
import Derived.Test.YtkglmhhihpofiaaPNear
namespace Go.Proofs.Ytkglmhhihpofiaa
open Go.RowKit Go.Shelf
set_option linter.unusedVariables false
set_option linter.unusedSimpArgs false
theorem kindB_in (k : Int) : inB k 1 4 = kindB k := rfl
def queryB (l : List It) (kind : Int) (at_ : List Int) : Bool := storeB l && (kindB kind && vecB at_)
theorem canB_query (l : List It) (kind : Int) (at_ : List Int) (k : Int) : canB l kind at_ k = (queryB l kind at_ && inB k 1 16) := by
  unfold canB queryB inB
  cases storeB l <;> cases kindB kind <;> cases vecB at_ <;> simp
structure Can (l : List It) (kind : Int) (at_ : List Int) : Prop where
  store : storeB l = true
  kind1 : 1 ≤ kind
  kind4 : kind ≤ 4
  vec : vecB at_ = true
theorem queryB_can {l : List It} {kind : Int} {at_ : List Int} (h : queryB l kind at_ = true) : Can l kind at_ := by
  unfold queryB kindB at h
  simp only [Bool.and_eq_true, decide_eq_true_eq] at h
  exact ⟨h.1, h.2.1.1, h.2.1.2, h.2.2⟩
theorem Can.query {l : List It} {kind : Int} {at_ : List Int} (h : Can l kind at_) : queryB l kind at_ = true := by
  unfold queryB kindB
  rw [h.store, h.vec, decide_eq_true ⟨h.kind1, h.kind4⟩]; rfl
theorem canB_can {l : List It} {kind : Int} {at_ : List Int} {k : Int} (h : canB l kind at_ k = true) : Can l kind at_ ∧ 1 ≤ k ∧ k ≤ 16 := by
  rw [canB_query, Bool.and_eq_true] at h
  exact ⟨queryB_can h.1, of_decide_eq_true h.2⟩
theorem Can.can {l : List It} {kind : Int} {at_ : List Int} (h : Can l kind at_) {k : Int} (h1 : 1 ≤ k) (h2 : k ≤ 16) : canB l kind at_ k = true := by
  rw [canB_query, h.query]; unfold inB; rw [decide_eq_true ⟨h1, h2⟩]; rfl
theorem Can.sub {l m : List It} {kind : Int} {at_ : List Int} (h : Can l kind at_) (hs : m.Sublist l) : Can m kind at_ := ⟨storeB_sub h.store hs, h.kind1, h.kind4, h.vec⟩
theorem Can.each {l : List It} {kind : Int} {at_ : List Int} (h : Can l kind at_) : ∀ x ∈ l, vecB x.vec = true := fun _ hx => storeB_vec h.store hx
/-- the nearest ones, of valid arguments -/
def NearestF (l : List It) (kind : Int) (at_ : List Int) (k : Int) : List (Int × Int) := if canB l kind at_ k = true then nearestF l kind at_ k else []
theorem NearestF_no {l : List It} {kind : Int} {at_ : List Int} {k : Int} (h : canB l kind at_ k = false) : NearestF l kind at_ k = [] := by unfold NearestF; rw [h]; rfl
theorem NearestF_ok {l : List It} {kind : Int} {at_ : List Int} {k : Int} (h : canB l kind at_ k = true) : NearestF l kind at_ k = nearestF l kind at_ k := by unfold NearestF; rw [h]; rfl
theorem sValidKind (k : Int) (w : World) : Calls Try.prog 82 #[.int .i64 k] w fun e w' => e = .returned (.bool (kindB k)) ∧ w = w' := by
  have K := hid (fun W => inRange k 1 4 W)
  rw [kindB_in] at K
  go_enter Try.func82, Try.ntmps82
  (go_wp2_with fail; (with_reducible refine (K.out _).mono ?_); rintro e w1 ⟨rfl, rfl⟩)
  go_wp2
  go_ret
  exact ⟨rfl, rfl⟩
theorem sValidQuery (l0 h0 : Nat) (A : Option Addr) (n c : Nat) (xs : List It) (l1 h1 : Nat) (A' : Option Addr) (n' c' : Nat) (at_ : List Int) (kind : Int) (w : World) (hx : RItems w l0 h0 A n c xs) (hy : RInts w l1 h1 A' n' c' at_) :
    Calls Try.prog 52 #[.slice A n c, .int .i64 kind, .slice A' n' c'] w fun e w' => e = .returned (.bool (queryB xs kind at_)) ∧ Chg No w w' := by
  have HX := hid hx; have HY := hid hy
  have K1 := hid (fun W (h : RItems W l0 h0 A n c xs) => sValidStore l0 h0 A n c xs W h)
  have K2 := hid (fun W => sValidKind kind W)
  have K3 := hid (fun W (h : RInts W l1 h1 A' n' c' at_) => sIsVector l1 h1 A' n' c' at_ W h)
  have HC := hid (show queryB xs kind at_ = (storeB xs && (kindB kind && vecB at_)) from rfl)
  generalize queryB xs kind at_ = q at *
  generalize storeB xs = q1 at *
  generalize kindB kind = q2 at *
  generalize vecB at_ = q3 at *
  clear hx hy
  cases q1 with
  | false =>
    have HF := hid (show q = false from by rw [HC.out]; rfl)
    go_enter Try.func52, Try.ntmps52
    (go_wp2_with fail; (with_reducible refine (K1.out _ HX.out).mono ?_); rintro e w1 ⟨rfl, hc1⟩)
    go_wp2
    go_ret
    exact ⟨by rw [HF.out]; rfl, by (repeat (first | (with_reducible exact Chg.refl _ _) | ((with_reducible refine Chg.setNew ?_ _ ?_); rotate_left; first | (dsimp only; omega) | (simp; done) | (simp; omega)) | (with_reducible refine Chg.alloc ?_ _) | (with_reducible refine Chg.drew ?_) | (with_reducible refine Chg.drewN ?_ _) | (with_reducible refine Chg.no ?_ (by assumption)) | (with_reducible refine Chg.and_ ?_ (by assumption)) | ((with_reducible refine Chg.at_ ?_ (by assumption) ?_); rotate_left; (try simp only [World.size_alloc]); omega)))⟩
  | true =>
    cases q2 with
    | false =>
      have HF := hid (show q = false from by rw [HC.out]; rfl)
      go_enter Try.func52, Try.ntmps52
      (go_wp2_with fail; (with_reducible refine (K1.out _ HX.out).mono ?_); rintro e w1 ⟨rfl, hc1⟩)
      (go_wp2_with fail; (with_reducible refine (K2.out _).mono ?_); rintro e w2 ⟨rfl, rfl⟩)
      go_wp2
      go_ret
      exact ⟨by rw [HF.out]; rfl, by (repeat (first | (with_reducible exact Chg.refl _ _) | ((with_reducible refine Chg.setNew ?_ _ ?_); rotate_left; first | (dsimp only; omega) | (simp; done) | (simp; omega)) | (with_reducible refine Chg.alloc ?_ _) | (with_reducible refine Chg.drew ?_) | (with_reducible refine Chg.drewN ?_ _) | (with_reducible refine Chg.no ?_ (by assumption)) | (with_reducible refine Chg.and_ ?_ (by assumption)) | ((with_reducible refine Chg.at_ ?_ (by assumption) ?_); rotate_left; (try simp only [World.size_alloc]); omega)))⟩
    | true =>
      have HF := hid (show q = q3 from by rw [HC.out]; rfl)
      go_enter Try.func52, Try.ntmps52
      (go_wp2_with fail; (with_reducible refine (K1.out _ HX.out).mono ?_); rintro e w1 ⟨rfl, hc1⟩)
      (go_wp2_with fail; (with_reducible refine (K2.out _).mono ?_); rintro e w2 ⟨rfl, rfl⟩)
      (go_wp2_with fail; (with_reducible refine (K3.out _ (HY.out.no hc1)).mono ?_); rintro e w3 ⟨rfl, rfl⟩)
      go_wp2
      go_ret
      exact ⟨by rw [HF.out]; rfl, by (repeat (first | (with_reducible exact Chg.refl _ _) | ((with_reducible refine Chg.setNew ?_ _ ?_); rotate_left; first | (dsimp only; omega) | (simp; done) | (simp; omega)) | (with_reducible refine Chg.alloc ?_ _) | (with_reducible refine Chg.drew ?_) | (with_reducible refine Chg.drewN ?_ _) | (with_reducible refine Chg.no ?_ (by assumption)) | (with_reducible refine Chg.and_ ?_ (by assumption)) | ((with_reducible refine Chg.at_ ?_ (by assumption) ?_); rotate_left; (try simp only [World.size_alloc]); omega)))⟩
set_option maxHeartbeats 1000000 in
theorem sNEAREST (l0 h0 : Nat) (A : Option Addr) (n c : Nat) (xs : List It) (l1 h1 : Nat) (A' : Option Addr) (n' c' : Nat) (at_ : List Int) (kind k : Int) (w : World) (hx : RItems w l0 h0 A n c xs) (hy : RInts w l1 h1 A' n' c' at_) :
    Calls Try.prog 14 #[.slice A n c, .int .i64 kind, .slice A' n' c', .int .i64 k] w (RetHits (NearestF xs kind at_ k) w) := by
  have HX := hid hx; have HY := hid hy
  have K1 := hid (fun W (h : RItems W l0 h0 A n c xs) (h2 : RInts W l1 h1 A' n' c' at_) => sValidQuery l0 h0 A n c xs l1 h1 A' n' c' at_ kind W h h2)
  have hcq := canB_query xs kind at_ k
  cases hq : queryB xs kind at_ with
  | false =>
    rw [hq] at K1 hcq
    have HF := hid (NearestF_no hcq)
    clear hq hcq hx hy
    go_enter Try.func14, Try.ntmps14
    (go_wp2_with fail; (with_reducible refine (K1.out _ HX.out HY.out).mono ?_); rintro e w1 ⟨rfl, hc1⟩)
    go_wp2
    go_ret
    exact ⟨_, rfl, by rw [HF.out]; exact OSl.nil_ _, by (repeat (first | (with_reducible exact Chg.refl _ _) | ((with_reducible refine Chg.setNew ?_ _ ?_); rotate_left; first | (dsimp only; omega) | (simp; done) | (simp; omega)) | (with_reducible refine Chg.alloc ?_ _) | (with_reducible refine Chg.drew ?_) | (with_reducible refine Chg.drewN ?_ _) | (with_reducible refine Chg.no ?_ (by assumption)) | (with_reducible refine Chg.and_ ?_ (by assumption)) | ((with_reducible refine Chg.at_ ?_ (by assumption) ?_); rotate_left; (try simp only [World.size_alloc]); omega)))⟩
  | true =>
    cases hr : inB k 1 16 with
    | false =>
      have K2 := hid (fun W => inRange k 1 16 W)
      rw [hq, hr] at hcq
      rw [hq] at K1
      rw [hr] at K2
      have HF := hid (NearestF_no hcq)
      clear hq hr hcq hx hy
      go_enter Try.func14, Try.ntmps14
      (go_wp2_with fail; (with_reducible refine (K1.out _ HX.out HY.out).mono ?_); rintro e w1 ⟨rfl, hc1⟩)
      (go_wp2_with fail; (with_reducible refine (K2.out _).mono ?_); rintro e w2 ⟨rfl, rfl⟩)
      go_wp2
      go_ret
      exact ⟨_, rfl, by rw [HF.out]; exact OSl.nil_ _, by (repeat (first | (with_reducible exact Chg.refl _ _) | ((with_reducible refine Chg.setNew ?_ _ ?_); rotate_left; first | (dsimp only; omega) | (simp; done) | (simp; omega)) | (with_reducible refine Chg.alloc ?_ _) | (with_reducible refine Chg.drew ?_) | (with_reducible refine Chg.drewN ?_ _) | (with_reducible refine Chg.no ?_ (by assumption)) | (with_reducible refine Chg.and_ ?_ (by assumption)) | ((with_reducible refine Chg.at_ ?_ (by assumption) ?_); rotate_left; (try simp only [World.size_alloc]); omega)))⟩
    | true =>
      have K2 := hid (fun W => inRange k 1 16 W)
      rw [hq, hr] at hcq
      rw [hr] at K2
      have hC := queryB_can hq
      have hk := of_decide_eq_true hr
      rw [hq] at K1
      have HF := hid (NearestF_ok hcq)
      have hn16 : n ≤ 16 := by have := hx.len; have := storeB_len hC.store; omega
      have K3 := hid (fun W (h : RItems W l0 h0 A n c xs) (h2 : RInts W l1 h1 A' n' c' at_) => sNearest l0 h0 A n c xs l1 h1 A' n' c' at_ kind k W h h2 (by omega) hC.each hC.vec hC.kind1 hC.kind4 (by omega) (by omega))
      clear hq hr hcq hx hy hC hk
      go_enter Try.func14, Try.ntmps14
      (go_wp2_with fail; (with_reducible refine (K1.out _ HX.out HY.out).mono ?_); rintro e w1 ⟨rfl, hc1⟩)
      (go_wp2_with fail; (with_reducible refine (K2.out _).mono ?_); rintro e w2 ⟨rfl, rfl⟩)
      (go_wp2_with fail; (with_reducible refine (K3.out _ (HX.out.no hc1) (HY.out.no hc1)).mono ?_); rintro e w3 ⟨v3, rfl, ho3, hc3⟩)
      have s1 := hc1.size
      have HO := hid (OSl.down ho3 (base' := w.heap.size) s1)
      clear ho3
      go_wp2
      go_ret
      exact ⟨_, rfl, by rw [HF.out]; exact HO.out, hc1.no hc3⟩
set_option maxHeartbeats 1000000 in
theorem iNEAREST (l0 h0 : Nat) (A : Option Addr) (n c : Nat) (xs : List It) (l1 h1 : Nat) (A' : Option Addr) (n' c' : Nat) (at_ : List Int) (kind k : Int) (w : World) (hx : RItems w l0 h0 A n c xs) (hy : RInts w l1 h1 A' n' c' at_) :
    Calls Try.prog 12 #[.slice A n c, .int .i64 kind, .slice A' n' c', .int .i64 k] w (RetHits (NearestF xs kind at_ k) w) := by
  have HX := hid hx; have HY := hid hy
  have K1 := hid (fun W (h : RItems W l0 h0 A n c xs) (h2 : RInts W l1 h1 A' n' c' at_) => iCanFind l0 h0 A n c xs l1 h1 A' n' c' at_ kind k W h h2)
  cases hq : canB xs kind at_ k with
  | false =>
    rw [hq] at K1
    have HF := hid (NearestF_no hq)
    clear hq hx hy
    go_enter Try.func12, Try.ntmps12
    (go_wp2_with fail; (with_reducible refine (K1.out _ HX.out HY.out).mono ?_); rintro e w1 ⟨rfl, hc1⟩)
    go_wp2
    go_ret
    exact ⟨_, rfl, by rw [HF.out]; exact OSl.nil_ _, by (repeat (first | (with_reducible exact Chg.refl _ _) | ((with_reducible refine Chg.setNew ?_ _ ?_); rotate_left; first | (dsimp only; omega) | (simp; done) | (simp; omega)) | (with_reducible refine Chg.alloc ?_ _) | (with_reducible refine Chg.drew ?_) | (with_reducible refine Chg.drewN ?_ _) | (with_reducible refine Chg.no ?_ (by assumption)) | (with_reducible refine Chg.and_ ?_ (by assumption)) | ((with_reducible refine Chg.at_ ?_ (by assumption) ?_); rotate_left; (try simp only [World.size_alloc]); omega)))⟩
  | true =>
    obtain ⟨hC, hk1, hk2⟩ := canB_can hq
    rw [hq] at K1
    have HF := hid (NearestF_ok hq)
    have hn16 : n ≤ 16 := by have := hx.len; have := storeB_len hC.store; omega
    have K3 := hid (fun W (h : RItems W l0 h0 A n c xs) (h2 : RInts W l1 h1 A' n' c' at_) => iNearest l0 h0 A n c xs l1 h1 A' n' c' at_ kind k W h h2 (by omega) hC.each hC.vec hC.kind1 hC.kind4 (by omega) (by omega))
    clear hq hx hy hC hk1 hk2
    go_enter Try.func12, Try.ntmps12
    (go_wp2_with fail; (with_reducible refine (K1.out _ HX.out HY.out).mono ?_); rintro e w1 ⟨rfl, hc1⟩)
    (go_wp2_with fail; (with_reducible refine (K3.out _ (HX.out.no hc1) (HY.out.no hc1)).mono ?_); rintro e w3 ⟨v3, rfl, ho3, hc3⟩)
    have s1 := hc1.size
    have HO := hid (OSl.down ho3 (base' := w.heap.size) s1)
    clear ho3
    go_wp2
    go_ret
    exact ⟨_, rfl, by rw [HF.out]; exact HO.out, hc1.no hc3⟩
set_option maxHeartbeats 1000000 in
theorem iDISTANCE (l0 h0 l1 h1 : Nat) (A A' : Option Addr) (n c n' c' : Nat) (a b : List Int) (kind : Int) (w : World) (ha : RInts w l0 h0 A n c a) (hb : RInts w l1 h1 A' n' c' b) (hva : vecB a = true) (hvb : vecB b = true) (hk1 : 1 ≤ kind) (hk4 : kind ≤ 4) :
    Calls Try.prog 31 #[.int .i64 kind, .slice A n c, .slice A' n' c'] w fun e w' => e = .returned (.int .i64 (distF kind a b)) ∧ Chg No w w' := by
  have HA := hid ha; have HB := hid hb
  have K1 := hid (fun W => iIsKind kind W)
  have K2 := hid (fun W (h : RInts W l0 h0 A n c a) => iIsVec4 l0 h0 A n c a W h)
  have K3 := hid (fun W (h : RInts W l1 h1 A' n' c' b) => iIsVec4 l1 h1 A' n' c' b W h)
  have hn : a.length = n := ha.len
  have hn' : b.length = n' := hb.len
  have h4 := vecB_len hva
  have h4' := vecB_len hvb
  have K4 := hid (fun W (h : RInts W l0 h0 A n c a) (h2 : RInts W l1 h1 A' n' c' b) => iDistance l0 h0 l1 h1 A A' n c n' c' a b kind W h h2 (by omega) (by omega) (vecB_small hva) (vecB_small hvb) hk1 hk4)
  rw [show kindB kind = true from by unfold kindB; rw [decide_eq_true ⟨hk1, hk4⟩]] at K1
  rw [hva] at K2
  rw [hvb] at K3
  clear ha hb hva hvb h4 h4' hn hn'
  go_enter Try.func31, Try.ntmps31
  (go_wp2_with fail; (with_reducible refine (K1.out _).mono ?_); rintro e w1 ⟨rfl, rfl⟩)
  (go_wp2_with fail; (with_reducible refine (K2.out _ HA.out).mono ?_); rintro e w2 ⟨rfl, rfl⟩)
  (go_wp2_with fail; (with_reducible refine (K3.out _ HB.out).mono ?_); rintro e w3 ⟨rfl, rfl⟩)
  (go_wp2_with fail; (with_reducible refine (K4.out _ HA.out HB.out).mono ?_); rintro e w4 ⟨rfl, hc4⟩)
  go_wp2
  go_ret
  exact ⟨rfl, hc4⟩
theorem filt_snoc {α : Type} (p : α → Bool) {l : List α} {k : Nat} {x : α} (h : l[k]? = some x) : (l.take (k + 1)).filter p = (l.take k).filter p ++ (if p x = true then [x] else []) := by
  rw [take_snoc h, List.filter_append]
  congr 1
  rw [List.filter_cons]
  split <;> rfl
/-- the near enough ones, of valid arguments -/
def WithinF (l : List It) (kind : Int) (at_ : List Int) (most : Int) : List (Int × Int) := if (queryB l kind at_ && decide (0 ≤ most)) = true then withinL l kind at_ most else []
theorem WithinF_no {l : List It} {kind : Int} {at_ : List Int} {k : Int} (h : (queryB l kind at_ && decide (0 ≤ k)) = false) : WithinF l kind at_ k = [] := by unfold WithinF; rw [h]; rfl
theorem WithinF_ok {l : List It} {kind : Int} {at_ : List Int} {k : Int} (h : (queryB l kind at_ && decide (0 ≤ k)) = true) : WithinF l kind at_ k = withinL l kind at_ k := by unfold WithinF; rw [h]; rfl
theorem canB_one (l : List It) (kind : Int) (at_ : List Int) : canB l kind at_ 1 = queryB l kind at_ := by
  rw [canB_query]; unfold inB; simp
set_option maxHeartbeats 2000000 in
theorem iWithinDist (l0 h0 : Nat) (A : Option Addr) (n c : Nat) (xs : List It) (l1 h1 : Nat) (A' : Option Addr) (n' c' : Nat) (at_ : List Int) (kind most : Int) (w : World) (hx : RItems w l0 h0 A n c xs) (hy : RInts w l1 h1 A' n' c' at_) :
    Calls Try.prog 36 #[.slice A n c, .int .i64 kind, .slice A' n' c', .int .i64 most] w (RetHits (WithinF xs kind at_ most) w) := by
  have hnc := hx.le; have hcm := hx.cap
  have HX := hid hx; have HY := hid hy
  have K1 := hid (fun W (h : RItems W l0 h0 A n c xs) (h2 : RInts W l1 h1 A' n' c' at_) => iCanFind l0 h0 A n c xs l1 h1 A' n' c' at_ kind 1 W h h2)
  rw [canB_one] at K1
  cases hq : queryB xs kind at_ with
  | false =>
    rw [hq] at K1
    have HF := hid (WithinF_no (k := most) (by rw [hq]; rfl))
    clear hq hx hy
    go_enter Try.func36, Try.ntmps36
    (go_wp2_with fail; (with_reducible refine (K1.out _ HX.out HY.out).mono ?_); rintro e w1 ⟨rfl, hc1⟩)
    go_wp2
    go_ret
    exact ⟨_, rfl, by rw [HF.out]; exact OSl.nil_ _, by (repeat (first | (with_reducible exact Chg.refl _ _) | ((with_reducible refine Chg.setNew ?_ _ ?_); rotate_left; first | (dsimp only; omega) | (simp; done) | (simp; omega)) | (with_reducible refine Chg.alloc ?_ _) | (with_reducible refine Chg.drew ?_) | (with_reducible refine Chg.drewN ?_ _) | (with_reducible refine Chg.no ?_ (by assumption)) | (with_reducible refine Chg.and_ ?_ (by assumption)) | ((with_reducible refine Chg.at_ ?_ (by assumption) ?_); rotate_left; (try simp only [World.size_alloc]); omega)))⟩
  | true =>
    by_cases h00 : most < 0
    · have HF := hid (WithinF_no (k := most) (by rw [hq, decide_eq_false (by omega)]; rfl))
      have j1 : decide (most < 0) = true := decide_eq_true h00
      rw [hq] at K1
      clear hq hx hy
      go_enter Try.func36, Try.ntmps36
      (go_wp2_with fail; (with_reducible refine (K1.out _ HX.out HY.out).mono ?_); rintro e w1 ⟨rfl, hc1⟩)
      go_wp2
      go_ret
      exact ⟨_, rfl, by rw [HF.out]; exact OSl.nil_ _, by (repeat (first | (with_reducible exact Chg.refl _ _) | ((with_reducible refine Chg.setNew ?_ _ ?_); rotate_left; first | (dsimp only; omega) | (simp; done) | (simp; omega)) | (with_reducible refine Chg.alloc ?_ _) | (with_reducible refine Chg.drew ?_) | (with_reducible refine Chg.drewN ?_ _) | (with_reducible refine Chg.no ?_ (by assumption)) | (with_reducible refine Chg.and_ ?_ (by assumption)) | ((with_reducible refine Chg.at_ ?_ (by assumption) ?_); rotate_left; (try simp only [World.size_alloc]); omega)))⟩
    · have HF := hid (WithinF_ok (k := most) (by rw [hq, decide_eq_true (by omega)]; rfl))
      have j1 : decide (most < 0) = false := decide_eq_false h00
      have hC := queryB_can hq
      have hxl : xs.length = n := hx.len
      have hn16 : n ≤ 16 := by have := storeB_len hC.store; omega
      have K3 := hid (fun W (h : RItems W l0 h0 A n c xs) (h2 : RInts W l1 h1 A' n' c' at_) => iNearest l0 h0 A n c xs l1 h1 A' n' c' at_ kind n W h h2 (by omega) hC.each hC.vec hC.kind1 hC.kind4 (by omega) (by omega))
      rw [near_all (by omega)] at K3
      obtain ⟨S, hS⟩ : ∃ S, insAll (hitsOf kind at_ xs) = S := ⟨_, rfl⟩
      have hSl : S.length ≤ 16 := by rw [← hS, (insAll_perm _).length_eq, hitsOf_length]; omega
      have HS := hid (show S.filter (fun h => decide (h.2 ≤ most)) = withinL xs kind at_ most from by unfold withinL; rw [hS])
      rw [hS] at K3
      rw [hq] at K1
      clear hq hx hy hC hxl hS
      go_enter Try.func36, Try.ntmps36
      (go_wp2_with fail; (with_reducible refine (K1.out _ HX.out HY.out).mono ?_); rintro e w1 ⟨rfl, hc1⟩)
      have s1 := hc1.size
      have HA0 := hid (OSl.lit (T := 51) (sz := 2) (enc := cHit) (w := w1.alloc (.cells #[] 51)) (base := w1.heap.size) (n := 0) [] [] (fun _ => rfl) rfl rfl (by omega) (Nat.le_refl _) (heap_top rfl))
      have hcB : Chg No w (w1.alloc (.cells #[] 51)) := by (repeat (first | (with_reducible exact Chg.refl _ _) | ((with_reducible refine Chg.setNew ?_ _ ?_); rotate_left; first | (dsimp only; omega) | (simp; done) | (simp; omega)) | (with_reducible refine Chg.alloc ?_ _) | (with_reducible refine Chg.drew ?_) | (with_reducible refine Chg.drewN ?_ _) | (with_reducible refine Chg.no ?_ (by assumption)) | (with_reducible refine Chg.and_ ?_ (by assumption)) | ((with_reducible refine Chg.at_ ?_ (by assumption) ?_); rotate_left; (try simp only [World.size_alloc]); omega)))
      (go_wp2_with fail; (with_reducible refine (K3.out _ (HX.out.no hcB) (HY.out.no hcB)).mono ?_); rintro e w3 ⟨v3, rfl, ho3, hc3⟩)
      obtain ⟨A3, c3, rfl, hr3⟩ := OHits.read ho3
      have hp3 := hr3.cap; have hq3 := hr3.le
      have HR := hid hr3
      have HO0 := hid (OSl.no HA0.out hc3)
      have HCW := hid (hcB.no hc3)
      have s3 := hc3.size
      simp only [World.size_alloc] at s3
      have HB0 := hid (show ∀ k, (Value.slice (some ⟨w1.heap.size, 0, none⟩) 0 0).ownBlock = some k → k = w1.heap.size ∨ w3.heap.size ≤ k from fun k hk => by injection hk with hk; exact Or.inl hk.symm)
      clear ho3 hr3 HA0
      simp only [World.size_alloc] at HR
      go_wp2
      go_loopw [9, 29] (fun v i wr => ∃ j : Nat, j ≤ S.length ∧ i = .int .i64 j ∧ Chg (fun k => k = w1.heap.size) w3 wr ∧ Hid (OHits wr w1.heap.size v ((S.take j).filter (fun h : Int × Int => decide (h.2 ≤ most)))) ∧ Hid (∀ k, v.ownBlock = some k → k = w1.heap.size ∨ w3.heap.size ≤ k)) (fun _ i _ => S.length - (intOf i).toNat)
      case atStart => exact ⟨0, Nat.zero_le _, rfl, Chg.refl _ _, HO0, HB0⟩
      case round =>
        clear HO0 HB0
        obtain ⟨j, hj, rfl, hc, HO, HB⟩ := hrel
        obtain ⟨wo, rfl⟩ : ∃ W : World, W = wr := ⟨_, rfl⟩
        have so := hc.size
        by_cases hlt : j < S.length
        · obtain ⟨b, o, x, rfl, _, _, hxk, hE⟩ := (HR.out.keep hc (fun k h1 h2 (h3 : k = w1.heap.size) => by omega)).at_ hlt
          obtain ⟨x1, x2⟩ := x
          have f1 : wo.cell? ⟨b, o + j * 2, none⟩ = some (.int .i64 x1) := hE.1
          have f2 : wo.cell? ⟨b, o + j * 2 + 1, none⟩ = some (.int .i64 x2) := hE.2
          have HD := hid (filt_snoc (fun h : Int × Int => decide (h.2 ≤ most)) hxk)
          have hl := List.length_filter_le (fun h : Int × Int => decide (h.2 ≤ most)) (S.take j)
          rw [List.length_take] at hl
          generalize (S.take j).filter (fun h : Int × Int => decide (h.2 ≤ most)) = L at *
          obtain ⟨A9, c9, hv9, hr9⟩ := OHits.read HO.out
          subst hv9
          have hp9 := hr9.cap; have hq9 := hr9.le
          clear hxk hE hr9
          by_cases hd : x2 ≤ most
          · have hd' : decide (x2 ≤ most) = true := decide_eq_true hd
            have HD2 := HD.out
            rw [if_pos hd'] at HD2
            have HD3 := hid HD2
            clear HD HD2
            have HH := hid (OSl.alloc (OSl.alloc HO.out (.cells #[.int .i64 x1, .int .i64 x2] 51)) (.cells #[.int .i64 x1, .int .i64 x2] 51)); have HX1 := hid (Src.one (sz := 2) (enc := cHit) (y := (x1, x2)) (Box.new (w := wo.alloc (.cells #[.int .i64 x1, .int .i64 x2] 51)) (g := wo.heap.size + 1) [.int .i64 x1, .int .i64 x2] 51 (by simp)) rfl)
            go_wp2_with (at_builtin; refine wpList_push _ rfl _ _ 27 rfl 51 2 16 (.agg #[.int .i64 0, .int .i64 0]) cHit Try.underlying27 infoHit rfl (by omega) (by omega) (fun _ => rfl) oneHit (w1.heap.size) _ L rfl HH.out _ 1 1 [(x1, x2)] rfl HX1.out (by omega) (by simp; omega) ?_; intro v' w6 ho hg2 hb2)
            have hc7 : Chg (fun k => k = w1.heap.size) w3 w6 := Chg.grown ((hc.alloc _).alloc _) hg2 (fun k hk hlt => by
              rcases HB.out k hk with h | h
              · exact h
              · omega)
            have HB7 : Hid (∀ k, v'.ownBlock = some k → k = w1.heap.size ∨ w3.heap.size ≤ k) := fun k hk => by
              rcases hb2 k hk with h | h
              · exact HB.out k h
              · simp only [World.size_alloc] at h; exact Or.inr (by omega)
            have HO5 : Hid (OHits w6 (w1.heap.size) v' ((S.take (j + 1)).filter (fun h : Int × Int => decide (h.2 ≤ most)))) := by show OHits _ _ _ _; rw [HD3.out]; exact ho
            clear ho hg2 hb2 HX1 HH HO HB
            go_wp2
            go_roundw
            case rel => exact ⟨j + 1, by omega, by go_num, hc7, HO5, HB7⟩
            case measure => simp [intOf]; omega
          · have hd' : decide (x2 ≤ most) = false := decide_eq_false hd
            have hdl : most < x2 := by omega
            have HD2 := HD.out
            rw [if_neg (by rw [hd']; simp), List.append_nil] at HD2
            have HD3 := hid HD2
            clear HD HD2
            have h9 := OSl.alloc HO.out (.cells #[.int .i64 x1, .int .i64 x2] 51)
            have HO5 := hid (Eq.mp (congrArg (fun l => OSl 51 2 cHit _ _ (.slice A9 L.length c9) l) HD3.out.symm) h9)
            clear HO h9
            go_wp2
            go_roundw
            case rel => exact ⟨j + 1, by omega, by go_num, by (repeat (first | (with_reducible exact Chg.refl _ _) | ((with_reducible refine Chg.setNew ?_ _ ?_); rotate_left; first | (dsimp only; omega) | (simp; done) | (simp; omega)) | (with_reducible refine Chg.alloc ?_ _) | (with_reducible refine Chg.drew ?_) | (with_reducible refine Chg.drewN ?_ _) | (with_reducible refine Chg.no ?_ (by assumption)) | (with_reducible refine Chg.and_ ?_ (by assumption)) | ((with_reducible refine Chg.at_ ?_ (by assumption) ?_); rotate_left; (try simp only [World.size_alloc]); omega))), HO5, HB⟩
            case measure => simp [intOf]; omega
        · have h9 := HO.out
          rw [List.take_of_length_le (by omega)] at h9
          have HO5 := hid (OSl.down h9 (base' := w.heap.size) (by omega))
          clear HO h9
          go_wp2
          go_ret
          exact ⟨_, rfl, by rw [HF.out, ← HS.out]; exact HO5.out, HCW.out.trans hc (fun i hi (h : i = w1.heap.size) => by omega)⟩
set_option maxHeartbeats 2000000 in
theorem sWithinDist (l0 h0 : Nat) (A : Option Addr) (n c : Nat) (xs : List It) (l1 h1 : Nat) (A' : Option Addr) (n' c' : Nat) (at_ : List Int) (kind most : Int) (w : World) (hx : RItems w l0 h0 A n c xs) (hy : RInts w l1 h1 A' n' c' at_) :
    Calls Try.prog 37 #[.slice A n c, .int .i64 kind, .slice A' n' c', .int .i64 most] w (RetHits (WithinF xs kind at_ most) w) := by
  have hnc := hx.le; have hcm := hx.cap
  have HX := hid hx; have HY := hid hy
  have K1 := hid (fun W (h : RItems W l0 h0 A n c xs) (h2 : RInts W l1 h1 A' n' c' at_) => sValidQuery l0 h0 A n c xs l1 h1 A' n' c' at_ kind W h h2)
  cases hq : queryB xs kind at_ with
  | false =>
    rw [hq] at K1
    have HF := hid (WithinF_no (k := most) (by rw [hq]; rfl))
    clear hq hx hy
    go_enter Try.func37, Try.ntmps37
    (go_wp2_with fail; (with_reducible refine (K1.out _ (HX.out.no (by (repeat (first | (with_reducible exact Chg.refl _ _) | ((with_reducible refine Chg.setNew ?_ _ ?_); rotate_left; first | (dsimp only; omega) | (simp; done) | (simp; omega)) | (with_reducible refine Chg.alloc ?_ _) | (with_reducible refine Chg.drew ?_) | (with_reducible refine Chg.drewN ?_ _) | (with_reducible refine Chg.no ?_ (by assumption)) | (with_reducible refine Chg.and_ ?_ (by assumption)) | ((with_reducible refine Chg.at_ ?_ (by assumption) ?_); rotate_left; (try simp only [World.size_alloc]); omega))))) (HY.out.no (by (repeat (first | (with_reducible exact Chg.refl _ _) | ((with_reducible refine Chg.setNew ?_ _ ?_); rotate_left; first | (dsimp only; omega) | (simp; done) | (simp; omega)) | (with_reducible refine Chg.alloc ?_ _) | (with_reducible refine Chg.drew ?_) | (with_reducible refine Chg.drewN ?_ _) | (with_reducible refine Chg.no ?_ (by assumption)) | (with_reducible refine Chg.and_ ?_ (by assumption)) | ((with_reducible refine Chg.at_ ?_ (by assumption) ?_); rotate_left; (try simp only [World.size_alloc]); omega)))))).mono ?_); rintro e w1 ⟨rfl, hc1⟩)
    go_wp2
    go_ret
    exact ⟨_, rfl, by rw [HF.out]; exact OSl.nil_ _, by (repeat (first | (with_reducible exact Chg.refl _ _) | ((with_reducible refine Chg.setNew ?_ _ ?_); rotate_left; first | (dsimp only; omega) | (simp; done) | (simp; omega)) | (with_reducible refine Chg.alloc ?_ _) | (with_reducible refine Chg.drew ?_) | (with_reducible refine Chg.drewN ?_ _) | (with_reducible refine Chg.no ?_ (by assumption)) | (with_reducible refine Chg.and_ ?_ (by assumption)) | ((with_reducible refine Chg.at_ ?_ (by assumption) ?_); rotate_left; (try simp only [World.size_alloc]); omega)))⟩
  | true =>
    by_cases h00 : most < 0
    · have HF := hid (WithinF_no (k := most) (by rw [hq, decide_eq_false (by omega)]; rfl))
      have j1 : decide (most < 0) = true := decide_eq_true h00
      rw [hq] at K1
      clear hq hx hy
      go_enter Try.func37, Try.ntmps37
      (go_wp2_with fail; (with_reducible refine (K1.out _ (HX.out.no (by (repeat (first | (with_reducible exact Chg.refl _ _) | ((with_reducible refine Chg.setNew ?_ _ ?_); rotate_left; first | (dsimp only; omega) | (simp; done) | (simp; omega)) | (with_reducible refine Chg.alloc ?_ _) | (with_reducible refine Chg.drew ?_) | (with_reducible refine Chg.drewN ?_ _) | (with_reducible refine Chg.no ?_ (by assumption)) | (with_reducible refine Chg.and_ ?_ (by assumption)) | ((with_reducible refine Chg.at_ ?_ (by assumption) ?_); rotate_left; (try simp only [World.size_alloc]); omega))))) (HY.out.no (by (repeat (first | (with_reducible exact Chg.refl _ _) | ((with_reducible refine Chg.setNew ?_ _ ?_); rotate_left; first | (dsimp only; omega) | (simp; done) | (simp; omega)) | (with_reducible refine Chg.alloc ?_ _) | (with_reducible refine Chg.drew ?_) | (with_reducible refine Chg.drewN ?_ _) | (with_reducible refine Chg.no ?_ (by assumption)) | (with_reducible refine Chg.and_ ?_ (by assumption)) | ((with_reducible refine Chg.at_ ?_ (by assumption) ?_); rotate_left; (try simp only [World.size_alloc]); omega)))))).mono ?_); rintro e w1 ⟨rfl, hc1⟩)
      go_wp2
      go_ret
      exact ⟨_, rfl, by rw [HF.out]; exact OSl.nil_ _, by (repeat (first | (with_reducible exact Chg.refl _ _) | ((with_reducible refine Chg.setNew ?_ _ ?_); rotate_left; first | (dsimp only; omega) | (simp; done) | (simp; omega)) | (with_reducible refine Chg.alloc ?_ _) | (with_reducible refine Chg.drew ?_) | (with_reducible refine Chg.drewN ?_ _) | (with_reducible refine Chg.no ?_ (by assumption)) | (with_reducible refine Chg.and_ ?_ (by assumption)) | ((with_reducible refine Chg.at_ ?_ (by assumption) ?_); rotate_left; (try simp only [World.size_alloc]); omega)))⟩
    · have HF := hid (WithinF_ok (k := most) (by rw [hq, decide_eq_true (by omega)]; rfl))
      have j1 : decide (most < 0) = false := decide_eq_false h00
      have hC := queryB_can hq
      have hxl : xs.length = n := hx.len
      have hn16 : n ≤ 16 := by have := storeB_len hC.store; omega
      have K3 := hid (fun W (h : RItems W l0 h0 A n c xs) (h2 : RInts W l1 h1 A' n' c' at_) => sNearest l0 h0 A n c xs l1 h1 A' n' c' at_ kind 16 W h h2 (by omega) hC.each hC.vec hC.kind1 hC.kind4 (by omega) (by omega))
      rw [near_all (by omega)] at K3
      obtain ⟨S, hS⟩ : ∃ S, insAll (hitsOf kind at_ xs) = S := ⟨_, rfl⟩
      have hSl : S.length ≤ 16 := by rw [← hS, (insAll_perm _).length_eq, hitsOf_length]; omega
      have HS := hid (show S.filter (fun h => decide (h.2 ≤ most)) = withinL xs kind at_ most from by unfold withinL; rw [hS])
      rw [hS] at K3
      rw [hq] at K1
      have HA0 := hid (OSl.lit (T := 51) (sz := 2) (enc := cHit) (w := w.alloc (.cells #[] 51)) (base := w.heap.size) (n := 0) [] [] (fun _ => rfl) rfl rfl (by omega) (Nat.le_refl _) (heap_top rfl))
      have HB1 := hid (show ∀ k, (Value.slice (some ⟨w.heap.size, 0, none⟩) 0 0).ownBlock = some k → k = w.heap.size from fun k hk => by injection hk with hk; exact hk.symm)
      clear hq hx hy hC hxl hS
      go_enter Try.func37, Try.ntmps37
      (go_wp2_with fail; (with_reducible refine (K1.out _ (HX.out.no (by (repeat (first | (with_reducible exact Chg.refl _ _) | ((with_reducible refine Chg.setNew ?_ _ ?_); rotate_left; first | (dsimp only; omega) | (simp; done) | (simp; omega)) | (with_reducible refine Chg.alloc ?_ _) | (with_reducible refine Chg.drew ?_) | (with_reducible refine Chg.drewN ?_ _) | (with_reducible refine Chg.no ?_ (by assumption)) | (with_reducible refine Chg.and_ ?_ (by assumption)) | ((with_reducible refine Chg.at_ ?_ (by assumption) ?_); rotate_left; (try simp only [World.size_alloc]); omega))))) (HY.out.no (by (repeat (first | (with_reducible exact Chg.refl _ _) | ((with_reducible refine Chg.setNew ?_ _ ?_); rotate_left; first | (dsimp only; omega) | (simp; done) | (simp; omega)) | (with_reducible refine Chg.alloc ?_ _) | (with_reducible refine Chg.drew ?_) | (with_reducible refine Chg.drewN ?_ _) | (with_reducible refine Chg.no ?_ (by assumption)) | (with_reducible refine Chg.and_ ?_ (by assumption)) | ((with_reducible refine Chg.at_ ?_ (by assumption) ?_); rotate_left; (try simp only [World.size_alloc]); omega)))))).mono ?_); rintro e w1 ⟨rfl, hc1⟩)
      have hcB : Chg No w w1 := by (repeat (first | (with_reducible exact Chg.refl _ _) | ((with_reducible refine Chg.setNew ?_ _ ?_); rotate_left; first | (dsimp only; omega) | (simp; done) | (simp; omega)) | (with_reducible refine Chg.alloc ?_ _) | (with_reducible refine Chg.drew ?_) | (with_reducible refine Chg.drewN ?_ _) | (with_reducible refine Chg.no ?_ (by assumption)) | (with_reducible refine Chg.and_ ?_ (by assumption)) | ((with_reducible refine Chg.at_ ?_ (by assumption) ?_); rotate_left; (try simp only [World.size_alloc]); omega)))
      have s1 := hc1.size
      simp only [World.size_alloc] at s1
      (go_wp2_with fail; (with_reducible refine (K3.out _ (HX.out.no hcB) (HY.out.no hcB)).mono ?_); rintro e w3 ⟨v3, rfl, ho3, hc3⟩)
      obtain ⟨A3, c3, rfl, hr3⟩ := OHits.read ho3
      have hp3 := hr3.cap; have hq3 := hr3.le
      have HR := hid hr3
      have HO0 := hid (OSl.no (OSl.no HA0.out hc1) hc3)
      have HCW := hid (hcB.no hc3)
      have s3 := hc3.size
      have HB0 := hid (show ∀ k, (Value.slice (some ⟨w.heap.size, 0, none⟩) 0 0).ownBlock = some k → k = w.heap.size ∨ w3.heap.size ≤ k from fun k hk => Or.inl (HB1.out k hk))
      clear ho3 hr3 HA0
      go_wp2
      go_loopw [9, 11] (fun v i wr => ∃ j : Nat, j ≤ S.length ∧ i = .int .i64 j ∧ Chg (fun k => k = w.heap.size) w3 wr ∧ Hid (OHits wr w.heap.size v ((S.take j).filter (fun h : Int × Int => decide (h.2 ≤ most)))) ∧ Hid (∀ k, v.ownBlock = some k → k = w.heap.size ∨ w3.heap.size ≤ k)) (fun _ i _ => S.length - (intOf i).toNat)
      case atStart => exact ⟨0, Nat.zero_le _, rfl, Chg.refl _ _, HO0, HB0⟩
      case round =>
        clear HO0 HB0
        obtain ⟨j, hj, rfl, hc, HO, HB⟩ := hrel
        obtain ⟨wo, rfl⟩ : ∃ W : World, W = wr := ⟨_, rfl⟩
        have so := hc.size
        by_cases hlt : j < S.length
        · obtain ⟨b, o, x, rfl, _, _, hxk, hE⟩ := (HR.out.keep hc (fun k h1 h2 (h3 : k = w.heap.size) => by omega)).at_ hlt
          obtain ⟨x1, x2⟩ := x
          have f1 : wo.cell? ⟨b, o + j * 2, none⟩ = some (.int .i64 x1) := hE.1
          have f2 : wo.cell? ⟨b, o + j * 2 + 1, none⟩ = some (.int .i64 x2) := hE.2
          have HD := hid (filt_snoc (fun h : Int × Int => decide (h.2 ≤ most)) hxk)
          have hl := List.length_filter_le (fun h : Int × Int => decide (h.2 ≤ most)) (S.take j)
          rw [List.length_take] at hl
          generalize (S.take j).filter (fun h : Int × Int => decide (h.2 ≤ most)) = L at *
          obtain ⟨A9, c9, hv9, hr9⟩ := OHits.read HO.out
          subst hv9
          have hp9 := hr9.cap; have hq9 := hr9.le
          clear hxk hE hr9
          by_cases hd : x2 ≤ most
          · have hd' : decide (x2 ≤ most) = true := decide_eq_true hd
            have HD2 := HD.out
            rw [if_pos hd'] at HD2
            have HD3 := hid HD2
            clear HD HD2
            have HH := hid (OSl.alloc HO.out (.cells #[.int .i64 x1, .int .i64 x2] 51)); have HX1 := hid (Src.one (sz := 2) (enc := cHit) (y := (x1, x2)) (Box.new (w := wo) [.int .i64 x1, .int .i64 x2] 51 rfl) rfl)
            go_wp2_with (at_builtin; refine wpList_push _ rfl _ _ 27 rfl 51 2 16 (.agg #[.int .i64 0, .int .i64 0]) cHit Try.underlying27 infoHit rfl (by omega) (by omega) (fun _ => rfl) oneHit (w.heap.size) _ L rfl HH.out _ 1 1 [(x1, x2)] rfl HX1.out (by omega) (by simp; omega) ?_; intro v' w6 ho hg2 hb2)
            have hc7 : Chg (fun k => k = w.heap.size) w3 w6 := Chg.grown (hc.alloc _) hg2 (fun k hk hlt => by
              rcases HB.out k hk with h | h
              · exact h
              · omega)
            have HB7 : Hid (∀ k, v'.ownBlock = some k → k = w.heap.size ∨ w3.heap.size ≤ k) := fun k hk => by
              rcases hb2 k hk with h | h
              · exact HB.out k h
              · simp only [World.size_alloc] at h; exact Or.inr (by omega)
            have HO5 : Hid (OHits w6 (w.heap.size) v' ((S.take (j + 1)).filter (fun h : Int × Int => decide (h.2 ≤ most)))) := by show OHits _ _ _ _; rw [HD3.out]; exact ho
            clear ho hg2 hb2 HX1 HH HO HB
            go_wp2
            go_roundw
            case rel => exact ⟨j + 1, by omega, by go_num, hc7, HO5, HB7⟩
            case measure => simp [intOf]; omega
          · have hd' : decide (x2 ≤ most) = false := decide_eq_false hd
            have hdl : most < x2 := by omega
            have HD2 := HD.out
            rw [if_neg (by rw [hd']; simp), List.append_nil] at HD2
            have HD3 := hid HD2
            clear HD HD2
            have h9 := HO.out
            have HO5 := hid (Eq.mp (congrArg (fun l => OSl 51 2 cHit _ _ (.slice A9 L.length c9) l) HD3.out.symm) h9)
            clear HO h9
            go_wp2
            go_roundw
            case rel => exact ⟨j + 1, by omega, by go_num, by (repeat (first | (with_reducible exact Chg.refl _ _) | ((with_reducible refine Chg.setNew ?_ _ ?_); rotate_left; first | (dsimp only; omega) | (simp; done) | (simp; omega)) | (with_reducible refine Chg.alloc ?_ _) | (with_reducible refine Chg.drew ?_) | (with_reducible refine Chg.drewN ?_ _) | (with_reducible refine Chg.no ?_ (by assumption)) | (with_reducible refine Chg.and_ ?_ (by assumption)) | ((with_reducible refine Chg.at_ ?_ (by assumption) ?_); rotate_left; (try simp only [World.size_alloc]); omega))), HO5, HB⟩
            case measure => simp [intOf]; omega
        · have h9 := HO.out
          rw [List.take_of_length_le (by omega)] at h9
          have HO5 := hid (OSl.down h9 (base' := w.heap.size) (by omega))
          clear HO h9
          go_wp2
          go_ret
          exact ⟨_, rfl, by rw [HF.out, ← HS.out]; exact HO5.out, HCW.out.trans hc (fun i hi (h : i = w.heap.size) => by omega)⟩
end Go.Proofs.Ytkglmhhihpofiaa
