/- FilterNearest: the program's and the reference's answer the same plain function; an item by its key. -/
import Derived.Test.YtkglmhhihpofiaaNearJ
import Derived.Test.YtkglmhhihpofiaaStoreF
import Derived.Test.YtkglmhhihpofiaaStoreG
namespace Go.Proofs.Ytkglmhhihpofiaa
open Go.RowKit Go.Shelf
set_option linter.unusedVariables false
set_option linter.unusedSimpArgs false
/-- the nearest ones that pass a filter -/
def FnearF (l : List It) (a b c kind : Int) (at_ : List Int) (k : Int) : List (Int × Int) := if (canB l kind at_ k && filterB a b c) = true then nearestF (l.filter fun x => passB a b c x.tags) kind at_ k else []
theorem FnearF_no {l : List It} {a b c kind : Int} {at_ : List Int} {k : Int} (h : (canB l kind at_ k && filterB a b c) = false) : FnearF l a b c kind at_ k = [] := by unfold FnearF; rw [h]; rfl
theorem FnearF_ok {l : List It} {a b c kind : Int} {at_ : List Int} {k : Int} (h : canB l kind at_ k = true) (h2 : filterB a b c = true) : FnearF l a b c kind at_ k = nearestF (l.filter fun x => passB a b c x.tags) kind at_ k := by unfold FnearF; rw [h, h2]; rfl
/-- of a valid store and filter: the nearest ones of the filtered store -/
theorem FnearF_store {l : List It} {a b c kind : Int} {at_ : List Int} {k : Int} (h : storeB l = true) (h2 : filterB a b c = true) : NearestF (filtF l a b c) kind at_ k = FnearF l a b c kind at_ k := by
  rw [filtF_ok h h2]
  have hs := storeB_filter h (fun x => passB a b c x.tags)
  have e : canB (l.filter fun x => passB a b c x.tags) kind at_ k = canB l kind at_ k := by unfold canB; rw [hs, h]
  cases hc : canB l kind at_ k with
  | false => rw [NearestF_no (e.trans hc), FnearF_no (by rw [hc]; rfl)]
  | true => rw [NearestF_ok (e.trans hc), FnearF_ok hc h2]
theorem FnearF_open {l : List It} {kind : Int} {at_ : List Int} {k : Int} : FnearF l 0 0 0 kind at_ k = NearestF l kind at_ k := by
  have hf : filterB 0 0 0 = true := by decide
  cases hc : canB l kind at_ k with
  | false => rw [NearestF_no hc, FnearF_no (by rw [hc]; rfl)]
  | true => rw [NearestF_ok hc, FnearF_ok hc hf, filter_open (canB_can hc).1.store]
set_option maxHeartbeats 2000000 in
theorem iFilterNearest (l0 h0 : Nat) (A : Option Addr) (n c : Nat) (xs : List It) (fa fb fc : Int) (l1 h1 : Nat) (A' : Option Addr) (n' c' : Nat) (at_ : List Int) (kind k : Int) (w : World) (hx : RItems w l0 h0 A n c xs) (hy : RInts w l1 h1 A' n' c' at_) :
    Calls Try.prog 21 #[.slice A n c, .agg #[.int .i64 fa, .int .i64 fb, .int .i64 fc], .int .i64 kind, .slice A' n' c', .int .i64 k] w (RetHits (FnearF xs fa fb fc kind at_ k) w) := by
  have HX := hid hx; have HY := hid hy
  have BX := hid (Box.new (w := w) [.int .i64 fa, .int .i64 fb, .int .i64 fc] 38 rfl)
  have K1 := hid (fun W (h : RItems W l0 h0 A n c xs) (h2 : RInts W l1 h1 A' n' c' at_) => iCanFind l0 h0 A n c xs l1 h1 A' n' c' at_ kind k W h h2)
  have K2 := hid (fun W => isFilter fa fb fc W)
  cases hq : canB xs kind at_ k with
  | false =>
    rw [hq] at K1
    have HF := hid (FnearF_no (a := fa) (b := fb) (c := fc) (by rw [hq]; rfl))
    clear hq hx hy
    go_enter Try.func21, Try.ntmps21
    (go_wp2_with fail; (with_reducible refine (K1.out _ (HX.out.no (by (repeat (first | (with_reducible exact Chg.refl _ _) | ((with_reducible refine Chg.setNew ?_ _ ?_); rotate_left; first | (dsimp only; omega) | (simp; done) | (simp; omega)) | (with_reducible refine Chg.alloc ?_ _) | (with_reducible refine Chg.drew ?_) | (with_reducible refine Chg.drewN ?_ _) | (with_reducible refine Chg.no ?_ (by assumption)) | (with_reducible refine Chg.and_ ?_ (by assumption)) | ((with_reducible refine Chg.at_ ?_ (by assumption) ?_); rotate_left; (try simp only [World.size_alloc]); omega))))) (HY.out.no (by (repeat (first | (with_reducible exact Chg.refl _ _) | ((with_reducible refine Chg.setNew ?_ _ ?_); rotate_left; first | (dsimp only; omega) | (simp; done) | (simp; omega)) | (with_reducible refine Chg.alloc ?_ _) | (with_reducible refine Chg.drew ?_) | (with_reducible refine Chg.drewN ?_ _) | (with_reducible refine Chg.no ?_ (by assumption)) | (with_reducible refine Chg.and_ ?_ (by assumption)) | ((with_reducible refine Chg.at_ ?_ (by assumption) ?_); rotate_left; (try simp only [World.size_alloc]); omega)))))).mono ?_); rintro e w1 ⟨rfl, hc1⟩)
    go_wp2
    go_ret
    exact ⟨_, rfl, by rw [HF.out]; exact OSl.nil_ _, by (repeat (first | (with_reducible exact Chg.refl _ _) | ((with_reducible refine Chg.setNew ?_ _ ?_); rotate_left; first | (dsimp only; omega) | (simp; done) | (simp; omega)) | (with_reducible refine Chg.alloc ?_ _) | (with_reducible refine Chg.drew ?_) | (with_reducible refine Chg.drewN ?_ _) | (with_reducible refine Chg.no ?_ (by assumption)) | (with_reducible refine Chg.and_ ?_ (by assumption)) | ((with_reducible refine Chg.at_ ?_ (by assumption) ?_); rotate_left; (try simp only [World.size_alloc]); omega)))⟩
  | true =>
    cases hf : filterB fa fb fc with
    | false =>
      rw [hq] at K1
      rw [hf] at K2
      have HF := hid (FnearF_no (a := fa) (b := fb) (c := fc) (by rw [hq, hf]; rfl))
      clear hq hf hx hy
      go_enter Try.func21, Try.ntmps21
      (go_wp2_with fail; (with_reducible refine (K1.out _ (HX.out.no (by (repeat (first | (with_reducible exact Chg.refl _ _) | ((with_reducible refine Chg.setNew ?_ _ ?_); rotate_left; first | (dsimp only; omega) | (simp; done) | (simp; omega)) | (with_reducible refine Chg.alloc ?_ _) | (with_reducible refine Chg.drew ?_) | (with_reducible refine Chg.drewN ?_ _) | (with_reducible refine Chg.no ?_ (by assumption)) | (with_reducible refine Chg.and_ ?_ (by assumption)) | ((with_reducible refine Chg.at_ ?_ (by assumption) ?_); rotate_left; (try simp only [World.size_alloc]); omega))))) (HY.out.no (by (repeat (first | (with_reducible exact Chg.refl _ _) | ((with_reducible refine Chg.setNew ?_ _ ?_); rotate_left; first | (dsimp only; omega) | (simp; done) | (simp; omega)) | (with_reducible refine Chg.alloc ?_ _) | (with_reducible refine Chg.drew ?_) | (with_reducible refine Chg.drewN ?_ _) | (with_reducible refine Chg.no ?_ (by assumption)) | (with_reducible refine Chg.and_ ?_ (by assumption)) | ((with_reducible refine Chg.at_ ?_ (by assumption) ?_); rotate_left; (try simp only [World.size_alloc]); omega)))))).mono ?_); rintro e w1 ⟨rfl, hc1⟩)
      have q1 := (BX.out.no hc1).f3
      (go_wp2_with fail; (with_reducible refine (K2.out _).mono ?_); rintro e w2 ⟨rfl, hc2⟩)
      go_wp2
      go_ret
      exact ⟨_, rfl, by rw [HF.out]; exact OSl.nil_ _, by (repeat (first | (with_reducible exact Chg.refl _ _) | ((with_reducible refine Chg.setNew ?_ _ ?_); rotate_left; first | (dsimp only; omega) | (simp; done) | (simp; omega)) | (with_reducible refine Chg.alloc ?_ _) | (with_reducible refine Chg.drew ?_) | (with_reducible refine Chg.drewN ?_ _) | (with_reducible refine Chg.no ?_ (by assumption)) | (with_reducible refine Chg.and_ ?_ (by assumption)) | ((with_reducible refine Chg.at_ ?_ (by assumption) ?_); rotate_left; (try simp only [World.size_alloc]); omega)))⟩
    | true =>
      obtain ⟨hC, hk1, hk2⟩ := canB_can hq
      have HF := hid (FnearF_ok hq hf)
      have hn16 : n ≤ 16 := by have := hx.len; have := storeB_len hC.store; omega
      have hfl : (xs.filter (fun x => passB fa fb fc x.tags)).length ≤ 16 := Nat.le_trans (List.length_filter_le _ _) (storeB_len hC.store)
      have hCf := hC.sub (m := xs.filter (fun x => passB fa fb fc x.tags)) List.filter_sublist
      obtain ⟨M, hM⟩ : ∃ M, xs.filter (fun x => passB fa fb fc x.tags) = M := ⟨_, rfl⟩
      have K3 := hid (fun W (h : RItems W l0 h0 A n c xs) => iFiltered l0 h0 A n c xs fa fb fc W h (by omega))
      rw [hM] at K3 hCf hfl HF
      have K4 := hid (fun W l2 h2 A2 c2 (h : RItems W l2 h2 A2 M.length c2 M) (h2 : RInts W l1 h1 A' n' c' at_) => iNearest _ _ A2 M.length c2 M l1 h1 A' n' c' at_ kind k W h h2 (by omega) hCf.each hCf.vec hCf.kind1 hCf.kind4 (by omega) (by omega))
      rw [hq] at K1
      rw [hf] at K2
      clear hq hf hx hy hC hCf hk1 hk2 hM
      go_enter Try.func21, Try.ntmps21
      (go_wp2_with fail; (with_reducible refine (K1.out _ (HX.out.no (by (repeat (first | (with_reducible exact Chg.refl _ _) | ((with_reducible refine Chg.setNew ?_ _ ?_); rotate_left; first | (dsimp only; omega) | (simp; done) | (simp; omega)) | (with_reducible refine Chg.alloc ?_ _) | (with_reducible refine Chg.drew ?_) | (with_reducible refine Chg.drewN ?_ _) | (with_reducible refine Chg.no ?_ (by assumption)) | (with_reducible refine Chg.and_ ?_ (by assumption)) | ((with_reducible refine Chg.at_ ?_ (by assumption) ?_); rotate_left; (try simp only [World.size_alloc]); omega))))) (HY.out.no (by (repeat (first | (with_reducible exact Chg.refl _ _) | ((with_reducible refine Chg.setNew ?_ _ ?_); rotate_left; first | (dsimp only; omega) | (simp; done) | (simp; omega)) | (with_reducible refine Chg.alloc ?_ _) | (with_reducible refine Chg.drew ?_) | (with_reducible refine Chg.drewN ?_ _) | (with_reducible refine Chg.no ?_ (by assumption)) | (with_reducible refine Chg.and_ ?_ (by assumption)) | ((with_reducible refine Chg.at_ ?_ (by assumption) ?_); rotate_left; (try simp only [World.size_alloc]); omega)))))).mono ?_); rintro e w1 ⟨rfl, hc1⟩)
      have q1 := (BX.out.no hc1).f3
      (go_wp2_with fail; (with_reducible refine (K2.out _).mono ?_); rintro e w2 ⟨rfl, hc2⟩)
      have q2 := (BX.out.no (hc1.no hc2)).f3
      have hcw : Chg No w w2 := by (repeat (first | (with_reducible exact Chg.refl _ _) | ((with_reducible refine Chg.setNew ?_ _ ?_); rotate_left; first | (dsimp only; omega) | (simp; done) | (simp; omega)) | (with_reducible refine Chg.alloc ?_ _) | (with_reducible refine Chg.drew ?_) | (with_reducible refine Chg.drewN ?_ _) | (with_reducible refine Chg.no ?_ (by assumption)) | (with_reducible refine Chg.and_ ?_ (by assumption)) | ((with_reducible refine Chg.at_ ?_ (by assumption) ?_); rotate_left; (try simp only [World.size_alloc]); omega)))
      (go_wp2_with fail; (with_reducible refine (K3.out _ (HX.out.no hcw)).mono ?_); rintro e w3 ⟨A3, c3, rfl, hr3, hc3⟩)
      have hcw3 : Chg No w w3 := hcw.no hc3
      (go_wp2_with fail; (with_reducible refine (K4.out _ _ _ _ _ hr3 (HY.out.no hcw3)).mono ?_); rintro e w4 ⟨v4, rfl, ho4, hc4⟩)
      have HO := hid (OSl.down ho4 (base' := w.heap.size) hcw3.size)
      clear ho4 hr3
      go_wp2
      go_ret
      exact ⟨_, rfl, by rw [HF.out]; exact HO.out, hcw3.no hc4⟩
set_option maxHeartbeats 2000000 in
theorem sFilterNearest (l0 h0 : Nat) (A : Option Addr) (n c : Nat) (xs : List It) (fa fb fc : Int) (l1 h1 : Nat) (A' : Option Addr) (n' c' : Nat) (at_ : List Int) (kind k : Int) (w : World) (hx : RItems w l0 h0 A n c xs) (hy : RInts w l1 h1 A' n' c' at_) :
    Calls Try.prog 17 #[.slice A n c, .agg #[.int .i64 fa, .int .i64 fb, .int .i64 fc], .int .i64 kind, .slice A' n' c', .int .i64 k] w (RetHits (FnearF xs fa fb fc kind at_ k) w) := by
  have HX := hid hx; have HY := hid hy
  have BX := hid (Box.new (w := w) [.int .i64 fa, .int .i64 fb, .int .i64 fc] 38 rfl)
  have K1 := hid (fun W (h : RItems W l0 h0 A n c xs) (h2 : RInts W l1 h1 A' n' c' at_) => sValidQuery l0 h0 A n c xs l1 h1 A' n' c' at_ kind W h h2)
  have K2 := hid (fun W => validFilter fa fb fc W)
  have hcq := canB_query xs kind at_ k
  cases hf : filterB fa fb fc with
  | false =>
    rw [hf] at K2
    have HF := hid (FnearF_no (l := xs) (a := fa) (b := fb) (c := fc) (kind := kind) (at_ := at_) (k := k) (by rw [hf]; simp))
    clear hcq hf hx hy
    go_enter Try.func17, Try.ntmps17
    (go_wp2_with fail; (with_reducible refine (K2.out _).mono ?_); rintro e w2 ⟨rfl, hc2⟩)
    go_wp2
    go_ret
    exact ⟨_, rfl, by rw [HF.out]; exact OSl.nil_ _, by (repeat (first | (with_reducible exact Chg.refl _ _) | ((with_reducible refine Chg.setNew ?_ _ ?_); rotate_left; first | (dsimp only; omega) | (simp; done) | (simp; omega)) | (with_reducible refine Chg.alloc ?_ _) | (with_reducible refine Chg.drew ?_) | (with_reducible refine Chg.drewN ?_ _) | (with_reducible refine Chg.no ?_ (by assumption)) | (with_reducible refine Chg.and_ ?_ (by assumption)) | ((with_reducible refine Chg.at_ ?_ (by assumption) ?_); rotate_left; (try simp only [World.size_alloc]); omega)))⟩
  | true =>
    rw [hf] at K2
    cases hq : queryB xs kind at_ with
    | false =>
      rw [hq] at K1 hcq
      have HF := hid (FnearF_no (a := fa) (b := fb) (c := fc) (by rw [hcq]; rfl))
      clear hq hcq hf hx hy
      go_enter Try.func17, Try.ntmps17
      (go_wp2_with fail; (with_reducible refine (K2.out _).mono ?_); rintro e w1 ⟨rfl, hc1⟩)
      (go_wp2_with fail; (with_reducible refine (K1.out _ (HX.out.no (by (repeat (first | (with_reducible exact Chg.refl _ _) | ((with_reducible refine Chg.setNew ?_ _ ?_); rotate_left; first | (dsimp only; omega) | (simp; done) | (simp; omega)) | (with_reducible refine Chg.alloc ?_ _) | (with_reducible refine Chg.drew ?_) | (with_reducible refine Chg.drewN ?_ _) | (with_reducible refine Chg.no ?_ (by assumption)) | (with_reducible refine Chg.and_ ?_ (by assumption)) | ((with_reducible refine Chg.at_ ?_ (by assumption) ?_); rotate_left; (try simp only [World.size_alloc]); omega))))) (HY.out.no (by (repeat (first | (with_reducible exact Chg.refl _ _) | ((with_reducible refine Chg.setNew ?_ _ ?_); rotate_left; first | (dsimp only; omega) | (simp; done) | (simp; omega)) | (with_reducible refine Chg.alloc ?_ _) | (with_reducible refine Chg.drew ?_) | (with_reducible refine Chg.drewN ?_ _) | (with_reducible refine Chg.no ?_ (by assumption)) | (with_reducible refine Chg.and_ ?_ (by assumption)) | ((with_reducible refine Chg.at_ ?_ (by assumption) ?_); rotate_left; (try simp only [World.size_alloc]); omega)))))).mono ?_); rintro e w2 ⟨rfl, hc2⟩)
      go_wp2
      go_ret
      exact ⟨_, rfl, by rw [HF.out]; exact OSl.nil_ _, by (repeat (first | (with_reducible exact Chg.refl _ _) | ((with_reducible refine Chg.setNew ?_ _ ?_); rotate_left; first | (dsimp only; omega) | (simp; done) | (simp; omega)) | (with_reducible refine Chg.alloc ?_ _) | (with_reducible refine Chg.drew ?_) | (with_reducible refine Chg.drewN ?_ _) | (with_reducible refine Chg.no ?_ (by assumption)) | (with_reducible refine Chg.and_ ?_ (by assumption)) | ((with_reducible refine Chg.at_ ?_ (by assumption) ?_); rotate_left; (try simp only [World.size_alloc]); omega)))⟩
    | true =>
      have K5 := hid (fun W => inRange k 1 16 W)
      cases hr : inB k 1 16 with
      | false =>
        rw [hq, hr] at hcq
        rw [hq] at K1
        rw [hr] at K5
        have HF := hid (FnearF_no (a := fa) (b := fb) (c := fc) (by rw [hcq]; rfl))
        clear hq hr hcq hf hx hy
        go_enter Try.func17, Try.ntmps17
        (go_wp2_with fail; (with_reducible refine (K2.out _).mono ?_); rintro e w1 ⟨rfl, hc1⟩)
        (go_wp2_with fail; (with_reducible refine (K1.out _ (HX.out.no (by (repeat (first | (with_reducible exact Chg.refl _ _) | ((with_reducible refine Chg.setNew ?_ _ ?_); rotate_left; first | (dsimp only; omega) | (simp; done) | (simp; omega)) | (with_reducible refine Chg.alloc ?_ _) | (with_reducible refine Chg.drew ?_) | (with_reducible refine Chg.drewN ?_ _) | (with_reducible refine Chg.no ?_ (by assumption)) | (with_reducible refine Chg.and_ ?_ (by assumption)) | ((with_reducible refine Chg.at_ ?_ (by assumption) ?_); rotate_left; (try simp only [World.size_alloc]); omega))))) (HY.out.no (by (repeat (first | (with_reducible exact Chg.refl _ _) | ((with_reducible refine Chg.setNew ?_ _ ?_); rotate_left; first | (dsimp only; omega) | (simp; done) | (simp; omega)) | (with_reducible refine Chg.alloc ?_ _) | (with_reducible refine Chg.drew ?_) | (with_reducible refine Chg.drewN ?_ _) | (with_reducible refine Chg.no ?_ (by assumption)) | (with_reducible refine Chg.and_ ?_ (by assumption)) | ((with_reducible refine Chg.at_ ?_ (by assumption) ?_); rotate_left; (try simp only [World.size_alloc]); omega)))))).mono ?_); rintro e w2 ⟨rfl, hc2⟩)
        (go_wp2_with fail; (with_reducible refine (K5.out _).mono ?_); rintro e w3 ⟨rfl, rfl⟩)
        go_wp2
        go_ret
        exact ⟨_, rfl, by rw [HF.out]; exact OSl.nil_ _, by (repeat (first | (with_reducible exact Chg.refl _ _) | ((with_reducible refine Chg.setNew ?_ _ ?_); rotate_left; first | (dsimp only; omega) | (simp; done) | (simp; omega)) | (with_reducible refine Chg.alloc ?_ _) | (with_reducible refine Chg.drew ?_) | (with_reducible refine Chg.drewN ?_ _) | (with_reducible refine Chg.no ?_ (by assumption)) | (with_reducible refine Chg.and_ ?_ (by assumption)) | ((with_reducible refine Chg.at_ ?_ (by assumption) ?_); rotate_left; (try simp only [World.size_alloc]); omega)))⟩
      | true =>
        rw [hq, hr] at hcq
        have hC := queryB_can hq
        have hk := of_decide_eq_true hr
        have HF := hid (FnearF_ok hcq hf)
        have hfl : (xs.filter (fun x => passB fa fb fc x.tags)).length ≤ 16 := Nat.le_trans (List.length_filter_le _ _) (storeB_len hC.store)
        have hCf := hC.sub (m := xs.filter (fun x => passB fa fb fc x.tags)) List.filter_sublist
        have K3 := hid (fun W (h : RItems W l0 h0 A n c xs) => sFilterStore l0 h0 A n c xs fa fb fc W h)
        rw [filtF_ok hC.store hf] at K3
        obtain ⟨M, hM⟩ : ∃ M, xs.filter (fun x => passB fa fb fc x.tags) = M := ⟨_, rfl⟩
        rw [hM] at K3 hCf hfl HF
        have K4 := hid (fun W l2 h2 A2 c2 (h : RItems W l2 h2 A2 M.length c2 M) (h2 : RInts W l1 h1 A' n' c' at_) => sNearest _ _ A2 M.length c2 M l1 h1 A' n' c' at_ kind k W h h2 (by omega) hCf.each hCf.vec hCf.kind1 hCf.kind4 (by omega) (by omega))
        rw [hq] at K1
        rw [hr] at K5
        clear hq hr hcq hf hx hy hC hCf hk hM
        go_enter Try.func17, Try.ntmps17
        (go_wp2_with fail; (with_reducible refine (K2.out _).mono ?_); rintro e w1 ⟨rfl, hc1⟩)
        have q1 := (BX.out.no hc1).f3
        (go_wp2_with fail; (with_reducible refine (K1.out _ (HX.out.no (by (repeat (first | (with_reducible exact Chg.refl _ _) | ((with_reducible refine Chg.setNew ?_ _ ?_); rotate_left; first | (dsimp only; omega) | (simp; done) | (simp; omega)) | (with_reducible refine Chg.alloc ?_ _) | (with_reducible refine Chg.drew ?_) | (with_reducible refine Chg.drewN ?_ _) | (with_reducible refine Chg.no ?_ (by assumption)) | (with_reducible refine Chg.and_ ?_ (by assumption)) | ((with_reducible refine Chg.at_ ?_ (by assumption) ?_); rotate_left; (try simp only [World.size_alloc]); omega))))) (HY.out.no (by (repeat (first | (with_reducible exact Chg.refl _ _) | ((with_reducible refine Chg.setNew ?_ _ ?_); rotate_left; first | (dsimp only; omega) | (simp; done) | (simp; omega)) | (with_reducible refine Chg.alloc ?_ _) | (with_reducible refine Chg.drew ?_) | (with_reducible refine Chg.drewN ?_ _) | (with_reducible refine Chg.no ?_ (by assumption)) | (with_reducible refine Chg.and_ ?_ (by assumption)) | ((with_reducible refine Chg.at_ ?_ (by assumption) ?_); rotate_left; (try simp only [World.size_alloc]); omega)))))).mono ?_); rintro e w2 ⟨rfl, hc2⟩)
        have q2 := (BX.out.no (hc1.no hc2)).f3
        (go_wp2_with fail; (with_reducible refine (K5.out _).mono ?_); rintro e w3 ⟨rfl, rfl⟩)
        have hcw : Chg No w w2 := by (repeat (first | (with_reducible exact Chg.refl _ _) | ((with_reducible refine Chg.setNew ?_ _ ?_); rotate_left; first | (dsimp only; omega) | (simp; done) | (simp; omega)) | (with_reducible refine Chg.alloc ?_ _) | (with_reducible refine Chg.drew ?_) | (with_reducible refine Chg.drewN ?_ _) | (with_reducible refine Chg.no ?_ (by assumption)) | (with_reducible refine Chg.and_ ?_ (by assumption)) | ((with_reducible refine Chg.at_ ?_ (by assumption) ?_); rotate_left; (try simp only [World.size_alloc]); omega)))
        (go_wp2_with fail; (with_reducible refine (K3.out _ (HX.out.no hcw)).mono ?_); rintro e w3 ⟨v3, rfl, ho3, hc3⟩)
        obtain ⟨A3, c3, rfl, hr3⟩ := OItems.read ho3
        have hcw3 : Chg No w w3 := hcw.no hc3
        (go_wp2_with fail; (with_reducible refine (K4.out _ _ _ _ _ hr3 (HY.out.no hcw3)).mono ?_); rintro e w4 ⟨v4, rfl, ho4, hc4⟩)
        have HO := hid (OSl.down ho4 (base' := w.heap.size) hcw3.size)
        clear ho4 hr3 ho3
        go_wp2
        go_ret
        exact ⟨_, rfl, by rw [HF.out]; exact HO.out, hcw3.no hc4⟩
set_option maxHeartbeats 2000000 in
theorem itemOf (l0 h0 : Nat) (b o : Nat) (n c : Nat) (xs : List It) (q : Nat) (z : It) (A1 : Option Addr) (n1 c1 : Nat) (w : World) (hx : RItems w l0 h0 (some ⟨b, o, none⟩) n c xs) (hq : xs[q]? = some z) (hno : ∀ (j : Nat) (y : It), j < q → xs[j]? = some y → y.key ≠ z.key) (hcell : w.cell? ⟨b, o + q * 3 + 1, none⟩ = some (.slice A1 n1 c1)) :
    Calls Try.prog 39 #[.slice (some ⟨b, o, none⟩) n c, .int .i64 z.key] w fun e w' => e = .returned (.agg #[.int .i64 z.key, .slice A1 n1 c1, .int .i64 z.tags]) ∧ Chg No w w' := by
  have hnc := hx.le; have hcm := hx.cap
  have hxl : xs.length = n := hx.len
  have hqn : q < n := by have := (List.getElem?_eq_some_iff.1 hq).1; omega
  have HX := hid hx; have HQ := hid hq; have HN := hid hno; have HC := hid hcell
  have BZ := hid (Box.new (w := w) [.int .i64 0, .slice none 0 0, .int .i64 0] 54 rfl)
  clear hx hq hno hxl hcell
  go_enter Try.func39, Try.ntmps39
  go_wp2
  go_loopw [5] (fun i wr => ∃ k : Nat, k ≤ q ∧ i = .int .i64 k ∧ Chg No (w.alloc (.cells #[.int .i64 0, .slice none 0 0, .int .i64 0] 54)) wr) (fun i _ => n - (intOf i).toNat)
  case atStart => exact ⟨0, Nat.zero_le _, rfl, Chg.refl _ _⟩
  case round =>
    obtain ⟨k, hk, rfl, hc⟩ := hrel
    obtain ⟨wo, rfl⟩ : ∃ W : World, W = wr := ⟨_, rfl⟩
    have hcw : Chg No w wo := ((Chg.refl No w).alloc _).no hc
    have hlt : k < n := by omega
    obtain ⟨b', o', y, hA', _, _, hyk, hE⟩ := (HX.out.no hcw).at_ hlt
    injection hA' with hA'
    injection hA' with e1 e2 _
    subst e1 e2
    obtain ⟨yk, yv, yt⟩ := y
    obtain ⟨hE1, ⟨A2, n2, c2, hE2, hv⟩, hE3⟩ := hE
    have f1 : wo.cell? ⟨b, o + k * 3, none⟩ = some (.int .i64 yk) := hE1
    have f2 : wo.cell? ⟨b, o + k * 3 + 1, none⟩ = some (.slice A2 n2 c2) := hE2
    have f3 : wo.cell? ⟨b, o + k * 3 + 2, none⟩ = some (.int .i64 yt) := hE3
    have q1 := (BZ.out.no hc).f3
    have q2 := (BZ.out.no hc).lt
    clear hE1 hE2 hE3 hv
    by_cases hkq : k = q
    · subst hkq
      rw [HQ.out] at hyk
      injection hyk with hyk
      subst hyk
      have h9 := cell_keep hcw HC.out (fun e => e)
      rw [f2] at h9
      injection h9 with h9
      injection h9 with e1 e2 e3
      subst e1 e2 e3
      have e1 : (yk == yk) = true := by simp
      go_wp2
      (refine bodyPost_ret (by simp [results, Try.results39, go_sem, *]; rfl) rfl ?_)
      exact ⟨rfl, by (repeat (first | (with_reducible exact Chg.refl _ _) | ((with_reducible refine Chg.setNew ?_ _ ?_); rotate_left; first | (dsimp only; omega) | (simp; done) | (simp; omega)) | (with_reducible refine Chg.alloc ?_ _) | (with_reducible refine Chg.drew ?_) | (with_reducible refine Chg.drewN ?_ _) | (with_reducible refine Chg.no ?_ (by assumption)) | (with_reducible refine Chg.and_ ?_ (by assumption)) | ((with_reducible refine Chg.at_ ?_ (by assumption) ?_); rotate_left; (try simp only [World.size_alloc]); omega)))⟩
    · have e1 : (yk == z.key) = false := by
        have := HN.out k _ (by omega) hyk
        simpa using this
      clear hyk
      go_wp2
      go_roundw
      case rel => exact ⟨k + 1, by omega, by go_num, hc⟩
      case measure => simp [intOf]; omega
end Go.Proofs.Ytkglmhhihpofiaa
