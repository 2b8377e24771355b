/- LinksOf: the program's and the reference's answer the same plain function; the laws' equalLists; the drawn arguments. -/
import Derived.Test.YtgidepnlflmclaaLinks
import Derived.Test.YtgidepnlflmclaaDraw7
import Derived.Test.YtgidepnlflmclaaDrawK
import Derived.Test.YtgidepnlflmclaaEqI
namespace Go.Proofs.Ytgidepnlflmclaa
open Go.RowKit Go.Shelf
set_option linter.unusedVariables false
set_option linter.unusedSimpArgs false
set_option maxHeartbeats 1000000 in
theorem iCanLink (l0 h0 : Nat) (A : Option Addr) (n c : Nat) (xs : List It) (kind many : Int) (w : World) (hx : RItems w l0 h0 A n c xs) :
    Calls Try.prog 45 #[.slice A n c, .int .i64 kind, .int .i64 many] w fun e w' => e = .returned (.bool (linkB xs kind many)) ∧ Chg No w w' := by
  have HX := hid hx
  have K1 := hid (fun W (h : RItems W l0 h0 A n c xs) => iValidStore l0 h0 A n c xs W h)
  have K2 := hid (fun W => iIsKind kind W)
  have HC := hid (show linkB xs kind many = (storeB xs && (kindB kind && decide (1 ≤ many ∧ many ≤ 5))) from rfl)
  generalize linkB xs kind many = q at *
  generalize storeB xs = q1 at *
  generalize kindB kind = q2 at *
  clear hx
  cases q1 with
  | false =>
    have HF := hid (show q = false from by rw [HC.out]; rfl)
    go_enter Try.func45, Try.ntmps45
    (go_wp2_with fail; (with_reducible refine (K1.out _ HX.out).mono ?_); rintro e w1 ⟨rfl, hc1⟩)
    go_wp2
    go_ret
    exact ⟨by rw [HF.out]; rfl, by (repeat (first | (with_reducible exact Chg.refl _ _) | ((with_reducible refine Chg.setNew ?_ _ ?_); rotate_left; first | (dsimp only; omega) | (simp; done) | (simp; omega)) | (with_reducible refine Chg.alloc ?_ _) | (with_reducible refine Chg.drew ?_) | (with_reducible refine Chg.drewN ?_ _) | (with_reducible refine Chg.no ?_ (by assumption)) | (with_reducible refine Chg.and_ ?_ (by assumption)) | ((with_reducible refine Chg.at_ ?_ (by assumption) ?_); rotate_left; (try simp only [World.size_alloc]); omega)))⟩
  | true =>
    cases q2 with
    | false =>
      have HF := hid (show q = false from by rw [HC.out]; rfl)
      go_enter Try.func45, Try.ntmps45
      (go_wp2_with fail; (with_reducible refine (K1.out _ HX.out).mono ?_); rintro e w1 ⟨rfl, hc1⟩)
      (go_wp2_with fail; (with_reducible refine (K2.out _).mono ?_); rintro e w2 ⟨rfl, rfl⟩)
      go_wp2
      go_ret
      exact ⟨by rw [HF.out]; rfl, by (repeat (first | (with_reducible exact Chg.refl _ _) | ((with_reducible refine Chg.setNew ?_ _ ?_); rotate_left; first | (dsimp only; omega) | (simp; done) | (simp; omega)) | (with_reducible refine Chg.alloc ?_ _) | (with_reducible refine Chg.drew ?_) | (with_reducible refine Chg.drewN ?_ _) | (with_reducible refine Chg.no ?_ (by assumption)) | (with_reducible refine Chg.and_ ?_ (by assumption)) | ((with_reducible refine Chg.at_ ?_ (by assumption) ?_); rotate_left; (try simp only [World.size_alloc]); omega)))⟩
    | true =>
      by_cases a1 : 1 ≤ many
      · by_cases a2 : many ≤ 5
        · have HF := hid (show q = true from by rw [HC.out]; simp; omega)
          have j1 : decide (1 ≤ many) = true := decide_eq_true a1
          have j2 : decide (many ≤ 5) = true := decide_eq_true a2
          go_enter Try.func45, Try.ntmps45
          (go_wp2_with fail; (with_reducible refine (K1.out _ HX.out).mono ?_); rintro e w1 ⟨rfl, hc1⟩)
          (go_wp2_with fail; (with_reducible refine (K2.out _).mono ?_); rintro e w2 ⟨rfl, rfl⟩)
          go_wp2
          go_ret
          exact ⟨by rw [HF.out]; first | rfl | (exact ret_bool (by simp; omega)), by (repeat (first | (with_reducible exact Chg.refl _ _) | ((with_reducible refine Chg.setNew ?_ _ ?_); rotate_left; first | (dsimp only; omega) | (simp; done) | (simp; omega)) | (with_reducible refine Chg.alloc ?_ _) | (with_reducible refine Chg.drew ?_) | (with_reducible refine Chg.drewN ?_ _) | (with_reducible refine Chg.no ?_ (by assumption)) | (with_reducible refine Chg.and_ ?_ (by assumption)) | ((with_reducible refine Chg.at_ ?_ (by assumption) ?_); rotate_left; (try simp only [World.size_alloc]); omega)))⟩
        · have HF := hid (show q = false from by rw [HC.out]; simp; omega)
          have j1 : decide (1 ≤ many) = true := decide_eq_true a1
          have j2 : decide (many ≤ 5) = false := decide_eq_false a2
          go_enter Try.func45, Try.ntmps45
          (go_wp2_with fail; (with_reducible refine (K1.out _ HX.out).mono ?_); rintro e w1 ⟨rfl, hc1⟩)
          (go_wp2_with fail; (with_reducible refine (K2.out _).mono ?_); rintro e w2 ⟨rfl, rfl⟩)
          go_wp2
          go_ret
          exact ⟨by rw [HF.out]; first | rfl | (exact ret_bool (by simp; omega)), by (repeat (first | (with_reducible exact Chg.refl _ _) | ((with_reducible refine Chg.setNew ?_ _ ?_); rotate_left; first | (dsimp only; omega) | (simp; done) | (simp; omega)) | (with_reducible refine Chg.alloc ?_ _) | (with_reducible refine Chg.drew ?_) | (with_reducible refine Chg.drewN ?_ _) | (with_reducible refine Chg.no ?_ (by assumption)) | (with_reducible refine Chg.and_ ?_ (by assumption)) | ((with_reducible refine Chg.at_ ?_ (by assumption) ?_); rotate_left; (try simp only [World.size_alloc]); omega)))⟩
      · have HF := hid (show q = false from by rw [HC.out]; simp; omega)
        have j1 : decide (1 ≤ many) = false := decide_eq_false a1
        go_enter Try.func45, Try.ntmps45
        (go_wp2_with fail; (with_reducible refine (K1.out _ HX.out).mono ?_); rintro e w1 ⟨rfl, hc1⟩)
        (go_wp2_with fail; (with_reducible refine (K2.out _).mono ?_); rintro e w2 ⟨rfl, rfl⟩)
        go_wp2
        go_ret
        exact ⟨by rw [HF.out]; first | rfl | (exact ret_bool (by simp; omega)), by (repeat (first | (with_reducible exact Chg.refl _ _) | ((with_reducible refine Chg.setNew ?_ _ ?_); rotate_left; first | (dsimp only; omega) | (simp; done) | (simp; omega)) | (with_reducible refine Chg.alloc ?_ _) | (with_reducible refine Chg.drew ?_) | (with_reducible refine Chg.drewN ?_ _) | (with_reducible refine Chg.no ?_ (by assumption)) | (with_reducible refine Chg.and_ ?_ (by assumption)) | ((with_reducible refine Chg.at_ ?_ (by assumption) ?_); rotate_left; (try simp only [World.size_alloc]); omega)))⟩
set_option maxHeartbeats 1000000 in
theorem iLinksOf (l0 h0 : Nat) (A : Option Addr) (n c : Nat) (xs : List It) (kind many : Int) (w : World) (hx : RItems w l0 h0 A n c xs) :
    Calls Try.prog 26 #[.slice A n c, .int .i64 kind, .int .i64 many] w (RetRows (LinksF xs kind many) w) := by
  have HX := hid hx
  have K1 := hid (fun W (h : RItems W l0 h0 A n c xs) => iCanLink l0 h0 A n c xs kind many W h)
  cases hq : linkB xs kind many with
  | false =>
    rw [hq] at K1
    have HF := hid (LinksF_no hq)
    clear hq hx
    go_enter Try.func26, Try.ntmps26
    (go_wp2_with fail; (with_reducible refine (K1.out _ HX.out).mono ?_); rintro e w1 ⟨rfl, hc1⟩)
    go_wp2
    go_ret
    exact ⟨_, rfl, by rw [HF.out]; exact ORows.nil_ _ _, by (repeat (first | (with_reducible exact Chg.refl _ _) | ((with_reducible refine Chg.setNew ?_ _ ?_); rotate_left; first | (dsimp only; omega) | (simp; done) | (simp; omega)) | (with_reducible refine Chg.alloc ?_ _) | (with_reducible refine Chg.drew ?_) | (with_reducible refine Chg.drewN ?_ _) | (with_reducible refine Chg.no ?_ (by assumption)) | (with_reducible refine Chg.and_ ?_ (by assumption)) | ((with_reducible refine Chg.at_ ?_ (by assumption) ?_); rotate_left; (try simp only [World.size_alloc]); omega)))⟩
  | true =>
    have hL := linkB_ok hq
    rw [hq] at K1
    have HF := hid (LinksF_ok hq)
    have K3 := hid (fun W (h : RItems W l0 h0 A n c xs) => iLinksL l0 h0 A n c xs kind many W h hL)
    clear hq hx hL
    go_enter Try.func26, Try.ntmps26
    (go_wp2_with fail; (with_reducible refine (K1.out _ HX.out).mono ?_); rintro e w1 ⟨rfl, hc1⟩)
    (go_wp2_with fail; (with_reducible refine (K3.out _ (HX.out.no hc1)).mono ?_); rintro e w3 ⟨v3, rfl, ho3, hc3⟩)
    have s1 := hc1.size
    have HO := hid (ORows.down ho3 (base' := w.heap.size) s1)
    clear ho3
    go_wp2
    go_ret
    exact ⟨_, rfl, by rw [HF.out]; exact HO.out, hc1.no hc3⟩
theorem RRows.at_ {w : World} {lo hi n c : Nat} {A : Option Addr} {xs : List (List Int)} (h : RRows w lo hi A n c xs) {k : Nat} (hk : k < n) : ∃ b o r A1 n1 c1, A = some ⟨b, o, none⟩ ∧ lo ≤ b ∧ b < hi ∧ xs[k]? = some r ∧ w.cell? ⟨b, o + k, none⟩ = some (.slice A1 n1 c1) ∧ RInts w lo hi A1 n1 c1 r := by
  obtain ⟨b, o, r, hA, h1, h2, hx, A1, n1, c1, hE, hv⟩ := RSl.at_ h hk
  exact ⟨b, o, r, A1, n1, c1, hA, h1, h2, hx, by simpa using hE, hv⟩
set_option maxHeartbeats 1000000 in
theorem equalLists (l0 h0 l1 h1 : Nat) (A B : Option Addr) (n c d : Nat) (xs : List (List Int)) (w : World) (hx : RRows w l0 h0 A n c xs) (hy : RRows w l1 h1 B n d xs) :
    Calls Try.prog 35 #[.slice A n c, .slice B n d] w fun e w' => e = .returned (.bool true) ∧ Chg No w w' := by
  have hnc := hx.le; have hcm := hx.cap; have hnd := hy.le; have hdm := hy.cap
  have HX := hid hx; have HY := hid hy
  have e0 : ((n : Int) != n) = false := by simp
  clear hx hy
  go_enter Try.func35, Try.ntmps35
  go_wp2
  go_loopw [5] (fun i wr => ∃ k : Nat, k ≤ n ∧ i = .int .i64 k ∧ Chg No w wr) (fun i _ => n - (intOf i).toNat)
  case atStart => exact ⟨0, Nat.zero_le _, rfl, Chg.refl _ _⟩
  case round =>
    obtain ⟨k, hk, rfl, hc⟩ := hrel
    obtain ⟨wo, rfl⟩ : ∃ W : World, W = wr := ⟨_, rfl⟩
    by_cases hlt : k < n
    · obtain ⟨b, o, r, A1, n1, c1, rfl, _, _, hr, f1', hv1⟩ := (HX.out.no hc).at_ hlt
      obtain ⟨b', o', r', A2, n2, c2, rfl, _, _, hr', f2', hv2⟩ := (HY.out.no hc).at_ hlt
      obtain rfl : r = r' := by rw [hr] at hr'; injection hr'
      obtain rfl : n1 = r.length := hv1.len.symm
      obtain rfl : n2 = r.length := hv2.len.symm
      have f1 : ∀ p : NB wo, p.wd.cell? ⟨b, o + k, none⟩ = some (.slice A1 r.length c1) := nb_cell f1'
      have f2 : ∀ p : NB wo, p.wd.cell? ⟨b', o' + k, none⟩ = some (.slice A2 r.length c2) := nb_cell f2'
      have KE := hid (fun W (h : Chg No wo W) => equalInts _ _ _ _ A1 A2 r.length c1 c2 r W (hv1.no h) (hv2.no h))
      clear hr hr' f1' f2' hv1 hv2
      go_wp2_with fail
      (refine wp_region_nb (by kernel_rfl) (by kernel_rfl) ?_; (repeat (first | go_big_quiet_step ((go_at_call 23; exact nb_of (KE.out _ (NB.h _)))) | quiet_step ((go_at_call 23; exact nb_of (KE.out _ (NB.h _)))))); (with_reducible refine wpQuiet_nil ?_); intro wq hw1; have hq := nb_out hw1; clear hw1)
      go_wp2
      go_roundw
      case rel => exact ⟨k + 1, by omega, by go_num, hc.no hq⟩
      case measure => simp [intOf]; omega
    · go_wp2
      go_ret
      exact ⟨rfl, hc⟩
set_option maxHeartbeats 1000000 in
theorem someMany {B : Nat} (g m : Nat) (w : World) (hR : Rd w B g m) (hm : m < 700000) : Calls Try.prog 56 #[.pointer (some ⟨g, 0, none⟩)] w (DrawnOf B g m [1, 2, 3, 5, 0, 6, 2] w) := by
  have hg := hR.lt
  go_enter Try.func56, Try.ntmps56
  (go_wp2_with fail; (refine (oneLit g m [1, 2, 3, 5, 0, 6, 2] 7 _ _ (hR.no ((Chg.refl _ _).alloc _)) (by omega) (heap_top rfl) rfl rfl (by omega) (by omega) (by omega)).mono ?_); rintro e w1 ⟨x, rfl, hx, hR1, hc1⟩)
  go_wp2
  go_ret
  exact ⟨x, rfl, hx, hR1, ((Chg.refl (At g) w).alloc _).trans hc1 (fun _ _ h => h)⟩
theorem many_of {x : Int} (h : x ∈ [1, 2, 3, 5, 0, 6, 2]) : 0 ≤ x ∧ x ≤ 6 := by
  simp only [List.mem_cons, List.not_mem_nil, or_false] at h
  omega
theorem kind_ofL {x : Int} (h : x ∈ [1, 2, 3, 4, 1, 2, 3, 4, 1, 2, 0, 5]) : 0 ≤ x ∧ x ≤ 5 := by
  simp only [List.mem_cons, List.not_mem_nil, or_false] at h
  omega
/-- a store, a kind and a number of neighbours have been drawn -/
def DrawnL (w : World) (e : Ending) (w' : World) : Prop := ∃ (v : Value) (xs : List It) (kind many : Int), e = .returned (.tuple #[v, .int .i64 kind, .int .i64 many]) ∧ OItems w' w.heap.size v xs ∧ xs.length ≤ 17 ∧ (0 ≤ kind ∧ kind ≤ 5) ∧ (0 ≤ many ∧ many ≤ 6) ∧ Chg No w w'
set_option maxHeartbeats 2000000 in
theorem drawLinksOf (A : Option Addr) (n c : Nat) (w : World) (hC : Code w w.heap.size A n c) : Calls Try.prog 66 #[.slice A n c] w (DrawnL w) := by
  go_enter Try.func66, Try.ntmps66
  (go_wp2_with fail; (with_reducible refine (newReader w.heap.size A n c _ hC (Nat.le_refl _)).mono ?_); rintro e w1 ⟨rfl, hR1, hc1⟩)
  have s1 := hc1.size
  have l1 := hR1.lt
  (go_wp2_with fail; (with_reducible refine (anyStore _ 0 _ hR1 (by omega)).mono ?_); rintro e w2 ⟨v2, xs, rfl, ho2, hl2, _, hR2, hc2⟩)
  have s2 := hc2.size
  have HI2 := hid ho2
  obtain ⟨A2, c2, hv2, hr2⟩ := OItems.read ho2
  subst hv2
  have h02 : Chg No w w2 := hc1.trans hc2 (fun i hi (h : i = _) => by omega)
  clear hr2 ho2
  (go_wp2_with fail; (with_reducible refine (anyKind _ 320 _ hR2 (by omega)).mono ?_); rintro e w3 ⟨kind, rfl, hx3, hR3, hc3⟩)
  have s3 := hc3.size
  have hkd := kind_ofL hx3
  have HI3 := hid (HI2.out.keep hc3 (fun k h1 h2 (h3 : k = _) => by omega))
  have h03 : Chg No w w3 := h02.trans hc3 (fun i hi (h : i = _) => by omega)
  clear hx3 HI2
  (go_wp2_with fail; (with_reducible refine (someMany _ 321 _ hR3 (by omega)).mono ?_); rintro e w4 ⟨many, rfl, hx4, hR4, hc4⟩)
  have s4 := hc4.size
  have hmd := many_of hx4
  have HI4 := hid ((HI3.out.keep hc4 (fun k h1 h2 (h3 : k = _) => by omega)).down (base' := w.heap.size) (by omega))
  have h04 : Chg No w w4 := h03.trans hc4 (fun i hi (h : i = _) => by omega)
  clear hx4 HI3
  go_wp2
  go_ret3
  exact ⟨_, xs, _, _, rfl, HI4.out, hl2, hkd, hmd, h04⟩
end Go.Proofs.Ytgidepnlflmclaa
