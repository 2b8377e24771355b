/- Kinds of distances; what a search asks of its arguments. -/
import Derived.Test.YtifdcdpdihfbjaaVec
import Derived.Test.YtifdcdpdihfbjaaStoreI
import Derived.Shelf.Abstract
namespace Go.Proofs.Ytifdcdpdihfbjaa
open Go.RowKit Go.Shelf
set_option linter.unusedVariables false
set_option linter.unusedSimpArgs false
/-- a kind of distances -/
def kindB (k : Int) : Bool := decide (1 ≤ k ∧ k ≤ 4)
/-- a search is asked of a valid store, a kind, a valid vector, 1 to 16 items -/
def canB (l : List It) (kind : Int) (at_ : List Int) (k : Int) : Bool := storeB l && (kindB kind && (vecB at_ && decide (1 ≤ k ∧ k ≤ 16)))
theorem vecN4' (xs : List Int) : vecN 4 xs = vecB xs := rfl
theorem iIsVec4 (l0 h0 : Nat) (A : Option Addr) (n c : Nat) (xs : List Int) (w : World) (hx : RInts w l0 h0 A n c xs) : Calls Try.prog 57 #[.slice A n c, .int .i64 4] w fun e w' => e = .returned (.bool (vecB xs)) ∧ w = w' := by
  have h := isVecN 4 l0 h0 A n c xs w hx (by omega)
  rw [vecN4'] at h
  exact h
theorem iIsKind (k : Int) (w : World) : Calls Try.prog 79 #[.int .i64 k] w fun e w' => e = .returned (.bool (kindB k)) ∧ w = w' := by
  by_cases h1 : 1 ≤ k
  · by_cases h2 : k ≤ 4
    · have HF : Hid (kindB k = true) := by show _ = _; unfold kindB; simp; omega
      rw [HF.out]
      go_enter Try.func79, Try.ntmps79
      go_wp2
      go_ret
      exact ⟨ret_bool (by simp <;> omega), rfl⟩
    · have HF : Hid (kindB k = false) := by show _ = _; unfold kindB; simp; omega
      rw [HF.out]
      go_enter Try.func79, Try.ntmps79
      go_wp2
      go_ret
      exact ⟨ret_bool (by simp <;> omega), rfl⟩
  · have HF : Hid (kindB k = false) := by show _ = _; unfold kindB; simp; omega
    rw [HF.out]
    have h1' : k < 1 := by omega
    go_enter Try.func79, Try.ntmps79
    go_wp2
    go_ret
    exact ⟨rfl, rfl⟩
set_option maxHeartbeats 1000000 in
theorem iCanFind (l0 h0 : Nat) (A : Option Addr) (n c : Nat) (xs : List It) (l1 h1 : Nat) (A' : Option Addr) (n' c' : Nat) (at_ : List Int) (kind k : Int) (w : World) (hx : RItems w l0 h0 A n c xs) (hy : RInts w l1 h1 A' n' c' at_) :
    Calls Try.prog 48 #[.slice A n c, .int .i64 kind, .slice A' n' c', .int .i64 k] w fun e w' => e = .returned (.bool (canB xs kind at_ k)) ∧ Chg No w w' := by
  have HX := hid hx; have HY := hid hy
  have K1 := hid (fun W (h : RItems W l0 h0 A n c xs) => iValidStore l0 h0 A n c xs W h)
  have K2 := hid (fun W => iIsKind kind W)
  have K3 := hid (fun W (h : RInts W l1 h1 A' n' c' at_) => iIsVec4 l1 h1 A' n' c' at_ W h)
  have HC := hid (show canB xs kind at_ k = (storeB xs && (kindB kind && (vecB at_ && decide (1 ≤ k ∧ k ≤ 16)))) from rfl)
  generalize canB xs kind at_ k = q at *
  generalize storeB xs = q1 at *
  generalize kindB kind = q2 at *
  generalize vecB at_ = q3 at *
  clear hx hy
  cases q1 with
  | false =>
    have HF : Hid (q = false) := by show _ = _; rw [HC.out]; rfl
    go_enter Try.func48, Try.ntmps48
    (go_wp2_with fail; (with_reducible refine (K1.out _ HX.out).mono ?_); rintro e w1 ⟨rfl, hc1⟩)
    go_wp2
    go_ret
    exact ⟨by rw [HF.out]; rfl, by (repeat (first | (with_reducible exact Chg.refl _ _) | ((with_reducible refine Chg.setNew ?_ _ ?_); rotate_left; first | (dsimp only; omega) | (simp; done) | (simp; omega)) | (with_reducible refine Chg.alloc ?_ _) | (with_reducible refine Chg.drew ?_) | (with_reducible refine Chg.drewN ?_ _) | (with_reducible refine Chg.no ?_ (by assumption)) | (with_reducible refine Chg.and_ ?_ (by assumption)) | ((with_reducible refine Chg.at_ ?_ (by assumption) ?_); rotate_left; (try simp only [World.size_alloc]); omega)))⟩
  | true =>
    cases q2 with
    | false =>
      have HF : Hid (q = false) := by show _ = _; rw [HC.out]; rfl
      go_enter Try.func48, Try.ntmps48
      (go_wp2_with fail; (with_reducible refine (K1.out _ HX.out).mono ?_); rintro e w1 ⟨rfl, hc1⟩)
      (go_wp2_with fail; (with_reducible refine (K2.out _).mono ?_); rintro e w2 ⟨rfl, rfl⟩)
      go_wp2
      go_ret
      exact ⟨by rw [HF.out]; rfl, by (repeat (first | (with_reducible exact Chg.refl _ _) | ((with_reducible refine Chg.setNew ?_ _ ?_); rotate_left; first | (dsimp only; omega) | (simp; done) | (simp; omega)) | (with_reducible refine Chg.alloc ?_ _) | (with_reducible refine Chg.drew ?_) | (with_reducible refine Chg.drewN ?_ _) | (with_reducible refine Chg.no ?_ (by assumption)) | (with_reducible refine Chg.and_ ?_ (by assumption)) | ((with_reducible refine Chg.at_ ?_ (by assumption) ?_); rotate_left; (try simp only [World.size_alloc]); omega)))⟩
    | true =>
      cases q3 with
      | false =>
        have HF : Hid (q = false) := by show _ = _; rw [HC.out]; rfl
        go_enter Try.func48, Try.ntmps48
        (go_wp2_with fail; (with_reducible refine (K1.out _ HX.out).mono ?_); rintro e w1 ⟨rfl, hc1⟩)
        (go_wp2_with fail; (with_reducible refine (K2.out _).mono ?_); rintro e w2 ⟨rfl, rfl⟩)
        (go_wp2_with fail; (with_reducible refine (K3.out _ (HY.out.no hc1)).mono ?_); rintro e w3 ⟨rfl, rfl⟩)
        go_wp2
        go_ret
        exact ⟨by rw [HF.out]; rfl, by (repeat (first | (with_reducible exact Chg.refl _ _) | ((with_reducible refine Chg.setNew ?_ _ ?_); rotate_left; first | (dsimp only; omega) | (simp; done) | (simp; omega)) | (with_reducible refine Chg.alloc ?_ _) | (with_reducible refine Chg.drew ?_) | (with_reducible refine Chg.drewN ?_ _) | (with_reducible refine Chg.no ?_ (by assumption)) | (with_reducible refine Chg.and_ ?_ (by assumption)) | ((with_reducible refine Chg.at_ ?_ (by assumption) ?_); rotate_left; (try simp only [World.size_alloc]); omega)))⟩
      | true =>
        by_cases a1 : 1 ≤ k
        · by_cases a2 : k ≤ 16
          · have HF : Hid (q = true) := by show _ = _; rw [HC.out]; simp; omega
            have j1 : decide (1 ≤ k) = true := decide_eq_true a1
            have j2 : decide (k ≤ 16) = true := decide_eq_true a2
            go_enter Try.func48, Try.ntmps48
            (go_wp2_with fail; (with_reducible refine (K1.out _ HX.out).mono ?_); rintro e w1 ⟨rfl, hc1⟩)
            (go_wp2_with fail; (with_reducible refine (K2.out _).mono ?_); rintro e w2 ⟨rfl, rfl⟩)
            (go_wp2_with fail; (with_reducible refine (K3.out _ (HY.out.no hc1)).mono ?_); rintro e w3 ⟨rfl, rfl⟩)
            go_wp2
            go_ret
            exact ⟨by rw [HF.out]; first | rfl | (exact ret_bool (by simp; omega)), by (repeat (first | (with_reducible exact Chg.refl _ _) | ((with_reducible refine Chg.setNew ?_ _ ?_); rotate_left; first | (dsimp only; omega) | (simp; done) | (simp; omega)) | (with_reducible refine Chg.alloc ?_ _) | (with_reducible refine Chg.drew ?_) | (with_reducible refine Chg.drewN ?_ _) | (with_reducible refine Chg.no ?_ (by assumption)) | (with_reducible refine Chg.and_ ?_ (by assumption)) | ((with_reducible refine Chg.at_ ?_ (by assumption) ?_); rotate_left; (try simp only [World.size_alloc]); omega)))⟩
          · have HF : Hid (q = false) := by show _ = _; rw [HC.out]; simp; omega
            have j1 : decide (1 ≤ k) = true := decide_eq_true a1
            have j2 : decide (k ≤ 16) = false := decide_eq_false a2
            go_enter Try.func48, Try.ntmps48
            (go_wp2_with fail; (with_reducible refine (K1.out _ HX.out).mono ?_); rintro e w1 ⟨rfl, hc1⟩)
            (go_wp2_with fail; (with_reducible refine (K2.out _).mono ?_); rintro e w2 ⟨rfl, rfl⟩)
            (go_wp2_with fail; (with_reducible refine (K3.out _ (HY.out.no hc1)).mono ?_); rintro e w3 ⟨rfl, rfl⟩)
            go_wp2
            go_ret
            exact ⟨by rw [HF.out]; first | rfl | (exact ret_bool (by simp; omega)), by (repeat (first | (with_reducible exact Chg.refl _ _) | ((with_reducible refine Chg.setNew ?_ _ ?_); rotate_left; first | (dsimp only; omega) | (simp; done) | (simp; omega)) | (with_reducible refine Chg.alloc ?_ _) | (with_reducible refine Chg.drew ?_) | (with_reducible refine Chg.drewN ?_ _) | (with_reducible refine Chg.no ?_ (by assumption)) | (with_reducible refine Chg.and_ ?_ (by assumption)) | ((with_reducible refine Chg.at_ ?_ (by assumption) ?_); rotate_left; (try simp only [World.size_alloc]); omega)))⟩
        · have HF : Hid (q = false) := by show _ = _; rw [HC.out]; simp; omega
          have j1 : decide (1 ≤ k) = false := decide_eq_false a1
          go_enter Try.func48, Try.ntmps48
          (go_wp2_with fail; (with_reducible refine (K1.out _ HX.out).mono ?_); rintro e w1 ⟨rfl, hc1⟩)
          (go_wp2_with fail; (with_reducible refine (K2.out _).mono ?_); rintro e w2 ⟨rfl, rfl⟩)
          (go_wp2_with fail; (with_reducible refine (K3.out _ (HY.out.no hc1)).mono ?_); rintro e w3 ⟨rfl, rfl⟩)
          go_wp2
          go_ret
          exact ⟨by rw [HF.out]; rfl, by (repeat (first | (with_reducible exact Chg.refl _ _) | ((with_reducible refine Chg.setNew ?_ _ ?_); rotate_left; first | (dsimp only; omega) | (simp; done) | (simp; omega)) | (with_reducible refine Chg.alloc ?_ _) | (with_reducible refine Chg.drew ?_) | (with_reducible refine Chg.drewN ?_ _) | (with_reducible refine Chg.no ?_ (by assumption)) | (with_reducible refine Chg.and_ ?_ (by assumption)) | ((with_reducible refine Chg.at_ ?_ (by assumption) ?_); rotate_left; (try simp only [World.size_alloc]); omega)))⟩
end Go.Proofs.Ytifdcdpdihfbjaa
