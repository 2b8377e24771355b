/- The laws' equalInts, equalItem, equalItems on slices that read as the same list. -/
import Derived.Test.YtchblkeddeelhaaQuiet
import Derived.Test.YtchblkeddeelhaaTypes
import Derived.Deep.RegionWith
namespace Go.Proofs.Ytchblkeddeelhaa
open Go.RowKit
set_option linter.unusedVariables false
set_option linter.unusedSimpArgs false
set_option maxHeartbeats 1000000 in
theorem equalInts (l0 h0 l1 h1 : Nat) (A B : Option Addr) (n c d : Nat) (xs : List Int) (w : World) (hx : RInts w l0 h0 A n c xs) (hy : RInts w l1 h1 B n d xs) :
    Calls Try.prog 42 #[.slice A n c, .slice B n d] w fun e w' => e = .returned (.bool true) ∧ Chg No w w' := by
  have hnc := hx.le; have hcm := hx.cap; have hnd := hy.le; have hdm := hy.cap
  have HX := hid hx; have HY := hid hy
  have e0 : ((n : Int) != n) = false := by simp
  clear hx hy
  go_enter Try.func42, Try.ntmps42
  go_wp2
  go_loopw [5] (fun i wr => ∃ k : Nat, k ≤ n ∧ i = .int .i64 k ∧ Chg No w wr) (fun i _ => n - (intOf i).toNat)
  case atStart => exact ⟨0, Nat.zero_le _, rfl, Chg.refl _ _⟩
  case round =>
    obtain ⟨k, hk, rfl, hc⟩ := hrel
    by_cases hlt : k < n
    · obtain ⟨b, o, x, rfl, _, _, hxk, hE⟩ := (HX.out.no hc).at_ hlt
      obtain ⟨b', o', x', rfl, _, _, hxk', hE'⟩ := (HY.out.no hc).at_ hlt
      obtain rfl : x = x' := by rw [hxk] at hxk'; injection hxk'
      have f1 : ∀ p : NB wr, p.wd.cell? ⟨b, o + k, none⟩ = some (.int .i64 x) := nb_cell (by simpa [EInt] using hE)
      have f2 : ∀ p : NB wr, p.wd.cell? ⟨b', o' + k, none⟩ = some (.int .i64 x) := nb_cell (by simpa [EInt] using hE')
      have e1 : (x != x) = false := by simp
      clear hxk hxk' hE hE'
      go_wp2_with fail
      (refine wp_region_nb (by kernel_rfl) (by kernel_rfl) ?_; (repeat (first | go_big_quiet_step (fail) | quiet_step (fail))); (with_reducible refine wpQuiet_nil ?_); intro wq hw1; have hq := nb_out hw1; clear hw1)
      go_wp2
      go_roundw
      case rel => exact ⟨k + 1, by omega, by go_num, by (repeat (first | (with_reducible exact Chg.refl _ _) | ((with_reducible refine Chg.setNew ?_ _ ?_); rotate_left; first | (dsimp only; omega) | (simp; done) | (simp; omega)) | (with_reducible refine Chg.alloc ?_ _) | (with_reducible refine Chg.drew ?_) | (with_reducible refine Chg.drewN ?_ _) | (with_reducible refine Chg.no ?_ (by assumption)) | (with_reducible refine Chg.and_ ?_ (by assumption)) | ((with_reducible refine Chg.at_ ?_ (by assumption) ?_); rotate_left; (try simp only [World.size_alloc]); omega)))⟩
      case measure => simp [intOf]; omega
    · go_wp2
      go_ret
      exact ⟨rfl, by (repeat (first | (with_reducible exact Chg.refl _ _) | ((with_reducible refine Chg.setNew ?_ _ ?_); rotate_left; first | (dsimp only; omega) | (simp; done) | (simp; omega)) | (with_reducible refine Chg.alloc ?_ _) | (with_reducible refine Chg.drew ?_) | (with_reducible refine Chg.drewN ?_ _) | (with_reducible refine Chg.no ?_ (by assumption)) | (with_reducible refine Chg.and_ ?_ (by assumption)) | ((with_reducible refine Chg.at_ ?_ (by assumption) ?_); rotate_left; (try simp only [World.size_alloc]); omega)))⟩
set_option maxHeartbeats 1000000 in
theorem equalItem (l0 h0 l1 h1 : Nat) (A B : Option Addr) (n c d : Nat) (key tags : Int) (xs : List Int) (w : World) (hx : RInts w l0 h0 A n c xs) (hy : RInts w l1 h1 B n d xs) :
    Calls Try.prog 25 #[.agg #[.int .i64 key, .slice A n c, .int .i64 tags], .agg #[.int .i64 key, .slice B n d, .int .i64 tags]] w fun e w' => e = .returned (.bool true) ∧ Chg No w w' := by
  have HX := hid hx; have HY := hid hy
  have e0 : (key == key) = true := by simp
  have e1 : (tags == tags) = true := by simp
  clear hx hy
  go_enter Try.func25, Try.ntmps25
  (go_wp2_with fail; (with_reducible refine (equalInts _ _ _ _ _ _ _ _ _ xs _ (HX.out.no (by (repeat (first | (with_reducible exact Chg.refl _ _) | ((with_reducible refine Chg.setNew ?_ _ ?_); rotate_left; first | (dsimp only; omega) | (simp; done) | (simp; omega)) | (with_reducible refine Chg.alloc ?_ _) | (with_reducible refine Chg.drew ?_) | (with_reducible refine Chg.drewN ?_ _) | (with_reducible refine Chg.no ?_ (by assumption)) | (with_reducible refine Chg.and_ ?_ (by assumption)) | ((with_reducible refine Chg.at_ ?_ (by assumption) ?_); rotate_left; (try simp only [World.size_alloc]); omega))))) (HY.out.no (by (repeat (first | (with_reducible exact Chg.refl _ _) | ((with_reducible refine Chg.setNew ?_ _ ?_); rotate_left; first | (dsimp only; omega) | (simp; done) | (simp; omega)) | (with_reducible refine Chg.alloc ?_ _) | (with_reducible refine Chg.drew ?_) | (with_reducible refine Chg.drewN ?_ _) | (with_reducible refine Chg.no ?_ (by assumption)) | (with_reducible refine Chg.and_ ?_ (by assumption)) | ((with_reducible refine Chg.at_ ?_ (by assumption) ?_); rotate_left; (try simp only [World.size_alloc]); omega)))))).mono ?_); rintro e w1 ⟨rfl, hc1⟩)
  go_wp2
  go_ret
  exact ⟨rfl, by (repeat (first | (with_reducible exact Chg.refl _ _) | ((with_reducible refine Chg.setNew ?_ _ ?_); rotate_left; first | (dsimp only; omega) | (simp; done) | (simp; omega)) | (with_reducible refine Chg.alloc ?_ _) | (with_reducible refine Chg.drew ?_) | (with_reducible refine Chg.drewN ?_ _) | (with_reducible refine Chg.no ?_ (by assumption)) | (with_reducible refine Chg.and_ ?_ (by assumption)) | ((with_reducible refine Chg.at_ ?_ (by assumption) ?_); rotate_left; (try simp only [World.size_alloc]); omega)))⟩
set_option maxHeartbeats 2000000 in
theorem equalItems (l0 h0 l1 h1 : Nat) (A B : Option Addr) (n c d : Nat) (xs : List It) (w : World) (hx : RItems w l0 h0 A n c xs) (hy : RItems w l1 h1 B n d xs) :
    Calls Try.prog 21 #[.slice A n c, .slice B n d] w fun e w' => e = .returned (.bool true) ∧ Chg No w w' := by
  have hnc := hx.le; have hcm := hx.cap; have hnd := hy.le; have hdm := hy.cap
  have HX := hid hx; have HY := hid hy
  have e0 : ((n : Int) != n) = false := by simp
  clear hx hy
  go_enter Try.func21, Try.ntmps21
  go_wp2
  go_loopw [5] (fun i wr => ∃ k : Nat, k ≤ n ∧ i = .int .i64 k ∧ Chg No w wr) (fun i _ => n - (intOf i).toNat)
  case atStart => exact ⟨0, Nat.zero_le _, rfl, Chg.refl _ _⟩
  case round =>
    obtain ⟨k, hk, rfl, hc⟩ := hrel
    by_cases hlt : k < n
    · obtain ⟨b, o, x, rfl, _, _, hxk, hE⟩ := (HX.out.no hc).at_ hlt
      obtain ⟨b', o', x', rfl, _, _, hxk', hE'⟩ := (HY.out.no hc).at_ hlt
      obtain rfl : x = x' := by rw [hxk] at hxk'; injection hxk'
      obtain ⟨xk, xv, xt⟩ := x
      obtain ⟨hE1, ⟨A1, n1, c1, hE2, hv⟩, hE3⟩ := hE
      obtain ⟨hE1', ⟨A2, n2, c2, hE2', hv'⟩, hE3'⟩ := hE'
      obtain rfl : n1 = n2 := by have h8 : xv.length = n1 := hv.len; have h9 : xv.length = n2 := hv'.len; omega
      have f1 : ∀ p : NB wr, p.wd.cell? ⟨b, o + k * 3, none⟩ = some (.int .i64 xk) := nb_cell hE1
      have f2 : ∀ p : NB wr, p.wd.cell? ⟨b, o + k * 3 + 1, none⟩ = some (.slice A1 n1 c1) := nb_cell hE2
      have f3 : ∀ p : NB wr, p.wd.cell? ⟨b, o + k * 3 + 2, none⟩ = some (.int .i64 xt) := nb_cell hE3
      have f4 : ∀ p : NB wr, p.wd.cell? ⟨b', o' + k * 3, none⟩ = some (.int .i64 xk) := nb_cell hE1'
      have f5 : ∀ p : NB wr, p.wd.cell? ⟨b', o' + k * 3 + 1, none⟩ = some (.slice A2 n1 c2) := nb_cell hE2'
      have f6 : ∀ p : NB wr, p.wd.cell? ⟨b', o' + k * 3 + 2, none⟩ = some (.int .i64 xt) := nb_cell hE3'
      have e1 : (xk != xk) = false := by simp
      have e2 : (xt != xt) = false := by simp
      have HV := hid hv; have HV' := hid hv'
      clear hxk hxk' hE1 hE2 hE3 hE1' hE2' hE3' hv hv'
      go_wp2_with fail
      (refine wp_region_nb (by kernel_rfl) (by kernel_rfl) ?_; (repeat (first | go_big_quiet_step ((go_at_call 42; exact nb_of (equalInts _ _ _ _ _ _ _ _ _ xv _ (HV.out.no (NB.h _)) (HV'.out.no (NB.h _))))) | quiet_step ((go_at_call 42; exact nb_of (equalInts _ _ _ _ _ _ _ _ _ xv _ (HV.out.no (NB.h _)) (HV'.out.no (NB.h _))))))); (with_reducible refine wpQuiet_nil ?_); intro wq hw1; have hq := nb_out hw1; clear hw1)
      go_wp2
      go_roundw
      case rel => exact ⟨k + 1, by omega, by go_num, by (repeat (first | (with_reducible exact Chg.refl _ _) | ((with_reducible refine Chg.setNew ?_ _ ?_); rotate_left; first | (dsimp only; omega) | (simp; done) | (simp; omega)) | (with_reducible refine Chg.alloc ?_ _) | (with_reducible refine Chg.drew ?_) | (with_reducible refine Chg.drewN ?_ _) | (with_reducible refine Chg.no ?_ (by assumption)) | (with_reducible refine Chg.and_ ?_ (by assumption)) | ((with_reducible refine Chg.at_ ?_ (by assumption) ?_); rotate_left; (try simp only [World.size_alloc]); omega)))⟩
      case measure => simp [intOf]; omega
    · go_wp2
      go_ret
      exact ⟨rfl, by (repeat (first | (with_reducible exact Chg.refl _ _) | ((with_reducible refine Chg.setNew ?_ _ ?_); rotate_left; first | (dsimp only; omega) | (simp; done) | (simp; omega)) | (with_reducible refine Chg.alloc ?_ _) | (with_reducible refine Chg.drew ?_) | (with_reducible refine Chg.drewN ?_ _) | (with_reducible refine Chg.no ?_ (by assumption)) | (with_reducible refine Chg.and_ ?_ (by assumption)) | ((with_reducible refine Chg.at_ ?_ (by assumption) ?_); rotate_left; (try simp only [World.size_alloc]); omega)))⟩
set_option maxHeartbeats 1000000 in
theorem isInL (l0 h0 : Nat) (A : Option Addr) (n c : Nat) (xs : List Int) (x : Int) (w : World) (hx : RInts w l0 h0 A n c xs) :
    Calls Try.prog 43 #[.slice A n c, .int .i64 x] w fun e w' => e = .returned (.bool (decide (x ∈ xs))) ∧ w = w' := by
  have hnc := hx.le; have hcm := hx.cap
  have HX := hid hx
  have HM := hid (show ∀ b, decide (x ∈ xs) = b → decide (x ∈ xs) = b from fun _ h => h)
  generalize hr : decide (x ∈ xs) = r at *
  have HR := hid hr
  clear hx hr HM
  go_enter Try.func43, Try.ntmps43
  go_wp2
  go_loop [5] (fun i => ∃ k : Nat, k ≤ n ∧ i = .int .i64 k ∧ Hid (∀ (j : Nat) (y : Int), j < k → xs[j]? = some y → y ≠ x)) (fun i => n - (intOf i).toNat)
  case atStart => exact ⟨0, Nat.zero_le _, rfl, fun j y hj => absurd hj (by omega)⟩
  case round =>
    obtain ⟨k, hk, rfl, HN⟩ := hrel
    by_cases hlt : k < n
    · obtain ⟨b, o, y, rfl, _, _, hyk, hE⟩ := HX.out.at_ hlt
      have hE1 : w.cell? ⟨b, o + k, none⟩ = some (.int .i64 y) := by simpa [EInt] using hE
      have Hyk := hid hyk
      clear hyk hE
      by_cases he : y = x
      · have e1 : (y == x) = true := by simp [he]
        have HF := hid (show r = true from by rw [← HR.out, decide_eq_true_iff]; rw [← he]; exact List.mem_of_getElem? Hyk.out)
        clear he
        go_wp2
        go_ret
        exact ⟨by rw [HF.out]; rfl, rfl⟩
      · have e1 : (y == x) = false := by simp [he]
        have HN2 : Hid (∀ (j : Nat) (z : Int), j < k + 1 → xs[j]? = some z → z ≠ x) := fun j z hj hz => by
          by_cases hjk : j < k
          · exact HN.out j z hjk hz
          · obtain rfl : j = k := by omega
            rw [Hyk.out] at hz; injection hz with hz; subst hz; exact he
        clear he
        go_wp2
        go_round
        case rel => exact ⟨k + 1, by omega, by go_num, HN2⟩
        case measure => simp [intOf]; omega
    · have HF := hid (show r = false from by
        rw [← HR.out, decide_eq_false_iff_not]
        intro hm
        obtain ⟨j, hj⟩ := List.getElem?_of_mem hm
        exact HN.out j x (by have := (List.getElem?_eq_some_iff.1 hj).1; have := HX.out.len; omega) hj rfl)
      go_wp2
      go_ret
      exact ⟨by rw [HF.out]; rfl, rfl⟩
end Go.Proofs.Ytchblkeddeelhaa
