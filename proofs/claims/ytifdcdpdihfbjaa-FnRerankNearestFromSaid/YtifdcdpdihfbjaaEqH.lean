/- The laws' equalHits on slices that read as the same list. -/
import Derived.Test.YtifdcdpdihfbjaaQuiet
import Derived.Test.YtifdcdpdihfbjaaTypes
import Derived.Deep.RegionWith
namespace Go.Proofs.Ytifdcdpdihfbjaa
open Go.RowKit
set_option linter.unusedVariables false
set_option linter.unusedSimpArgs false
set_option maxHeartbeats 1000000 in
theorem equalHits (l0 h0 l1 h1 : Nat) (A B : Option Addr) (n c d : Nat) (xs : List (Int × Int)) (w : World) (hx : RHits w l0 h0 A n c xs) (hy : RHits w l1 h1 B n d xs) :
    Calls Try.prog 10 #[.slice A n c, .slice B n d] w fun e w' => e = .returned (.bool true) ∧ Chg No w w' := by
  have hnc := hx.le; have hcm := hx.cap; have hnd := hy.le; have hdm := hy.cap
  have HX := hid hx; have HY := hid hy
  have e0 : ((n : Int) != n) = false := by simp
  clear hx hy
  go_enter Try.func10, Try.ntmps10
  go_wp2
  go_loopw [5] (fun i wr => ∃ k : Nat, k ≤ n ∧ i = .int .i64 k ∧ Chg No w wr) (fun i _ => n - (intOf i).toNat)
  case atStart => exact ⟨0, Nat.zero_le _, rfl, Chg.refl _ _⟩
  case round =>
    obtain ⟨k, hk, rfl, hc⟩ := hrel
    by_cases hlt : k < n
    · obtain ⟨b, o, x, rfl, _, _, hxk, hE⟩ := (HX.out.no hc).at_ hlt
      obtain ⟨b', o', x', rfl, _, _, hxk', hE'⟩ := (HY.out.no hc).at_ hlt
      obtain rfl : x = x' := by rw [hxk] at hxk'; injection hxk'
      obtain ⟨x1, x2⟩ := x
      have f1 : ∀ p : NB wr, p.wd.cell? ⟨b, o + k * 2, none⟩ = some (.int .i64 x1) := nb_cell hE.1
      have f2 : ∀ p : NB wr, p.wd.cell? ⟨b, o + k * 2 + 1, none⟩ = some (.int .i64 x2) := nb_cell hE.2
      have f3 : ∀ p : NB wr, p.wd.cell? ⟨b', o' + k * 2, none⟩ = some (.int .i64 x1) := nb_cell hE'.1
      have f4 : ∀ p : NB wr, p.wd.cell? ⟨b', o' + k * 2 + 1, none⟩ = some (.int .i64 x2) := nb_cell hE'.2
      have e1 : (x1 == x1) = true := by simp
      have e2 : (x2 == x2) = true := by simp
      clear hxk hxk' hE hE'
      go_wp2_with fail
      (refine wp_region_nb (by kernel_rfl) (by kernel_rfl) ?_; (repeat (first | go_big_quiet_step (fail) | quiet_step (fail))); (with_reducible refine wpQuiet_nil ?_); intro wq hw1; have hq := nb_out hw1; clear hw1)
      go_wp2
      go_roundw
      case rel => exact ⟨k + 1, by omega, by go_num, by (repeat (first | (with_reducible exact Chg.refl _ _) | ((with_reducible refine Chg.setNew ?_ _ ?_); rotate_left; first | (dsimp only; omega) | (simp; done) | (simp; omega)) | (with_reducible refine Chg.alloc ?_ _) | (with_reducible refine Chg.drew ?_) | (with_reducible refine Chg.drewN ?_ _) | (with_reducible refine Chg.no ?_ (by assumption)) | (with_reducible refine Chg.and_ ?_ (by assumption)) | ((with_reducible refine Chg.at_ ?_ (by assumption) ?_); rotate_left; (try simp only [World.size_alloc]); omega)))⟩
      case measure => simp [intOf]; omega
    · go_wp2
      go_ret
      exact ⟨rfl, by (repeat (first | (with_reducible exact Chg.refl _ _) | ((with_reducible refine Chg.setNew ?_ _ ?_); rotate_left; first | (dsimp only; omega) | (simp; done) | (simp; omega)) | (with_reducible refine Chg.alloc ?_ _) | (with_reducible refine Chg.drew ?_) | (with_reducible refine Chg.drewN ?_ _) | (with_reducible refine Chg.no ?_ (by assumption)) | (with_reducible refine Chg.and_ ?_ (by assumption)) | ((with_reducible refine Chg.at_ ?_ (by assumption) ?_); rotate_left; (try simp only [World.size_alloc]); omega)))⟩
end Go.Proofs.Ytifdcdpdihfbjaa
