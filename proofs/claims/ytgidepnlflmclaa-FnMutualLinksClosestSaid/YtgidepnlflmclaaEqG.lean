/- The laws' equalInts on any two slices: it tells whether they read as the same list. -/
import Derived.Test.YtgidepnlflmclaaQuiet
import Derived.Test.YtgidepnlflmclaaTypes
import Derived.Deep.RegionWith
namespace Go.Proofs.Ytgidepnlflmclaa
open Go.RowKit
set_option linter.unusedVariables false
set_option linter.unusedSimpArgs false
set_option maxHeartbeats 1000000 in
theorem equalIntsG (l0 h0 l1 h1 : Nat) (A B : Option Addr) (n c m d : Nat) (xs ys : List Int) (w : World) (hx : RInts w l0 h0 A n c xs) (hy : RInts w l1 h1 B m d ys) :
    Calls Try.prog 23 #[.slice A n c, .slice B m d] w fun e w' => e = .returned (.bool (decide (xs = ys))) ∧ Chg No w w' := by
  have hnc := hx.le; have hcm := hx.cap; have hnd := hy.le; have hdm := hy.cap
  have HX := hid hx; have HY := hid hy
  have hxl : xs.length = n := hx.len
  have hyl : ys.length = m := hy.len
  obtain ⟨r, hr⟩ : ∃ r, decide (xs = ys) = r := ⟨_, rfl⟩
  have HR := hid hr
  rw [hr]
  clear hx hy hr
  by_cases hnm : n = m
  · subst hnm
    have e0 : ((n : Int) != n) = false := by simp
    have HXL := hid hxl; have HYL := hid hyl
    clear hxl hyl
    go_enter Try.func23, Try.ntmps23
    go_wp2
    go_loopw [5] (fun i wr => ∃ k : Nat, k ≤ n ∧ i = .int .i64 k ∧ Chg No w wr ∧ Hid (xs.take k = ys.take k)) (fun i _ => n - (intOf i).toNat)
    case atStart => exact ⟨0, Nat.zero_le _, rfl, Chg.refl _ _, hid (by simp)⟩
    case round =>
      obtain ⟨k, hk, rfl, hc, HT⟩ := hrel
      by_cases hlt : k < n
      · obtain ⟨b, o, x, rfl, _, _, hxk, hE⟩ := (HX.out.no hc).at_ hlt
        obtain ⟨b', o', y, rfl, _, _, hyk, hE'⟩ := (HY.out.no hc).at_ hlt
        have f1 : ∀ p : NB wr, p.wd.cell? ⟨b, o + k, none⟩ = some (.int .i64 x) := nb_cell (by simpa [EInt] using hE)
        have f2 : ∀ p : NB wr, p.wd.cell? ⟨b', o' + k, none⟩ = some (.int .i64 y) := nb_cell (by simpa [EInt] using hE')
        have Hx := hid hxk; have Hy := hid hyk
        clear hxk hyk hE hE'
        by_cases he : x = y
        · have e1 : (x != y) = false := by simp [he]
          have HT2 := hid (show xs.take (k + 1) = ys.take (k + 1) from by rw [take_snoc Hx.out, take_snoc Hy.out, HT.out, he])
          clear he
          go_wp2_with fail
          (refine wp_region_nb (by kernel_rfl) (by kernel_rfl) ?_; (repeat (first | go_big_quiet_step (fail) | quiet_step (fail))); (with_reducible refine wpQuiet_nil ?_); intro wq hw1; have hq := nb_out hw1; clear hw1)
          go_wp2
          go_roundw
          case rel => exact ⟨k + 1, by omega, by go_num, by (repeat (first | (with_reducible exact Chg.refl _ _) | ((with_reducible refine Chg.setNew ?_ _ ?_); rotate_left; first | (dsimp only; omega) | (simp; done) | (simp; omega)) | (with_reducible refine Chg.alloc ?_ _) | (with_reducible refine Chg.drew ?_) | (with_reducible refine Chg.drewN ?_ _) | (with_reducible refine Chg.no ?_ (by assumption)) | (with_reducible refine Chg.and_ ?_ (by assumption)) | ((with_reducible refine Chg.at_ ?_ (by assumption) ?_); rotate_left; (try simp only [World.size_alloc]); omega))), HT2⟩
          case measure => simp [intOf]; omega
        · have e1 : (x != y) = true := by simp [he]
          have HF := hid (show r = false from by
            rw [← HR.out]
            refine decide_eq_false (fun h => he ?_)
            have h1 := Hx.out
            rw [h, Hy.out] at h1
            injection h1 with h1
            exact h1.symm)
          clear he
          go_wp2_with fail
          (refine wp_region_nb (by kernel_rfl) (by kernel_rfl) ?_; (repeat (first | go_big_quiet_step (fail) | quiet_step (fail))); (with_reducible refine wpQuiet_nil ?_); intro wq hw1; have hq := nb_out hw1; clear hw1)
          go_wp2
          go_ret
          exact ⟨by rw [HF.out]; rfl, by (repeat (first | (with_reducible exact Chg.refl _ _) | ((with_reducible refine Chg.setNew ?_ _ ?_); rotate_left; first | (dsimp only; omega) | (simp; done) | (simp; omega)) | (with_reducible refine Chg.alloc ?_ _) | (with_reducible refine Chg.drew ?_) | (with_reducible refine Chg.drewN ?_ _) | (with_reducible refine Chg.no ?_ (by assumption)) | (with_reducible refine Chg.and_ ?_ (by assumption)) | ((with_reducible refine Chg.at_ ?_ (by assumption) ?_); rotate_left; (try simp only [World.size_alloc]); omega)))⟩
      · have HF := hid (show r = true from by
          rw [← HR.out]
          refine decide_eq_true ?_
          have h1 := HT.out
          rw [List.take_of_length_le (by rw [HXL.out]; omega), List.take_of_length_le (by rw [HYL.out]; omega)] at h1
          exact h1)
        go_wp2
        go_ret
        exact ⟨by rw [HF.out]; rfl, by (repeat (first | (with_reducible exact Chg.refl _ _) | ((with_reducible refine Chg.setNew ?_ _ ?_); rotate_left; first | (dsimp only; omega) | (simp; done) | (simp; omega)) | (with_reducible refine Chg.alloc ?_ _) | (with_reducible refine Chg.drew ?_) | (with_reducible refine Chg.drewN ?_ _) | (with_reducible refine Chg.no ?_ (by assumption)) | (with_reducible refine Chg.and_ ?_ (by assumption)) | ((with_reducible refine Chg.at_ ?_ (by assumption) ?_); rotate_left; (try simp only [World.size_alloc]); omega)))⟩
  · have e0 : ((n : Int) != m) = true := by simp; omega
    have HF := hid (show r = false from by
      rw [← HR.out]
      refine decide_eq_false (fun h => hnm ?_)
      rw [← hxl, ← hyl, h])
    clear hxl hyl hnm
    go_enter Try.func23, Try.ntmps23
    go_wp2
    go_ret
    exact ⟨by rw [HF.out]; rfl, Chg.refl _ _⟩
end Go.Proofs.Ytgidepnlflmclaa
