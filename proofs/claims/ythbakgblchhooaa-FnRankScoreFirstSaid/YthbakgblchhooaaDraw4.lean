/- The drawn arguments: hits and a key. -/
import Derived.Test.YthbakgblchhooaaDraw3
namespace Go.Proofs.Ythbakgblchhooaa
open Go.RowKit
set_option linter.unusedVariables false
set_option linter.unusedSimpArgs false
/-- hits and a key have been drawn -/
def DrawnHK (w : World) (e : Ending) (w' : World) : Prop := ∃ (v : Value) (xs : List (Int × Int)) (key : Int), e = .returned (.tuple #[v, .int .i64 key]) ∧ OHits w' w.heap.size v xs ∧ xs.length ≤ 17 ∧ Chg No w w'
set_option maxHeartbeats 2000000 in
theorem drawRankScore (A : Option Addr) (n c : Nat) (w : World) (hC : Code w w.heap.size A n c) : Calls Try.prog 22 #[.slice A n c] w (DrawnHK w) := by
  go_enter Try.func22, Try.ntmps22
  (go_wp2_with fail; (with_reducible refine (newReader w.heap.size A n c _ hC (Nat.le_refl _)).mono ?_); rintro e w1 ⟨rfl, hR1, hc1⟩)
  have s1 := hR1.lt
  (go_wp2_with fail; (with_reducible refine (anyHits _ 0 _ hR1 (by omega)).mono ?_); rintro e w2 ⟨v, xs, rfl, ho, hl, hR2, hc2⟩)
  have s2 := hc2.size
  obtain ⟨A9, c9, hv9, hcl, hcm, hA9⟩ := OSl.form ho
  have hcm' : c9 ≤ 9223372036854775807 := by unfold maxLen at hcm; omega
  subst hv9
  have HO := hid ho
  have HA := hid hA9
  have hc02 : Chg No w w2 := hc1.trans hc2 (fun i hi (e : i = _) => by omega)
  clear ho hA9 hcm hR1
  by_cases h0 : 0 < xs.length
  · have e0 : decide (0 < xs.length) = true := decide_eq_true h0
    obtain ⟨gg, rfl, hgg⟩ := HA.out h0
    (go_wp2_with fail; (with_reducible refine (pick _ 300 _ _ hR2 (by omega) (by omega)).mono ?_); rintro e w3 ⟨y, rfl, hy, hR3, hc3⟩)
    have by3 := picked_lt hy (by omega)
    have hy0 := by3.1
    clear hy by3
    have hc03 : Chg No w w3 := hc02.trans hc3 (fun i hi (e : i = _) => by omega)
    have HO3 := hid (chg_at_keep HO.out hc3 (by omega))
    have s3 := hc3.size
    by_cases hp : 0 < y
    · go_wp2_with fail
      (go_region_with (go_at_call 36; (with_reducible refine (pick _ 301 _ _ (hR3.no (by (repeat (first | (with_reducible exact Chg.refl _ _) | ((with_reducible refine Chg.setNew ?_ _ ?_); rotate_left; first | (dsimp only; omega) | (simp; done) | (simp; omega)) | (with_reducible refine Chg.alloc ?_ _) | (with_reducible refine Chg.drew ?_) | (with_reducible refine Chg.drewN ?_ _) | (with_reducible refine Chg.no ?_ (by assumption)) | (with_reducible refine Chg.and_ ?_ (by assumption)) | ((with_reducible refine Chg.at_ ?_ (by assumption) ?_); rotate_left; (try simp only [World.size_alloc]); omega))))) (by omega) (by omega)).mono ?_); rintro e w4 ⟨z, rfl, hz, hR4, hc4⟩; have bz := picked_lt hz (by omega); obtain ⟨zn, rfl⟩ := Int.eq_ofNat_of_zero_le bz.1; have hzn : zn < xs.length := (by omega); have f1 := OSl.cell (chg_at_keep (HO3.out.no (Chg.drew (Chg.refl No _))) hc4 (by omega)) (fun _ => rfl) (i := 0) (List.getElem?_eq_getElem hzn) rfl; rw [Nat.add_zero] at f1))
      all_goals
        have HO4 := hid (OSl.down (chg_at_keep (HO3.out.no (Chg.drew (Chg.refl No _))) hc4 (by omega)) (base' := w.heap.size) (by omega))
        have hc04 : Chg No w w4 := (Chg.drew hc03).trans hc4 (fun i hi (e : i = _) => by omega)
        go_wp2
        go_ret2
        exact ⟨_, xs, _, rfl, HO4.out, hl, hc04⟩
    · (go_wp2_with fail; (with_reducible refine (pick _ 301 _ _ hR3 (by omega) (by omega)).mono ?_); rintro e w4 ⟨z, rfl, hz, hR4, hc4⟩)
      have HO4 := hid (OSl.down (chg_at_keep HO3.out hc4 (by omega)) (base' := w.heap.size) (by omega))
      have hc04 : Chg No w w4 := hc03.trans hc4 (fun i hi (e : i = _) => by omega)
      go_wp2
      go_ret2
      exact ⟨_, xs, _, rfl, HO4.out, hl, hc04⟩
  · have e0 : decide (0 < xs.length) = false := decide_eq_false h0
    (go_wp2_with fail; (with_reducible refine (pick _ 300 _ _ hR2 (by omega) (by omega)).mono ?_); rintro e w4 ⟨z, rfl, hz, hR4, hc4⟩)
    have HO4 := hid (OSl.down (chg_at_keep HO.out hc4 (by omega)) (base' := w.heap.size) (by omega))
    have hc04 : Chg No w w4 := hc02.trans hc4 (fun i hi (e : i = _) => by omega)
    go_wp2
    go_ret2
    exact ⟨_, xs, _, rfl, HO4.out, hl, hc04⟩
end Go.Proofs.Ythbakgblchhooaa
