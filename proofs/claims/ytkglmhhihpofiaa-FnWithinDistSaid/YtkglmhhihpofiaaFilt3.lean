/- Filters, the third part: the drawn filters. -/
import Derived.Test.YtkglmhhihpofiaaProg
import Derived.Test.YtkglmhhihpofiaaRead
namespace Go.Proofs.Ytkglmhhihpofiaa
open Go.RowKit
set_option linter.unusedVariables false
/-- a filter has been drawn -/
def DrawnF (B g m : Nat) (w : World) (e : Ending) (w' : World) : Prop := ∃ a b c : Int, e = .returned (.agg #[.int .i64 a, .int .i64 b, .int .i64 c]) ∧ Rd w' B g m ∧ Chg (At g) w w'
set_option maxHeartbeats 1000000 in
theorem anyFilter {B : Nat} (g m : Nat) (w : World) (hR : Rd w B g m) (hm : m < 900000) : Calls Try.prog 67 #[.pointer (some ⟨g, 0, none⟩)] w (DrawnF B g (m + 5) w) := by
  have hg := hR.lt
  have hb := hR.base
  have hgne : ¬ g = w.heap.size := by omega
  go_enter Try.func67, Try.ntmps67
  go_wp2_with fail
  refine (oneLit g m [0, 1, 2, 0, 4, 3] 6 _ _ (hR.no (((Chg.refl _ _).alloc _).alloc _)) (by omega) (heap_top (by simp)) rfl rfl (by omega) (by omega) (by omega)).mono ?_
  rintro e w1 ⟨x1, rfl, _, hR1, hc1⟩
  have r1 := Chg.rulesAt hc1
  have s1 := hc1.size
  simp only [World.size_alloc] at s1
  go_wp2_with fail
  refine (oneLit g (m + 1) [0, 8, 1, 0, 2] 5 _ _ (hR1.no ((Chg.refl _ _).alloc _)) (by omega) (heap_top (by simp)) rfl rfl (by omega) (by omega) (by omega)).mono ?_
  rintro e w2 ⟨x2, rfl, _, hR2, hc2⟩
  have r2 := Chg.rulesAt hc2
  have s2 := hc2.size
  simp only [World.size_alloc] at s2
  go_wp2_with fail
  refine (oneLit g (m + 2) [0, 0, 3, 12, 15] 5 _ _ (hR2.no ((Chg.refl _ _).alloc _)) (by omega) (heap_top (by simp)) rfl rfl (by omega) (by omega) (by omega)).mono ?_
  rintro e w3 ⟨x3, rfl, _, hR3, hc3⟩
  have r3 := Chg.rulesAt hc3
  have s3 := hc3.size
  simp only [World.size_alloc] at s3
  go_wp2_with fail
  refine (pick g (m + 3) _ _ (hR3.no ((Chg.refl _ _).alloc _)) (by omega) (by omega)).mono ?_
  rintro e w4 ⟨x4, rfl, _, hR4, hc4⟩
  have r4 := Chg.rulesAt hc4
  have s4 := hc4.size
  simp only [World.size_alloc] at s4
  have n1 : ¬ w.heap.size = g ∧ ¬ w3.heap.size = g ∧ ¬ w.heap.size = w3.heap.size ∧ ¬ w3.heap.size = w.heap.size := by omega
  have z1 : w.heap.size < w1.heap.size ∧ w.heap.size < w2.heap.size ∧ w.heap.size < w3.heap.size ∧ w.heap.size < w4.heap.size ∧ w3.heap.size < w4.heap.size := by omega
  go_wp2_with fail
  · refine (oneLit g (m + 4) [-1, 16] 2 _ _ (hR4.no ((Chg.refl _ _).alloc _)) (by omega) (heap_top (by simp)) rfl rfl (by omega) (by omega) (by omega)).mono ?_
    rintro e w5 ⟨x5, rfl, _, hR5, hc5⟩
    have r5 := Chg.rulesAt hc5
    have s5 := hc5.size
    simp only [World.size_alloc] at s5
    have z5 : w.heap.size < w5.heap.size ∧ w3.heap.size < w5.heap.size := by omega
    have h5 : w5.cell? ⟨w3.heap.size, 2, none⟩ = some (.int .i64 x3) := by go_simp
    go_wp2
    (refine bodyPost_ret (by simp [results, Try.results67, go_sem, *]; rfl) rfl ?_)
    refine ⟨_, _, _, rfl, (hR5.young ?_), ?_⟩
    · (repeat (first | (with_reducible exact Chg.refl _ _) | ((with_reducible refine Chg.setCell ?_ _ ?_); rotate_left; (intro _; (try unfold Young); dsimp only; omega)) | (with_reducible refine Chg.alloc ?_ _) | (with_reducible refine Chg.drew ?_) | (with_reducible refine Chg.drewN ?_ _)))
    · (repeat (first | (with_reducible exact Chg.refl _ _) | ((with_reducible refine Chg.setNew ?_ _ ?_); rotate_left; first | (dsimp only; omega) | (simp; done) | (simp; omega)) | (with_reducible refine Chg.alloc ?_ _) | (with_reducible refine Chg.drew ?_) | (with_reducible refine Chg.drewN ?_ _) | (with_reducible refine Chg.no ?_ (by assumption)) | (with_reducible refine Chg.and_ ?_ (by assumption)) | ((with_reducible refine Chg.at_ ?_ (by assumption) ?_); rotate_left; (try simp only [World.size_alloc]); omega)))
  · (refine bodyPost_ret (by simp [results, Try.results67, go_sem, *]; rfl) rfl ?_)
    refine ⟨_, _, _, rfl, (hR4.mono (by omega)).young ?_, ?_⟩
    · (repeat (first | (with_reducible exact Chg.refl _ _) | ((with_reducible refine Chg.setCell ?_ _ ?_); rotate_left; (intro _; (try unfold Young); dsimp only; omega)) | (with_reducible refine Chg.alloc ?_ _) | (with_reducible refine Chg.drew ?_) | (with_reducible refine Chg.drewN ?_ _)))
    · (repeat (first | (with_reducible exact Chg.refl _ _) | ((with_reducible refine Chg.setNew ?_ _ ?_); rotate_left; first | (dsimp only; omega) | (simp; done) | (simp; omega)) | (with_reducible refine Chg.alloc ?_ _) | (with_reducible refine Chg.drew ?_) | (with_reducible refine Chg.drewN ?_ _) | (with_reducible refine Chg.no ?_ (by assumption)) | (with_reducible refine Chg.and_ ?_ (by assumption)) | ((with_reducible refine Chg.at_ ?_ (by assumption) ?_); rotate_left; (try simp only [World.size_alloc]); omega)))
end Go.Proofs.Ytkglmhhihpofiaa
