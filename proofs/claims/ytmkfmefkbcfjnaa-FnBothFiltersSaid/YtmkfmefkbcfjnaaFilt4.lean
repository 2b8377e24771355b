/- Filters, the fourth part: the drawn arguments. -/
import Derived.Test.YtmkfmefkbcfjnaaProg
import Derived.Test.YtmkfmefkbcfjnaaFilt3
import Derived.Test.YtmkfmefkbcfjnaaMem2
import Derived.Deep.RegionWith
namespace Go.Proofs.Ytmkfmefkbcfjnaa
open Go.RowKit
set_option linter.unusedVariables false
def DrawnV (w : World) (e : Ending) (w' : World) : Prop := ∃ a b c : Int, e = .returned (.agg #[.int .i64 a, .int .i64 b, .int .i64 c]) ∧ Chg No w w'
set_option maxHeartbeats 1000000 in
theorem drawValidFilter (A : Option Addr) (n c : Nat) (w : World) (hC : Code w w.heap.size A n c) : Calls Try.prog 19 #[.slice A n c] w (DrawnV w) := by
  go_enter Try.func19, Try.ntmps19
  go_wp2_with fail
  refine (newReader w.heap.size A n c _ (hC.no ((Chg.refl _ _).alloc _)) (by simp only [World.size_alloc]; omega)).mono ?_
  rintro e w1 ⟨rfl, hR1, hc1⟩
  have r1 := hc1.rules
  have s1 := hc1.size
  have l1 := hR1.lt
  simp only [World.size_alloc] at s1 hR1 l1
  go_wp2_with fail
  refine (anyFilter _ 0 _ hR1 (by omega)).mono ?_
  rintro e w2 ⟨x1, x2, x3, rfl, hR2, hc2⟩
  have r2 := Chg.rulesAt hc2
  have s2 := hc2.size
  have z2 : w.heap.size < w1.heap.size ∧ w.heap.size < w2.heap.size := by omega
  go_wp2
  (refine bodyPost_ret (by simp [results, Try.results19, go_sem, *]; rfl) rfl ?_)
  refine ⟨_, _, _, rfl, ?_⟩
  (repeat (first | (with_reducible exact Chg.refl _ _) | ((with_reducible refine Chg.setNew ?_ _ ?_); rotate_left; first | (dsimp only; omega) | (simp; done) | (simp; omega)) | (with_reducible refine Chg.alloc ?_ _) | (with_reducible refine Chg.drew ?_) | (with_reducible refine Chg.drewN ?_ _) | (with_reducible refine Chg.no ?_ (by assumption)) | (with_reducible refine Chg.and_ ?_ (by assumption)) | ((with_reducible refine Chg.at_ ?_ (by assumption) ?_); rotate_left; (try simp only [World.size_alloc]); omega)))
def DrawnP (w : World) (e : Ending) (w' : World) : Prop := ∃ a b c t : Int, e = .returned (.tuple #[.agg #[.int .i64 a, .int .i64 b, .int .i64 c], .int .i64 t]) ∧ Chg No w w'
set_option maxHeartbeats 1000000 in
theorem drawPasses (A : Option Addr) (n c : Nat) (w : World) (hC : Code w w.heap.size A n c) : Calls Try.prog 21 #[.slice A n c] w (DrawnP w) := by
  go_enter Try.func21, Try.ntmps21
  go_wp2_with fail
  refine (newReader w.heap.size A n c _ (hC.no ((Chg.refl _ _).alloc _)) (by simp only [World.size_alloc]; omega)).mono ?_
  rintro e w1 ⟨rfl, hR1, hc1⟩
  have s1 := hc1.size
  have l1 := hR1.lt
  simp only [World.size_alloc] at s1 hR1 l1
  go_wp2_with fail
  refine (anyFilter _ 0 _ hR1 (by omega)).mono ?_
  rintro e w2 ⟨x1, x2, x3, rfl, hR2, hc2⟩
  have s2 := hc2.size
  have b0 : Box w2 w.heap.size [.int .i64 0, .int .i64 0, .int .i64 0] := ((Box.new _ _ rfl).no hc1).keep hc2 (fun h : _ = _ => by omega)
  go_wp2_with fail
  go_region_with (go_at_call 30; refine (pick _ 5 _ _ (hR2.young (by (repeat (first | (with_reducible exact Chg.refl _ _) | ((with_reducible refine Chg.setCell ?_ _ ?_); rotate_left; (intro _; (try unfold Young); dsimp only; omega)) | (with_reducible refine Chg.alloc ?_ _) | (with_reducible refine Chg.drew ?_) | (with_reducible refine Chg.drewN ?_ _))))) (by omega) (by omega)).mono ?_; rintro e w3 ⟨y, rfl, hy, hR3, hc3⟩; have hy1 := hy.1; have hy2 : y < 18 := (by rcases hy.2 with h | h <;> omega); have q0 := ((b0.alloc _).drew.keep hc3 (fun h : _ = _ => by omega)).f3; have q2 := Box.f3 ((Box.new [.int .i64 x1, .int .i64 x2, .int .i64 x3] _ rfl).drew.keep hc3 (fun h : _ = _ => by omega)))
  all_goals go_wp2
  all_goals (refine bodyPost_ret (by simp [results, Try.results21, go_sem, *]; rfl) rfl ?_)
  all_goals (refine ⟨_, _, _, _, rfl, ?_⟩)
  all_goals (repeat (first | (with_reducible exact Chg.refl _ _) | ((with_reducible refine Chg.setNew ?_ _ ?_); rotate_left; first | (dsimp only; omega) | (simp; done) | (simp; omega)) | (with_reducible refine Chg.alloc ?_ _) | (with_reducible refine Chg.drew ?_) | (with_reducible refine Chg.drewN ?_ _) | (with_reducible refine Chg.no ?_ (by assumption)) | (with_reducible refine Chg.and_ ?_ (by assumption)) | ((with_reducible refine Chg.at_ ?_ (by assumption) ?_); rotate_left; (try simp only [World.size_alloc]); omega)))
def DrawnBoth (w : World) (e : Ending) (w' : World) : Prop := ∃ a b c a' b' c' : Int, e = .returned (.tuple #[.agg #[.int .i64 a, .int .i64 b, .int .i64 c], .agg #[.int .i64 a', .int .i64 b', .int .i64 c']]) ∧ Chg No w w'
set_option maxHeartbeats 1000000 in
theorem drawBothFilters (A : Option Addr) (n c : Nat) (w : World) (hC : Code w w.heap.size A n c) : Calls Try.prog 20 #[.slice A n c] w (DrawnBoth w) := by
  go_enter Try.func20, Try.ntmps20
  go_wp2_with fail
  refine (newReader w.heap.size A n c _ (hC.no (((Chg.refl _ _).alloc _).alloc _)) (by simp only [World.size_alloc]; omega)).mono ?_
  rintro e w1 ⟨rfl, hR1, hc1⟩
  have r1 := hc1.rules
  have s1 := hc1.size
  have l1 := hR1.lt
  simp only [World.size_alloc] at s1 hR1 l1
  go_wp2_with fail
  refine (anyFilter _ 0 _ hR1 (by omega)).mono ?_
  rintro e w2 ⟨x1, x2, x3, rfl, hR2, hc2⟩
  have r2 := Chg.rulesAt hc2
  have s2 := hc2.size
  have z2 : w.heap.size < w1.heap.size ∧ w.heap.size < w2.heap.size ∧ w.heap.size + 1 < w1.heap.size ∧ w.heap.size + 1 < w2.heap.size ∧ w.heap.size < w2.heap.size + 1 ∧ w.heap.size + 1 < w2.heap.size + 1 ∧ ¬ w.heap.size = w2.heap.size ∧ ¬ w.heap.size + 1 = w2.heap.size ∧ ¬ w2.heap.size = w.heap.size ∧ ¬ w2.heap.size = w.heap.size + 1 ∧ ¬ w2.heap.size = w.heap.size + 1 + 1 := by omega
  have b0 : Box w2 w.heap.size [.int .i64 0, .int .i64 0, .int .i64 0] := ((((Box.new _ _ rfl).alloc _).no hc1).keep hc2 (fun h : _ = _ => by omega))
  have b1 : Box w2 (w.heap.size + 1) [.int .i64 0, .int .i64 0, .int .i64 0] := (((Box.new _ _ (by simp)).no hc1).keep hc2 (fun h : _ = _ => by omega))
  go_wp2_with fail
  go_region_with (go_at_call 28; refine (anyFilter _ 5 _ (hR2.young (by (repeat (first | (with_reducible exact Chg.refl _ _) | ((with_reducible refine Chg.setCell ?_ _ ?_); rotate_left; (intro _; (try unfold Young); dsimp only; omega)) | (with_reducible refine Chg.alloc ?_ _) | (with_reducible refine Chg.drew ?_) | (with_reducible refine Chg.drewN ?_ _))))) (by omega)).mono ?_; rintro e w3 ⟨y1, y2, y3, rfl, hR3, hc3⟩; have q0 := ((b0.alloc _).drew.keep hc3 (fun h : _ = _ => by omega)).f3; have q1 := ((b1.alloc _).drew.keep hc3 (fun h : _ = _ => by omega)).f3; have q2 := Box.f3 ((Box.new [.int .i64 x1, .int .i64 x2, .int .i64 x3] _ rfl).drew.keep hc3 (fun h : _ = _ => by omega)))
  all_goals go_wp2
  all_goals (refine bodyPost_ret (by simp [results, Try.results20, go_sem, *]; rfl) rfl ?_)
  all_goals (refine ⟨_, _, _, _, _, _, rfl, ?_⟩)
  all_goals (repeat (first | (with_reducible exact Chg.refl _ _) | ((with_reducible refine Chg.setNew ?_ _ ?_); rotate_left; first | (dsimp only; omega) | (simp; done) | (simp; omega)) | (with_reducible refine Chg.alloc ?_ _) | (with_reducible refine Chg.drew ?_) | (with_reducible refine Chg.drewN ?_ _) | (with_reducible refine Chg.no ?_ (by assumption)) | (with_reducible refine Chg.and_ ?_ (by assumption)) | ((with_reducible refine Chg.at_ ?_ (by assumption) ?_); rotate_left; (try simp only [World.size_alloc]); omega)))
end Go.Proofs.Ytmkfmefkbcfjnaa
