/- The drawn arguments: a store and a filter. -/
import Derived.Test.YtchblkeddeelhaaDraw7
namespace Go.Proofs.Ytchblkeddeelhaa
open Go.RowKit
set_option linter.unusedVariables false
set_option linter.unusedSimpArgs false
/-- a store and a filter have been drawn -/
def DrawnFS (w : World) (e : Ending) (w' : World) : Prop := ∃ (v : Value) (xs : List It) (a b c : Int), e = .returned (.tuple #[v, .agg #[.int .i64 a, .int .i64 b, .int .i64 c]]) ∧ OItems w' w.heap.size v xs ∧ xs.length ≤ 17 ∧ Chg No w w'
set_option maxHeartbeats 1000000 in
theorem drawFilterStore (A : Option Addr) (n c : Nat) (w : World) (hC : Code w w.heap.size A n c) : Calls Try.prog 20 #[.slice A n c] w (DrawnFS w) := by
  go_enter Try.func20, Try.ntmps20
  go_wp2_with fail
  refine (newReader w.heap.size A n c _ (hC.no ((Chg.refl _ _).alloc _)) (by simp only [World.size_alloc]; omega)).mono ?_
  rintro e w1 ⟨rfl, hR1, hc1⟩
  have s1 := hc1.size
  have l1 := hR1.lt
  simp only [World.size_alloc] at s1 hR1 l1
  (go_wp2_with fail; (with_reducible refine (anyStore _ 0 _ hR1 (by omega)).mono ?_); rintro e w2 ⟨v, xs, rfl, ho, hl, hR2, hc2⟩)
  have s2 := hc2.size
  have HO2 := hid ho
  clear ho
  obtain ⟨A9, c9, hv9, hr9⟩ := OItems.read HO2.out
  subst hv9
  clear hr9
  (go_wp2_with fail; (with_reducible refine (anyFilter _ 320 _ hR2 (by omega)).mono ?_); rintro e w3 ⟨x1, x2, x3, rfl, hR3, hc3⟩)
  have s3 := hc3.size
  have b0 : Box w3 w.heap.size [.int .i64 0, .int .i64 0, .int .i64 0] := (((Box.new _ _ rfl).no hc1).keep hc2 (fun h : _ = _ => by omega)).keep hc3 (fun h : _ = _ => by omega)
  have q0 := b0.f3
  have q1 := b0.lt
  have HO3 := hid (HO2.out.keep hc3 (fun k h1 h2 (h3 : k = _) => by omega))
  clear HO2 b0
  go_wp2
  (refine bodyPost_ret (by simp [results, Try.results20, go_sem, *]; rfl) rfl ?_)
  refine ⟨_, xs, _, _, _, rfl, ?_, hl, ?_⟩
  · refine (HO3.out.keep (S := fun k => k = w.heap.size) ?_ (fun k h1 h2 h3 => by omega)).down (by omega)
    (repeat (first | (with_reducible exact Chg.refl _ _) | (with_reducible refine Chg.drew ?_) | ((with_reducible refine Chg.setCell ?_ _ ?_); rotate_left; (intro _; rfl))))
  · (repeat (first | (with_reducible exact Chg.refl _ _) | ((with_reducible refine Chg.setNew ?_ _ ?_); rotate_left; first | (dsimp only; omega) | (simp; done) | (simp; omega)) | (with_reducible refine Chg.alloc ?_ _) | (with_reducible refine Chg.drew ?_) | (with_reducible refine Chg.drewN ?_ _) | (with_reducible refine Chg.no ?_ (by assumption)) | (with_reducible refine Chg.and_ ?_ (by assumption)) | ((with_reducible refine Chg.at_ ?_ (by assumption) ?_); rotate_left; (try simp only [World.size_alloc]); omega)))
end Go.Proofs.Ytchblkeddeelhaa
