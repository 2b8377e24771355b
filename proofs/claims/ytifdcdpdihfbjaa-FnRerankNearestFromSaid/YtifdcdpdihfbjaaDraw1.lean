/- The drawn arguments: coordinates and vectors. -/
import Derived.Test.YtifdcdpdihfbjaaRead
import Derived.Test.YtifdcdpdihfbjaaMem2
import Derived.Test.YtifdcdpdihfbjaaTypes
import Derived.Test.YtifdcdpdihfbjaaPStore
namespace Go.Proofs.Ytifdcdpdihfbjaa
open Go.RowKit
set_option linter.unusedVariables false
set_option linter.unusedSimpArgs false
theorem At.mem {g k : Nat} (h : k ≠ g) : ¬ At g k := h
theorem picked_lt {k x : Int} (h : Picked k x) (hk : 1 ≤ k) : 0 ≤ x ∧ x < k := by
  obtain ⟨h0, h1 | h1⟩ := h <;> omega
/-- a coordinate has been drawn -/
def DrCoord (B g m : Nat) (w : World) (e : Ending) (w' : World) : Prop := ∃ x : Int, e = .returned (.int .i64 x) ∧ (-100 ≤ x ∧ x ≤ 100) ∧ Rd w' B g (m + 3) ∧ Chg (At g) w w'
set_option maxHeartbeats 1000000 in
theorem someCoord {B : Nat} (g m : Nat) (w : World) (hR : Rd w B g m) (hm : m < 900000) : Calls Try.prog 110 #[.pointer (some ⟨g, 0, none⟩)] w (DrCoord B g m w) := by
  have hg := hR.lt
  go_enter Try.func110, Try.ntmps110
  (go_wp2_with fail; (with_reducible refine (pick g m _ _ hR (by omega) (by omega)).mono ?_); rintro e w1 ⟨y1, rfl, hy1, hR1, hc1⟩)
  have by1 := picked_lt hy1 (by omega)
  have by1a := by1.1
  have by1b := by1.2
  (go_wp2_with fail; (with_reducible refine (pick g (m + 1) _ _ hR1 (by omega) (by omega)).mono ?_); rintro e w2 ⟨y2, rfl, hy2, hR2, hc2⟩)
  have by2 := picked_lt hy2 (by omega)
  have by2a := by2.1
  have by2b := by2.2
  have hg2 := hR2.lt
  (go_wp2_with fail; (refine (oneLit g (m + 2) [0, 1, -1, 5, -7, 10, 3, 100, -100, y1 - 100, y2 - 10] 11 _ _ (hR2.no ((Chg.refl _ _).alloc _)) (by omega) (heap_top rfl) rfl rfl (by omega) (by omega) (by omega)).mono ?_); rintro e w3 ⟨x, rfl, hx, hR3, hc3⟩)
  have Hx := hid hx
  clear hx
  go_wp2
  go_ret
  refine ⟨x, rfl, ?_, hR3, by (repeat (first | (with_reducible exact Chg.refl _ _) | ((with_reducible refine Chg.setNew ?_ _ ?_); rotate_left; first | (dsimp only; omega) | (simp; done) | (simp; omega)) | (with_reducible refine Chg.alloc ?_ _) | (with_reducible refine Chg.drew ?_) | (with_reducible refine Chg.drewN ?_ _) | (with_reducible refine Chg.no ?_ (by assumption)) | (with_reducible refine Chg.and_ ?_ (by assumption)) | ((with_reducible refine Chg.at_ ?_ (by assumption) ?_); rotate_left; (try simp only [World.size_alloc]); omega)))⟩
  have := Hx.out
  simp only [List.mem_cons, List.not_mem_nil, or_false] at this
  omega
/-- a valid vector has been drawn -/
def DrVec (B g m : Nat) (w : World) (e : Ending) (w' : World) : Prop := ∃ v xs, e = .returned v ∧ OInts w' w.heap.size v xs ∧ vecB xs = true ∧ Rd w' B g (m + 12) ∧ Chg (At g) w w'
set_option maxHeartbeats 1000000 in
theorem someVector {B : Nat} (g m : Nat) (w : World) (hR : Rd w B g m) (hm : m < 800000) : Calls Try.prog 85 #[.pointer (some ⟨g, 0, none⟩)] w (DrVec B g m w) := by
  have hg := hR.lt
  have HO0 := hid (OSl.lit (T := 3) (enc := cInt) (w := w.alloc (.cells #[] 3)) (base := w.heap.size) (n := 0) [] [] (fun _ => rfl) rfl rfl (by omega) (Nat.le_refl _) (heap_top rfl))
  have HR0 := hid (hR.no ((Chg.refl No w).alloc (.cells #[] 3)))
  clear hR
  go_enter Try.func85, Try.ntmps85
  go_wp2
  go_loopw [3, 4] (fun v i wr => ∃ k : Nat, k ≤ 4 ∧ i = .int .i64 k ∧ (∃ xs : List Int, Hid (xs.length = k) ∧ Small xs ∧ Hid (OInts wr w.heap.size v xs)) ∧ Rd wr B g (m + 3 * k) ∧ Chg (At g) w wr) (fun _ i _ => 4 - (intOf i).toNat)
  case atStart => exact ⟨0, Nat.zero_le _, rfl, ⟨[], rfl, (fun x hx => by cases hx), HO0⟩, HR0.out, by (repeat (first | (with_reducible exact Chg.refl _ _) | ((with_reducible refine Chg.setNew ?_ _ ?_); rotate_left; first | (dsimp only; omega) | (simp; done) | (simp; omega)) | (with_reducible refine Chg.alloc ?_ _) | (with_reducible refine Chg.drew ?_) | (with_reducible refine Chg.drewN ?_ _) | (with_reducible refine Chg.no ?_ (by assumption)) | (with_reducible refine Chg.and_ ?_ (by assumption)) | ((with_reducible refine Chg.at_ ?_ (by assumption) ?_); rotate_left; (try simp only [World.size_alloc]); omega)))⟩
  case round =>
    obtain ⟨k, hk, rfl, ⟨xs, HL, HS, HO⟩, hR, hc⟩ := hrel
    have hsz := hc.size
    by_cases hlt : k < 4
    · (go_wp2_with fail; (with_reducible refine (someCoord g (m + 3 * k) _ hR (by omega)).mono ?_); rintro e w1 ⟨x, rfl, hxb, hR1, hc1⟩)
      have hsz1 := hc1.size
      have HO1 := hid ((OSl.keep HO.out hc1 (fun j h1 _ (e : j = g) => by omega)).alloc (.cells #[.int .i64 x] 3))
      have HX := hid (Src.one (sz := 1) (enc := cInt) (y := x) (Box.new (w := w1) [.int .i64 x] 3 rfl) rfl)
      go_wp2_with (at_builtin; refine wpList_push _ rfl _ _ 27 rfl 3 1 8 (.int .i64 0) cInt Try.underlying27 infoInt rfl (by omega) (by omega) (fun _ => rfl) oneInt w.heap.size _ xs rfl HO1.out _ 1 1 [x] rfl HX.out (by rw [HL.out]; omega) (by simp; omega) ?_; intro v' w2 ho hg2 hb2)
      have hc2 : Chg (At g) w w2 := Chg.pushed (a := w) (by (repeat (first | (with_reducible exact Chg.refl _ _) | ((with_reducible refine Chg.setNew ?_ _ ?_); rotate_left; first | (dsimp only; omega) | (simp; done) | (simp; omega)) | (with_reducible refine Chg.alloc ?_ _) | (with_reducible refine Chg.drew ?_) | (with_reducible refine Chg.drewN ?_ _) | (with_reducible refine Chg.no ?_ (by assumption)) | (with_reducible refine Chg.and_ ?_ (by assumption)) | ((with_reducible refine Chg.at_ ?_ (by assumption) ?_); rotate_left; (try simp only [World.size_alloc]); omega)))) hg2 HO1.out (Nat.le_refl _)
      have hR2 : Rd w2 B g (m + 3 * k + 3) := by
        refine (hR1.no ((Chg.refl No w1).alloc (.cells #[.int .i64 x] 3))).keep (S := fun j => w.heap.size ≤ j) ((Chg.refl _ _).grown hg2 (fun j hj _ => (World.ownsRow.lt HO1.out j hj).1)) (fun j h1 h2 => ?_) (fun h => ?_)
        · have := hR1.base; omega
        · omega
      clear HO1 HX
      have HO2 := hid ho
      clear ho
      go_roundw
      case rel => exact ⟨k + 1, by omega, by go_num, ⟨xs ++ [x], by show _ = _; rw [List.length_append, HL.out]; rfl, fun z hz => by rcases List.mem_append.1 hz with hz | hz; exact HS z hz; rw [List.mem_singleton.1 hz]; exact hxb, HO2⟩, by rw [show m + 3 * (k + 1) = m + 3 * k + 3 from by omega]; exact hR2, hc2⟩
      case measure => simp [intOf]; omega
    · have hk4 : k = 4 := by omega
      subst hk4
      go_wp2
      go_ret
      exact ⟨_, xs, rfl, HO.out, (vecB_iff xs).2 ⟨HL.out, HS⟩, hR, hc⟩
end Go.Proofs.Ytifdcdpdihfbjaa
