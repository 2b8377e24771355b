/- Hits: how the program compares them; the library's cmp. -/
import Derived.Test.YtifdcdpdihfbjaaHits
import Derived.StillTailTactics
import Derived.Shelf.Abstract
namespace Go.Proofs.Ytifdcdpdihfbjaa
open Go.RowKit
set_option linter.unusedVariables false
set_option linter.unusedSimpArgs false
theorem isNaN (x : Int) (w : World) : Calls Try.prog 130 #[.int .i64 x] w fun e w' => e = .returned (.bool false) ∧ w = w' := by
  go_enter Try.func130, Try.ntmps130
  go_wp2
  go_ret
  exact ⟨ret_bool (by simp), rfl⟩
theorem compareI (x y : Int) (w : World) : Calls Try.prog 120 #[.int .i64 x, .int .i64 y] w fun e w' => e = .returned (.int .i64 (cmpI x y)) ∧ w = w' := by
  have HF := hid (show cmpI x y = if x < y then -1 else if y < x then 1 else 0 from rfl)
  go_enter Try.func120, Try.ntmps120
  go_wp2_with ((go_at_call 130; (with_reducible refine (isNaN _ _).mono ?_); rintro e w' ⟨rfl, rfl⟩))
  all_goals go_ret
  all_goals (refine ⟨?_, rfl⟩; rw [HF.out]; first | (rw [if_pos (by assumption)]; rfl) | (rw [if_neg (by omega), if_pos (by assumption)]; rfl) | (rw [if_neg (by omega), if_neg (by omega)]; rfl))
set_option maxHeartbeats 1000000 in
theorem cmpOr (l0 h0 : Nat) (A : Option Addr) (n c : Nat) (xs : List Int) (w : World) (hx : RInts w l0 h0 A n c xs) :
    Calls Try.prog 119 #[.slice A n c] w fun e w' => e = .returned (.int .i64 (orF xs)) ∧ w = w' := by
  have hnc := hx.le; have hcm := hx.cap
  have HX := hid hx
  clear hx
  go_enter Try.func119, Try.ntmps119
  go_wp2
  go_loop [8] (fun i => ∃ k : Nat, k ≤ n ∧ i = .int .i64 k ∧ Hid (∀ (j : Nat) (y : Int), j < k → xs[j]? = some y → y = 0)) (fun i => n - (intOf i).toNat)
  case atStart => exact ⟨0, Nat.zero_le _, rfl, fun j x hj => absurd hj (by omega)⟩
  case round =>
    obtain ⟨k, hk, rfl, HN⟩ := hrel
    by_cases hlt : k < n
    · obtain ⟨b, o, x, rfl, _, _, hxk, hE⟩ := HX.out.at_ hlt
      have hE1 : w.cell? ⟨b, o + k, none⟩ = some (.int .i64 x) := by simpa [EInt] using hE
      have Hxk := hid hxk
      clear hxk hE
      by_cases he : x = 0
      · have e1 : (x != 0) = false := by simp [he]
        have HN2 : Hid (∀ (j : Nat) (y : Int), j < k + 1 → xs[j]? = some y → y = 0) := fun j y hj hy => by
          by_cases hjk : j < k
          · exact HN.out j y hjk hy
          · obtain rfl : j = k := by omega
            rw [Hxk.out] at hy; injection hy with hy; subst hy; exact he
        clear he
        go_wp2
        go_round
        case rel => exact ⟨k + 1, by omega, by go_num, HN2⟩
        case measure => simp [intOf]; omega
      · have e1 : (x != 0) = true := by simp [he]
        have HF := hid (orF_hit Hxk.out he HN.out)
        clear he
        go_wp2
        go_ret
        exact ⟨by rw [HF.out]; rfl, rfl⟩
    · have HF := hid (show orF xs = 0 from orF_no (fun j x hx => HN.out j x (by have := (List.getElem?_eq_some_iff.1 hx).1; have := HX.out.len; omega) hx))
      go_wp2
      go_ret
      exact ⟨by rw [HF.out]; rfl, rfl⟩
set_option maxRecDepth 100000 in
set_option maxHeartbeats 1000000 in
theorem iCompareHitsC (a1 a2 b1 b2 : Int) (w : World) : Calls Try.prog 98 #[.agg #[.int .i64 a1, .int .i64 a2], .agg #[.int .i64 b1, .int .i64 b2]] w fun e w' => e = .returned (.int .i64 (cmpHitF (a1, a2) (b1, b2))) ∧ (Chg No w w' ∧ w.drawn ≤ w'.drawn) := by
  have HF := hid (show cmpHitF (a1, a2) (b1, b2) = orF [cmpI a2 b2, cmpI a1 b1] from rfl)
  obtain ⟨c2, hc2⟩ : ∃ x, cmpI a2 b2 = x := ⟨_, rfl⟩
  obtain ⟨c1, hc1⟩ : ∃ x, cmpI a1 b1 = x := ⟨_, rfl⟩
  have K1 := hid (fun W => compareI a1 b1 W)
  have K2 := hid (fun W => compareI a2 b2 W)
  rw [hc1, hc2] at HF
  rw [hc1] at K1
  rw [hc2] at K2
  clear hc1 hc2
  have KO := hid (fun (W : World) (g : Nat) (h : W.heap[g]? = some (.cells #[.int .i64 c2, .int .i64 c1] 3 (0, 0))) => cmpOr _ _ _ _ _ [c2, c1] W (RInts.lit (n := 2) h [c2, c1] rfl rfl (by omega)))
  go_enter Try.func98, Try.ntmps98
  go_wp2_with fail
  obtain ⟨W, hW⟩ : ∃ W, W = ((w.alloc (.cells #[.int .i64 a1, .int .i64 a2] 39)).alloc (.cells #[.int .i64 b1, .int .i64 b2] 39)).drew := ⟨_, rfl⟩
  have hc : Chg No w W := by rw [hW]; (repeat (first | (with_reducible exact Chg.refl _ _) | ((with_reducible refine Chg.setNew ?_ _ ?_); rotate_left; first | (dsimp only; omega) | (simp; done) | (simp; omega)) | (with_reducible refine Chg.alloc ?_ _) | (with_reducible refine Chg.drew ?_) | (with_reducible refine Chg.drewN ?_ _) | (with_reducible refine Chg.no ?_ (by assumption)) | (with_reducible refine Chg.and_ ?_ (by assumption)) | ((with_reducible refine Chg.at_ ?_ (by assumption) ?_); rotate_left; (try simp only [World.size_alloc]); omega)))
  have hdr : w.drawn ≤ W.drawn := by rw [hW]; simp
  have BA := ((Box.new (w := w) [.int .i64 a1, .int .i64 a2] 39 rfl).alloc (.cells #[.int .i64 b1, .int .i64 b2] 39)).drew.f2
  have BB := (Box.new (w := w.alloc (.cells #[.int .i64 a1, .int .i64 a2] 39)) (g := w.heap.size + 1) [.int .i64 b1, .int .i64 b2] 39 (by simp)).drew.f2
  rw [← hW] at BA BB
  refine wp_still_tail 10 (by kernel_rfl) (by kernel_rfl) W hW ?_
  clear hW
  simp only [List.take_succ_cons, List.take_zero, List.drop_succ_cons, List.drop_zero]
  (repeat still_step)
  still_call ((K2.out _).mono fun e w' h => ⟨h.1, h.2.symm⟩)
  (repeat still_step)
  still_call ((K1.out _).mono fun e w' h => ⟨h.1, h.2.symm⟩)
  refine wpStill_nil ?_
  go_wp2_with fail
  refine (KO.out _ _ (by exact heap_top rfl)).mono ?_
  rintro e w' ⟨rfl, rfl⟩
  go_wp2
  go_ret
  exact ⟨by rw [HF.out]; rfl, by (repeat (first | (with_reducible exact Chg.refl _ _) | ((with_reducible refine Chg.setNew ?_ _ ?_); rotate_left; first | (dsimp only; omega) | (simp; done) | (simp; omega)) | (with_reducible refine Chg.alloc ?_ _) | (with_reducible refine Chg.drew ?_) | (with_reducible refine Chg.drewN ?_ _) | (with_reducible refine Chg.no ?_ (by assumption)) | (with_reducible refine Chg.and_ ?_ (by assumption)) | ((with_reducible refine Chg.at_ ?_ (by assumption) ?_); rotate_left; (try simp only [World.size_alloc]); omega))), by simp only [World.drawn_setCell, World.drawn_alloc, World.drawn_drew]; omega⟩
theorem iCompareHits (a1 a2 b1 b2 : Int) (w : World) : Calls Try.prog 98 #[.agg #[.int .i64 a1, .int .i64 a2], .agg #[.int .i64 b1, .int .i64 b2]] w fun e w' => e = .returned (.int .i64 (cmpHitF (a1, a2) (b1, b2))) ∧ Chg No w w' :=
  (iCompareHitsC a1 a2 b1 b2 w).mono fun _ _ h => ⟨h.1, h.2.1⟩
end Go.Proofs.Ytifdcdpdihfbjaa
