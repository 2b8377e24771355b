/- Hits: areHits, the scores and the recall of the program. -/
import Derived.Test.YtifdcdpdihfbjaaHitsI
namespace Go.Proofs.Ytifdcdpdihfbjaa
open Go.RowKit Go.Shelf
set_option linter.unusedVariables false
set_option linter.unusedSimpArgs false
set_option maxHeartbeats 2000000 in
theorem areHits (l0 h0 : Nat) (A : Option Addr) (n c : Nat) (xs : List (Int × Int)) (w : World) (hx : RHits w l0 h0 A n c xs) :
    Calls Try.prog 61 #[.slice A n c] w fun e w' => e = .returned (.bool (hitsB xs)) ∧ Chg No w w' := by
  have hnc := hx.le; have hcm := hx.cap
  have HX := hid hx
  have EG := hid (enters_of (P := Try.prog) Try.func99 (by kernel_rfl) rfl)
  clear hx
  by_cases h16 : 16 < n
  · have HF := hid (hitsB_long (l := xs) (by rw [HX.out.len]; exact h16))
    have h16' : (16 : Int) < n := by omega
    clear h16
    go_enter Try.func61, Try.ntmps61
    go_wp2
    go_ret
    exact ⟨by rw [HF.out]; rfl, by (repeat (first | (with_reducible exact Chg.refl _ _) | ((with_reducible refine Chg.setNew ?_ _ ?_); rotate_left; first | (dsimp only; omega) | (simp; done) | (simp; omega)) | (with_reducible refine Chg.alloc ?_ _) | (with_reducible refine Chg.drew ?_) | (with_reducible refine Chg.drewN ?_ _) | (with_reducible refine Chg.no ?_ (by assumption)) | (with_reducible refine Chg.and_ ?_ (by assumption)) | ((with_reducible refine Chg.at_ ?_ (by assumption) ?_); rotate_left; (try simp only [World.size_alloc]); omega)))⟩
  · have h16' : (n : Int) ≤ 16 := by omega
    go_enter Try.func61, Try.ntmps61
    go_wp2
    go_loopw [10] (fun i wr => ∃ k : Nat, k ≤ n ∧ i = .int .i64 k ∧ Chg No w wr ∧ Hid (hitsUp xs k = true)) (fun i _ => n - (intOf i).toNat)
    case atStart => exact ⟨0, Nat.zero_le _, rfl, Chg.refl _ _, rfl⟩
    case round =>
      obtain ⟨k, hk, rfl, hc, HU⟩ := hrel
      obtain ⟨wo, rfl⟩ : ∃ W : World, W = wr := ⟨_, rfl⟩
      by_cases hlt : k < n
      · obtain ⟨b, o, x, rfl, _, _, hxk, hE⟩ := (HX.out.no hc).at_ hlt
        obtain ⟨x1, x2⟩ := x
        have hE1 : wo.cell? ⟨b, o + k * 2, none⟩ = some (.int .i64 x1) := hE.1
        have hE2 : wo.cell? ⟨b, o + k * 2 + 1, none⟩ = some (.int .i64 x2) := hE.2
        have B1 := hid (Box.new (w := wo) [.int .i64 x1, .int .i64 x2] 39 rfl)
        have f1 : ∀ p : NB (wo.alloc (.cells #[.int .i64 x1, .int .i64 x2] 39)), p.wd.cell? ⟨wo.heap.size, 0, none⟩ = some (.int .i64 x1) := nb_cell (B1.out.cell 0)
        have f2 : ∀ p : NB (wo.alloc (.cells #[.int .i64 x1, .int .i64 x2] 39)), p.wd.cell? ⟨wo.heap.size, 1, none⟩ = some (.int .i64 x2) := nb_cell (B1.out.cell 1)
        have hlen : k < xs.length := by have := HX.out.len; omega
        have Hxk := hid hxk
        have Hlen := hid hlen
        clear hxk hE hlen
        by_cases a1 : x1 < 1
        · skip
          have HF := hid (hitsB_false_of Hlen.out (hitOk_f1 Hxk.out (by unfold inB; simp; omega)))
          go_wp2_with fail
          (refine wp_region_nb (by kernel_rfl) (by kernel_rfl) ?_; (repeat (first | go_big_quiet_step (fail) | quiet_step (fail))); (with_reducible refine wpQuiet_nil ?_); intro wq hw1; have hq := nb_out hw1; clear hw1)
          go_wp2
          go_ret
          exact ⟨by rw [HF.out]; rfl, by (repeat (first | (with_reducible exact Chg.refl _ _) | ((with_reducible refine Chg.setNew ?_ _ ?_); rotate_left; first | (dsimp only; omega) | (simp; done) | (simp; omega)) | (with_reducible refine Chg.alloc ?_ _) | (with_reducible refine Chg.drew ?_) | (with_reducible refine Chg.drewN ?_ _) | (with_reducible refine Chg.no ?_ (by assumption)) | (with_reducible refine Chg.and_ ?_ (by assumption)) | ((with_reducible refine Chg.at_ ?_ (by assumption) ?_); rotate_left; (try simp only [World.size_alloc]); omega)))⟩
        · by_cases a2 : 99 < x1
          · skip
            have HF := hid (hitsB_false_of Hlen.out (hitOk_f1 Hxk.out (by unfold inB; simp; omega)))
            go_wp2_with fail
            (refine wp_region_nb (by kernel_rfl) (by kernel_rfl) ?_; (repeat (first | go_big_quiet_step (fail) | quiet_step (fail))); (with_reducible refine wpQuiet_nil ?_); intro wq hw1; have hq := nb_out hw1; clear hw1)
            go_wp2
            go_ret
            exact ⟨by rw [HF.out]; rfl, by (repeat (first | (with_reducible exact Chg.refl _ _) | ((with_reducible refine Chg.setNew ?_ _ ?_); rotate_left; first | (dsimp only; omega) | (simp; done) | (simp; omega)) | (with_reducible refine Chg.alloc ?_ _) | (with_reducible refine Chg.drew ?_) | (with_reducible refine Chg.drewN ?_ _) | (with_reducible refine Chg.no ?_ (by assumption)) | (with_reducible refine Chg.and_ ?_ (by assumption)) | ((with_reducible refine Chg.at_ ?_ (by assumption) ?_); rotate_left; (try simp only [World.size_alloc]); omega)))⟩
          · by_cases a3 : x2 < 0
            · skip
              have HF := hid (hitsB_false_of Hlen.out (hitOk_f2 Hxk.out (by unfold inB; simp; omega)))
              go_wp2_with fail
              (refine wp_region_nb (by kernel_rfl) (by kernel_rfl) ?_; (repeat (first | go_big_quiet_step (fail) | quiet_step (fail))); (with_reducible refine wpQuiet_nil ?_); intro wq hw1; have hq := nb_out hw1; clear hw1)
              go_wp2
              go_ret
              exact ⟨by rw [HF.out]; rfl, by (repeat (first | (with_reducible exact Chg.refl _ _) | ((with_reducible refine Chg.setNew ?_ _ ?_); rotate_left; first | (dsimp only; omega) | (simp; done) | (simp; omega)) | (with_reducible refine Chg.alloc ?_ _) | (with_reducible refine Chg.drew ?_) | (with_reducible refine Chg.drewN ?_ _) | (with_reducible refine Chg.no ?_ (by assumption)) | (with_reducible refine Chg.and_ ?_ (by assumption)) | ((with_reducible refine Chg.at_ ?_ (by assumption) ?_); rotate_left; (try simp only [World.size_alloc]); omega)))⟩
            · by_cases a4 : 1000000 < x2
              · skip
                have HF := hid (hitsB_false_of Hlen.out (hitOk_f2 Hxk.out (by unfold inB; simp; omega)))
                go_wp2_with fail
                (refine wp_region_nb (by kernel_rfl) (by kernel_rfl) ?_; (repeat (first | go_big_quiet_step (fail) | quiet_step (fail))); (with_reducible refine wpQuiet_nil ?_); intro wq hw1; have hq := nb_out hw1; clear hw1)
                go_wp2
                go_ret
                exact ⟨by rw [HF.out]; rfl, by (repeat (first | (with_reducible exact Chg.refl _ _) | ((with_reducible refine Chg.setNew ?_ _ ?_); rotate_left; first | (dsimp only; omega) | (simp; done) | (simp; omega)) | (with_reducible refine Chg.alloc ?_ _) | (with_reducible refine Chg.drew ?_) | (with_reducible refine Chg.drewN ?_ _) | (with_reducible refine Chg.no ?_ (by assumption)) | (with_reducible refine Chg.and_ ?_ (by assumption)) | ((with_reducible refine Chg.at_ ?_ (by assumption) ?_); rotate_left; (try simp only [World.size_alloc]); omega)))⟩
              · have g1 : Hid (inB x1 1 99 = true) := by show inB _ _ _ = _; unfold inB; simp; omega
                have g2 : Hid (inB x2 0 1000000 = true) := by show inB _ _ _ = _; unfold inB; simp; omega
                by_cases h0 : k = 0
                · have J := hid (show hitOk3 xs k (x1, x2) from ⟨Hxk.out, g1.out, g2.out, fun h => absurd h (by omega)⟩)
                  have h0' : decide (0 < k) = false := by simp; omega
                  clear h0
                  go_wp2_with fail
                  (refine wp_region_nb (by kernel_rfl) (by kernel_rfl) ?_; (repeat (first | go_big_quiet_step (fail) | quiet_step (fail))); (with_reducible refine wpQuiet_nil ?_); intro wq hw1; have hq := nb_out hw1; clear hw1)
                  have HXK := hid (RSl.take (HX.out.no (Chg.no (Chg.alloc hc _) hq)) (Nat.le_of_lt hlt))
                  have hcell : wq.cell? ⟨wo.heap.size, 0, none⟩ = some (.int .i64 x1) := cell_keep hq (B1.out.cell 0) (fun e => e)
                  have hlt2 : wo.heap.size < wq.heap.size := by have := hq.size; simp only [World.size_alloc] at this; omega
                  have hcall := containsFunc l0 h0 _ k c (xs.take k) 99 #[.pointer (some ⟨wo.heap.size, 0, none⟩)] (fun y => decide (y.1 = x1)) wq HXK.out EG.out (fun W y1 y2 hW => areHits1 y1 y2 x1 wo.heap.size W (by have := hW.size; omega) (cell_keep hW hcell (fun e => e)))
                  cases hany : (xs.take k).any fun y => decide (y.1 = x1) with
                  | true =>
                    have HF := hid (hitsB_false_of Hlen.out (by rw [hitOk3_eq J.out, hany]; rfl))
                    rw [hany] at hcall
                    have HC := hid hcall
                    clear hcall hany
                    go_wp2_with ((go_at_call 77; (with_reducible refine HC.out.mono ?_); rintro e w2 ⟨rfl, hc2⟩))
                    go_ret
                    exact ⟨by rw [HF.out]; rfl, by (repeat (first | (with_reducible exact Chg.refl _ _) | ((with_reducible refine Chg.setNew ?_ _ ?_); rotate_left; first | (dsimp only; omega) | (simp; done) | (simp; omega)) | (with_reducible refine Chg.alloc ?_ _) | (with_reducible refine Chg.drew ?_) | (with_reducible refine Chg.drewN ?_ _) | (with_reducible refine Chg.no ?_ (by assumption)) | (with_reducible refine Chg.and_ ?_ (by assumption)) | ((with_reducible refine Chg.at_ ?_ (by assumption) ?_); rotate_left; (try simp only [World.size_alloc]); omega)))⟩
                  | false =>
                    have HU2 := hid (show hitsUp xs (k + 1) = true from by rw [hitsUp_snoc, HU.out, hitOk3_eq J.out, hany]; rfl)
                    rw [hany] at hcall
                    have HC := hid hcall
                    clear hcall hany
                    go_wp2_with ((go_at_call 77; (with_reducible refine HC.out.mono ?_); rintro e w2 ⟨rfl, hc2⟩))
                    go_roundw
                    case rel => exact ⟨k + 1, by omega, by go_num, by (repeat (first | (with_reducible exact Chg.refl _ _) | ((with_reducible refine Chg.setNew ?_ _ ?_); rotate_left; first | (dsimp only; omega) | (simp; done) | (simp; omega)) | (with_reducible refine Chg.alloc ?_ _) | (with_reducible refine Chg.drew ?_) | (with_reducible refine Chg.drewN ?_ _) | (with_reducible refine Chg.no ?_ (by assumption)) | (with_reducible refine Chg.and_ ?_ (by assumption)) | ((with_reducible refine Chg.at_ ?_ (by assumption) ?_); rotate_left; (try simp only [World.size_alloc]); omega))), HU2⟩
                    case measure => simp [intOf]; omega
                · have h0' : decide (0 < k) = true := by simp; omega
                  obtain ⟨b', o', y, hA', _, _, hyk, hE⟩ := (HX.out.no hc).at_ (k := k - 1) (by omega)
                  obtain ⟨rfl, rfl⟩ : b = b' ∧ o = o' := by injection hA' with hA'; injection hA' with h1 h2; exact ⟨h1, h2⟩
                  obtain ⟨y1, y2⟩ := y
                  have hP1 : ∀ p : NB (wo.alloc (.cells #[.int .i64 x1, .int .i64 x2] 39)), p.wd.cell? ⟨b, o + (k - 1) * 2, none⟩ = some (.int .i64 y1) := nb_cell (cell_keep ((Chg.refl No _).alloc _) hE.1 (fun e => e))
                  have hP2 : ∀ p : NB (wo.alloc (.cells #[.int .i64 x1, .int .i64 x2] 39)), p.wd.cell? ⟨b, o + (k - 1) * 2 + 1, none⟩ = some (.int .i64 y2) := nb_cell (cell_keep ((Chg.refl No _).alloc _) hE.2 (fun e => e))
                  have Hyk := hid hyk
                  have hk1 : k - 1 < n := by omega
                  have i1 : (1 : Int) ≤ k := by omega
                  have i2 : ((k : Int) - 1).toNat = k - 1 := by omega
                  have i3 : (k : Int) - 1 < n := by omega
                  obtain ⟨cv, hcv⟩ : ∃ cv, cmpHitF (x1, x2) (y1, y2) = cv := ⟨_, rfl⟩
                  have hpos := cmpHitF_pos (x1, x2) (y1, y2)
                  rw [hcv] at hpos
                  have HCV := hid hcv
                  clear h0 hyk hE hA' hcv
                  cases g3 : nearB (y1, y2) (x1, x2) with
                  | false =>
                    have hle : cv ≤ 0 := by have : ¬ 0 < cv := fun h => by rw [hpos.1 h] at g3; cases g3
                                            omega
                    have HF := hid (show hitsB xs = false from hitsB_false_of Hlen.out (by
                      obtain ⟨k', rfl⟩ : ∃ k', k = k' + 1 := ⟨k - 1, by omega⟩
                      exact hitOk_f3 Hxk.out Hyk.out g3))
                    clear hpos g3
                    go_wp2_with fail
                    (refine wp_region_nb (by kernel_rfl) (by kernel_rfl) ?_; (repeat (first | go_big_quiet_step ((go_at_call 98; exact nb_ofE (iCompareHits _ _ _ _ _) (congrArg (Value.int .i64) HCV.out))) | quiet_step ((go_at_call 98; exact nb_ofE (iCompareHits _ _ _ _ _) (congrArg (Value.int .i64) HCV.out))))); (with_reducible refine wpQuiet_nil ?_); intro wq hw1; have hq := nb_out hw1; clear hw1)
                    go_wp2
                    go_ret
                    exact ⟨by rw [HF.out]; rfl, by (repeat (first | (with_reducible exact Chg.refl _ _) | ((with_reducible refine Chg.setNew ?_ _ ?_); rotate_left; first | (dsimp only; omega) | (simp; done) | (simp; omega)) | (with_reducible refine Chg.alloc ?_ _) | (with_reducible refine Chg.drew ?_) | (with_reducible refine Chg.drewN ?_ _) | (with_reducible refine Chg.no ?_ (by assumption)) | (with_reducible refine Chg.and_ ?_ (by assumption)) | ((with_reducible refine Chg.at_ ?_ (by assumption) ?_); rotate_left; (try simp only [World.size_alloc]); omega)))⟩
                  | true =>
                    have hgt : 0 < cv := hpos.2 g3
                    have J := hid (show hitOk3 xs k (x1, x2) from ⟨Hxk.out, g1.out, g2.out, fun _ => ⟨_, Hyk.out, g3⟩⟩)
                    clear hpos g3
                    go_wp2_with fail
                    (refine wp_region_nb (by kernel_rfl) (by kernel_rfl) ?_; (repeat (first | go_big_quiet_step ((go_at_call 98; exact nb_ofE (iCompareHits _ _ _ _ _) (congrArg (Value.int .i64) HCV.out))) | quiet_step ((go_at_call 98; exact nb_ofE (iCompareHits _ _ _ _ _) (congrArg (Value.int .i64) HCV.out))))); (with_reducible refine wpQuiet_nil ?_); intro wq hw1; have hq := nb_out hw1; clear hw1)
                    have HXK := hid (RSl.take (HX.out.no (Chg.no (Chg.alloc hc _) hq)) (Nat.le_of_lt hlt))
                    have hcell : wq.cell? ⟨wo.heap.size, 0, none⟩ = some (.int .i64 x1) := cell_keep hq (B1.out.cell 0) (fun e => e)
                    have hlt2 : wo.heap.size < wq.heap.size := by have := hq.size; simp only [World.size_alloc] at this; omega
                    have hcall := containsFunc l0 h0 _ k c (xs.take k) 99 #[.pointer (some ⟨wo.heap.size, 0, none⟩)] (fun y => decide (y.1 = x1)) wq HXK.out EG.out (fun W y1 y2 hW => areHits1 y1 y2 x1 wo.heap.size W (by have := hW.size; omega) (cell_keep hW hcell (fun e => e)))
                    cases hany : (xs.take k).any fun y => decide (y.1 = x1) with
                    | true =>
                      have HF := hid (hitsB_false_of Hlen.out (by rw [hitOk3_eq J.out, hany]; rfl))
                      rw [hany] at hcall
                      have HC := hid hcall
                      clear hcall hany
                      go_wp2_with ((go_at_call 77; (with_reducible refine HC.out.mono ?_); rintro e w2 ⟨rfl, hc2⟩))
                      go_ret
                      exact ⟨by rw [HF.out]; rfl, by (repeat (first | (with_reducible exact Chg.refl _ _) | ((with_reducible refine Chg.setNew ?_ _ ?_); rotate_left; first | (dsimp only; omega) | (simp; done) | (simp; omega)) | (with_reducible refine Chg.alloc ?_ _) | (with_reducible refine Chg.drew ?_) | (with_reducible refine Chg.drewN ?_ _) | (with_reducible refine Chg.no ?_ (by assumption)) | (with_reducible refine Chg.and_ ?_ (by assumption)) | ((with_reducible refine Chg.at_ ?_ (by assumption) ?_); rotate_left; (try simp only [World.size_alloc]); omega)))⟩
                    | false =>
                      have HU2 := hid (show hitsUp xs (k + 1) = true from by rw [hitsUp_snoc, HU.out, hitOk3_eq J.out, hany]; rfl)
                      rw [hany] at hcall
                      have HC := hid hcall
                      clear hcall hany
                      go_wp2_with ((go_at_call 77; (with_reducible refine HC.out.mono ?_); rintro e w2 ⟨rfl, hc2⟩))
                      go_roundw
                      case rel => exact ⟨k + 1, by omega, by go_num, by (repeat (first | (with_reducible exact Chg.refl _ _) | ((with_reducible refine Chg.setNew ?_ _ ?_); rotate_left; first | (dsimp only; omega) | (simp; done) | (simp; omega)) | (with_reducible refine Chg.alloc ?_ _) | (with_reducible refine Chg.drew ?_) | (with_reducible refine Chg.drewN ?_ _) | (with_reducible refine Chg.no ?_ (by assumption)) | (with_reducible refine Chg.and_ ?_ (by assumption)) | ((with_reducible refine Chg.at_ ?_ (by assumption) ?_); rotate_left; (try simp only [World.size_alloc]); omega))), HU2⟩
                      case measure => simp [intOf]; omega
      · have hkn : k = n := by omega
        have hU := HU.out
        rw [hkn, ← HX.out.len] at hU
        have HF := hid (show hitsB xs = true from by rw [hitsB_of_up hU, HX.out.len]; exact decide_eq_true (by omega))
        clear HU hU
        go_wp2
        go_ret
        exact ⟨by rw [HF.out]; rfl, by (repeat (first | (with_reducible exact Chg.refl _ _) | ((with_reducible refine Chg.setNew ?_ _ ?_); rotate_left; first | (dsimp only; omega) | (simp; done) | (simp; omega)) | (with_reducible refine Chg.alloc ?_ _) | (with_reducible refine Chg.drew ?_) | (with_reducible refine Chg.drewN ?_ _) | (with_reducible refine Chg.no ?_ (by assumption)) | (with_reducible refine Chg.and_ ?_ (by assumption)) | ((with_reducible refine Chg.at_ ?_ (by assumption) ?_); rotate_left; (try simp only [World.size_alloc]); omega)))⟩
theorem iVALIDHits (l0 h0 : Nat) (A : Option Addr) (n c : Nat) (xs : List (Int × Int)) (w : World) (hx : RHits w l0 h0 A n c xs) :
    Calls Try.prog 15 #[.slice A n c] w fun e w' => e = .returned (.bool (hitsB xs)) ∧ Chg No w w' := by
  have HX := hid hx
  clear hx
  go_enter Try.func15, Try.ntmps15
  go_wp2_with ((go_at_call 61; (with_reducible refine (areHits l0 h0 _ _ _ xs _ HX.out).mono ?_); rintro e w' ⟨rfl, hc⟩))
  go_ret
  exact ⟨rfl, by (repeat (first | (with_reducible exact Chg.refl _ _) | ((with_reducible refine Chg.setNew ?_ _ ?_); rotate_left; first | (dsimp only; omega) | (simp; done) | (simp; omega)) | (with_reducible refine Chg.alloc ?_ _) | (with_reducible refine Chg.drew ?_) | (with_reducible refine Chg.drewN ?_ _) | (with_reducible refine Chg.no ?_ (by assumption)) | (with_reducible refine Chg.and_ ?_ (by assumption)) | ((with_reducible refine Chg.at_ ?_ (by assumption) ?_); rotate_left; (try simp only [World.size_alloc]); omega)))⟩
set_option maxHeartbeats 1000000 in
theorem iRecallOf (l0 h0 l1 h1 : Nat) (A B : Option Addr) (n c m d : Nat) (xs ys : List (Int × Int)) (w : World) (hx : RHits w l0 h0 A n c xs) (hy : RHits w l1 h1 B m d ys) :
    Calls Try.prog 39 #[.slice A n c, .slice B m d] w fun e w' => e = .returned (.int .i64 (recF xs ys)) ∧ Chg No w w' := by
  have hnc := hx.le; have hcm := hx.cap; have hmd := hy.le; have hdm := hy.cap
  have HX := hid hx; have HY := hid hy
  have hcx := fun W (h : RHits W l0 h0 A n c xs) => (areHits l0 h0 A n c xs W h)
  have hcy := fun W (h : RHits W l1 h1 B m d ys) => (areHits l1 h1 B m d ys W h)
  clear hx hy
  cases hb : hitsB xs with
  | false =>
    rw [hb] at hcx
    have HCX := hid hcx
    have HF := hid (recF_1 (f := ys) hb)
    clear hcx hcy hb
    go_enter Try.func39, Try.ntmps39
    (go_wp2_with fail; (with_reducible refine (HCX.out _ HX.out).mono ?_); rintro e w1 ⟨rfl, hc⟩)
    go_wp2
    go_ret
    exact ⟨by rw [HF.out]; rfl, by (repeat (first | (with_reducible exact Chg.refl _ _) | ((with_reducible refine Chg.setNew ?_ _ ?_); rotate_left; first | (dsimp only; omega) | (simp; done) | (simp; omega)) | (with_reducible refine Chg.alloc ?_ _) | (with_reducible refine Chg.drew ?_) | (with_reducible refine Chg.drewN ?_ _) | (with_reducible refine Chg.no ?_ (by assumption)) | (with_reducible refine Chg.and_ ?_ (by assumption)) | ((with_reducible refine Chg.at_ ?_ (by assumption) ?_); rotate_left; (try simp only [World.size_alloc]); omega)))⟩
  | true =>
    cases hb2 : hitsB ys with
    | false =>
      rw [hb] at hcx
      rw [hb2] at hcy
      have HCX := hid hcx
      have HCY := hid hcy
      have HF := hid (recF_2 (r := xs) hb2)
      clear hcx hcy hb hb2
      go_enter Try.func39, Try.ntmps39
      (go_wp2_with fail; (with_reducible refine (HCX.out _ HX.out).mono ?_); rintro e w1 ⟨rfl, hc⟩)
      (go_wp2_with fail; (with_reducible refine (HCY.out _ (HY.out.no hc)).mono ?_); rintro e w2 ⟨rfl, hc2⟩)
      go_wp2
      go_ret
      exact ⟨by rw [HF.out]; rfl, by (repeat (first | (with_reducible exact Chg.refl _ _) | ((with_reducible refine Chg.setNew ?_ _ ?_); rotate_left; first | (dsimp only; omega) | (simp; done) | (simp; omega)) | (with_reducible refine Chg.alloc ?_ _) | (with_reducible refine Chg.drew ?_) | (with_reducible refine Chg.drewN ?_ _) | (with_reducible refine Chg.no ?_ (by assumption)) | (with_reducible refine Chg.and_ ?_ (by assumption)) | ((with_reducible refine Chg.at_ ?_ (by assumption) ?_); rotate_left; (try simp only [World.size_alloc]); omega)))⟩
    | true =>
      have hlen := HX.out.len
      have hn16 : n ≤ 16 := by have := hitsB_len hb; omega
      have hm16 : m ≤ 16 := by have := HY.out.len; have := hitsB_len hb2; omega
      by_cases h00 : n = 0
      · have HF := hid (recF_3 (r := xs) (f := ys) (by omega))
        have e1 : ((n : Int) == 0) = true := by simp; omega
        rw [hb] at hcx
        rw [hb2] at hcy
        have HCX := hid hcx
        have HCY := hid hcy
        clear hcx hcy hb hb2 hlen h00
        go_enter Try.func39, Try.ntmps39
        (go_wp2_with fail; (with_reducible refine (HCX.out _ HX.out).mono ?_); rintro e w1 ⟨rfl, hc⟩)
        (go_wp2_with fail; (with_reducible refine (HCY.out _ (HY.out.no hc)).mono ?_); rintro e w2 ⟨rfl, hc2⟩)
        go_wp2
        go_ret
        exact ⟨by rw [HF.out]; rfl, by (repeat (first | (with_reducible exact Chg.refl _ _) | ((with_reducible refine Chg.setNew ?_ _ ?_); rotate_left; first | (dsimp only; omega) | (simp; done) | (simp; omega)) | (with_reducible refine Chg.alloc ?_ _) | (with_reducible refine Chg.drew ?_) | (with_reducible refine Chg.drewN ?_ _) | (with_reducible refine Chg.no ?_ (by assumption)) | (with_reducible refine Chg.and_ ?_ (by assumption)) | ((with_reducible refine Chg.at_ ?_ (by assumption) ?_); rotate_left; (try simp only [World.size_alloc]); omega)))⟩
      · have HF := hid (show recF xs ys = 1000 * foundF xs ys / (n : Int) from by rw [recF_4 hb hb2 (by omega)]; unfold recallF; rw [hlen])
        have e1 : ((n : Int) == 0) = false := by simp; omega
        have hn1 : 1 ≤ n := by omega
        have hbig : n ≤ 1000000 := by omega
        have HL := hid hlen
        rw [hb] at hcx
        rw [hb2] at hcy
        have HCX := hid hcx
        have HCY := hid hcy
        clear hcx hcy hb hb2 hlen h00
        go_enter Try.func39, Try.ntmps39
        (go_wp2_with fail; (with_reducible refine (HCX.out _ HX.out).mono ?_); rintro e w1 ⟨rfl, hc⟩)
        (go_wp2_with fail; (with_reducible refine (HCY.out _ (HY.out.no hc)).mono ?_); rintro e w2 ⟨rfl, hc2⟩)
        have hc12 : Chg No w w2 := by (repeat (first | (with_reducible exact Chg.refl _ _) | ((with_reducible refine Chg.setNew ?_ _ ?_); rotate_left; first | (dsimp only; omega) | (simp; done) | (simp; omega)) | (with_reducible refine Chg.alloc ?_ _) | (with_reducible refine Chg.drew ?_) | (with_reducible refine Chg.drewN ?_ _) | (with_reducible refine Chg.no ?_ (by assumption)) | (with_reducible refine Chg.and_ ?_ (by assumption)) | ((with_reducible refine Chg.at_ ?_ (by assumption) ?_); rotate_left; (try simp only [World.size_alloc]); omega)))
        clear hc hc2
        go_wp2
        go_loopw [5, 23] (fun s i wr => ∃ k : Nat, k ≤ n ∧ i = .int .i64 k ∧ s = .int .i64 (foundF (xs.take k) ys) ∧ Chg No w wr) (fun _ i _ => n - (intOf i).toNat)
        case atStart => exact ⟨0, Nat.zero_le _, rfl, rfl, hc12⟩
        case round =>
          obtain ⟨k, hk, rfl, rfl, hc⟩ := hrel
          obtain ⟨wo, rfl⟩ : ∃ W : World, W = wr := ⟨_, rfl⟩
          by_cases hlt : k < n
          · obtain ⟨b, o, x, rfl, _, _, hxk, hE⟩ := (HX.out.no hc).at_ hlt
            obtain ⟨x1, x2⟩ := x
            have hE1 : wo.cell? ⟨b, o + k * 2, none⟩ = some (.int .i64 x1) := hE.1
            have hE2 : wo.cell? ⟨b, o + k * 2 + 1, none⟩ = some (.int .i64 x2) := hE.2
            have hs := foundF_bd (xs.take k) ys
            have hl : (xs.take k).length ≤ k := List.length_take_le _ _
            have hs1 := hs.1
            have hs2 : foundF (xs.take k) ys ≤ k := by have := hs.2; omega
            have HS := hid (foundF_snoc (f := ys) hxk)
            have B1 := hid (Box.new (w := wo) [.int .i64 x1, .int .i64 x2] 39 rfl)
            have EG := hid (enters_of (P := Try.prog) Try.func78 (by kernel_rfl) rfl)
            have hcall := containsFunc l1 h1 B m d ys 78 #[.pointer (some ⟨wo.heap.size, 0, none⟩)] (fun y => decide (y.1 = x1)) (wo.alloc (.cells #[.int .i64 x1, .int .i64 x2] 39)) (HY.out.no (Chg.alloc hc _)) EG.out (fun W y1 y2 hW => recallOf1 y1 y2 x1 wo.heap.size W (by have := hW.size; simp only [World.size_alloc] at this; omega) (cell_keep hW (B1.out.cell 0) (fun e => e)))
            clear hxk hE hs hl
            generalize foundF (xs.take k) ys = s at *
            cases hany : (ys.any fun x => decide (x.1 = x1)) with
            | true =>
              have HS2 : Hid (foundF (xs.take (k + 1)) ys = s + 1) := by show foundF _ _ = _; rw [HS.out]; simp only []; rw [if_pos hany]
              rw [hany] at hcall
              have HC := hid hcall
              clear hcall hany HS
              go_wp2_with (first | (go_at_call 77; (with_reducible refine HC.out.mono ?_); rintro e w' ⟨rfl, hc3⟩))
              go_roundw
              case rel => exact ⟨k + 1, by omega, by go_num, by rw [HS2.out], by (repeat (first | (with_reducible exact Chg.refl _ _) | ((with_reducible refine Chg.setNew ?_ _ ?_); rotate_left; first | (dsimp only; omega) | (simp; done) | (simp; omega)) | (with_reducible refine Chg.alloc ?_ _) | (with_reducible refine Chg.drew ?_) | (with_reducible refine Chg.drewN ?_ _) | (with_reducible refine Chg.no ?_ (by assumption)) | (with_reducible refine Chg.and_ ?_ (by assumption)) | ((with_reducible refine Chg.at_ ?_ (by assumption) ?_); rotate_left; (try simp only [World.size_alloc]); omega)))⟩
              case measure => simp [intOf]; omega
            | false =>
              have HS2 : Hid (foundF (xs.take (k + 1)) ys = s) := by show foundF _ _ = _; rw [HS.out]; simp only []; rw [if_neg (by rw [hany]; simp)]; omega
              rw [hany] at hcall
              have HC := hid hcall
              clear hcall hany HS
              go_wp2_with (first | (go_at_call 77; (with_reducible refine HC.out.mono ?_); rintro e w' ⟨rfl, hc3⟩))
              go_roundw
              case rel => exact ⟨k + 1, by omega, by go_num, by rw [HS2.out], by (repeat (first | (with_reducible exact Chg.refl _ _) | ((with_reducible refine Chg.setNew ?_ _ ?_); rotate_left; first | (dsimp only; omega) | (simp; done) | (simp; omega)) | (with_reducible refine Chg.alloc ?_ _) | (with_reducible refine Chg.drew ?_) | (with_reducible refine Chg.drewN ?_ _) | (with_reducible refine Chg.no ?_ (by assumption)) | (with_reducible refine Chg.and_ ?_ (by assumption)) | ((with_reducible refine Chg.at_ ?_ (by assumption) ?_); rotate_left; (try simp only [World.size_alloc]); omega)))⟩
              case measure => simp [intOf]; omega
          · have hkn : k = n := by omega
            subst hkn
            have hb := foundF_bd xs ys
            rw [HL.out] at hb
            have e0 : foundF (xs.take k) ys = foundF xs ys := by rw [List.take_of_length_le (by rw [HL.out]; exact Nat.le_refl _)]
            rw [e0]
            clear e0
            generalize foundF xs ys = s at *
            have hb1 := hb.1; have hb2 := hb.2
            go_wp2
            go_ret
            exact ⟨by rw [HF.out]; rfl, by (repeat (first | (with_reducible exact Chg.refl _ _) | ((with_reducible refine Chg.setNew ?_ _ ?_); rotate_left; first | (dsimp only; omega) | (simp; done) | (simp; omega)) | (with_reducible refine Chg.alloc ?_ _) | (with_reducible refine Chg.drew ?_) | (with_reducible refine Chg.drewN ?_ _) | (with_reducible refine Chg.no ?_ (by assumption)) | (with_reducible refine Chg.and_ ?_ (by assumption)) | ((with_reducible refine Chg.at_ ?_ (by assumption) ?_); rotate_left; (try simp only [World.size_alloc]); omega)))⟩
end Go.Proofs.Ytifdcdpdihfbjaa
