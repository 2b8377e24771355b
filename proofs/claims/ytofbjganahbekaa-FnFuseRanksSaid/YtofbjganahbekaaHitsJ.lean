/- Hits: areHits, the scores and the recall of the program. -/
import Derived.Test.YtofbjganahbekaaHitsI
namespace Go.Proofs.Ytofbjganahbekaa
open Go.RowKit Go.Shelf
set_option linter.unusedVariables false
set_option linter.unusedSimpArgs false
set_option maxHeartbeats 2000000 in
theorem areHits (l0 h0 : Nat) (A : Option Addr) (n c : Nat) (xs : List (Int × Int)) (w : World) (hx : RHits w l0 h0 A n c xs) :
    Calls Try.prog 35 #[.slice A n c] w fun e w' => e = .returned (.bool (hitsB xs)) ∧ Chg No w w' := by
  have hnc := hx.le; have hcm := hx.cap
  have HX := hid hx
  have EG := hid (enters_of (P := Try.prog) Try.func52 (by kernel_rfl) rfl)
  clear hx
  by_cases h16 : 16 < n
  · have HF := hid (hitsB_long (l := xs) (by rw [HX.out.len]; exact h16))
    have h16' : (16 : Int) < n := by omega
    clear h16
    go_enter Try.func35, Try.ntmps35
    go_wp2
    go_ret
    exact ⟨by rw [HF.out]; rfl, by (repeat (first | (with_reducible exact Chg.refl _ _) | ((with_reducible refine Chg.setNew ?_ _ ?_); rotate_left; first | (dsimp only; omega) | (simp; done) | (simp; omega)) | (with_reducible refine Chg.alloc ?_ _) | (with_reducible refine Chg.drew ?_) | (with_reducible refine Chg.drewN ?_ _) | (with_reducible refine Chg.no ?_ (by assumption)) | (with_reducible refine Chg.and_ ?_ (by assumption)) | ((with_reducible refine Chg.at_ ?_ (by assumption) ?_); rotate_left; (try simp only [World.size_alloc]); omega)))⟩
  · have h16' : (n : Int) ≤ 16 := by omega
    go_enter Try.func35, Try.ntmps35
    go_wp2
    go_loopw [10] (fun i wr => ∃ k : Nat, k ≤ n ∧ i = .int .i64 k ∧ Chg No w wr ∧ Hid (hitsUp xs k = true)) (fun i _ => n - (intOf i).toNat)
    case atStart => exact ⟨0, Nat.zero_le _, rfl, Chg.refl _ _, rfl⟩
    case round =>
      obtain ⟨k, hk, rfl, hc, HU⟩ := hrel
      obtain ⟨wo, rfl⟩ : ∃ W : World, W = wr := ⟨_, rfl⟩
      by_cases hlt : k < n
      · obtain ⟨b, o, x, rfl, _, _, hxk, hE⟩ := (HX.out.no hc).at_ hlt
        obtain ⟨x1, x2⟩ := x
        have hE1 : wo.cell? ⟨b, o + k * 2, none⟩ = some (.int .i64 x1) := hE.1
        have hE2 : wo.cell? ⟨b, o + k * 2 + 1, none⟩ = some (.int .i64 x2) := hE.2
        have B1 := hid (Box.new (w := wo) [.int .i64 x1, .int .i64 x2] 39 rfl)
        have f1 : ∀ p : NB (wo.alloc (.cells #[.int .i64 x1, .int .i64 x2] 39)), p.wd.cell? ⟨wo.heap.size, 0, none⟩ = some (.int .i64 x1) := nb_cell (B1.out.cell 0)
        have f2 : ∀ p : NB (wo.alloc (.cells #[.int .i64 x1, .int .i64 x2] 39)), p.wd.cell? ⟨wo.heap.size, 1, none⟩ = some (.int .i64 x2) := nb_cell (B1.out.cell 1)
        have hlen : k < xs.length := by have := HX.out.len; omega
        have Hxk := hid hxk
        have Hlen := hid hlen
        clear hxk hE hlen
        by_cases a1 : x1 < 1
        · skip
          have HF := hid (hitsB_false_of Hlen.out (hitOk_f1 Hxk.out (by unfold inB; simp; omega)))
          go_wp2_with fail
          (refine wp_region_nb (by kernel_rfl) (by kernel_rfl) ?_; (repeat (first | go_big_quiet_step (fail) | quiet_step (fail))); (with_reducible refine wpQuiet_nil ?_); intro wq hw1; have hq := nb_out hw1; clear hw1)
          go_wp2
          go_ret
          exact ⟨by rw [HF.out]; rfl, by (repeat (first | (with_reducible exact Chg.refl _ _) | ((with_reducible refine Chg.setNew ?_ _ ?_); rotate_left; first | (dsimp only; omega) | (simp; done) | (simp; omega)) | (with_reducible refine Chg.alloc ?_ _) | (with_reducible refine Chg.drew ?_) | (with_reducible refine Chg.drewN ?_ _) | (with_reducible refine Chg.no ?_ (by assumption)) | (with_reducible refine Chg.and_ ?_ (by assumption)) | ((with_reducible refine Chg.at_ ?_ (by assumption) ?_); rotate_left; (try simp only [World.size_alloc]); omega)))⟩
        · by_cases a2 : 99 < x1
          · skip
            have HF := hid (hitsB_false_of Hlen.out (hitOk_f1 Hxk.out (by unfold inB; simp; omega)))
            go_wp2_with fail
            (refine wp_region_nb (by kernel_rfl) (by kernel_rfl) ?_; (repeat (first | go_big_quiet_step (fail) | quiet_step (fail))); (with_reducible refine wpQuiet_nil ?_); intro wq hw1; have hq := nb_out hw1; clear hw1)
            go_wp2
            go_ret
            exact ⟨by rw [HF.out]; rfl, by (repeat (first | (with_reducible exact Chg.refl _ _) | ((with_reducible refine Chg.setNew ?_ _ ?_); rotate_left; first | (dsimp only; omega) | (simp; done) | (simp; omega)) | (with_reducible refine Chg.alloc ?_ _) | (with_reducible refine Chg.drew ?_) | (with_reducible refine Chg.drewN ?_ _) | (with_reducible refine Chg.no ?_ (by assumption)) | (with_reducible refine Chg.and_ ?_ (by assumption)) | ((with_reducible refine Chg.at_ ?_ (by assumption) ?_); rotate_left; (try simp only [World.size_alloc]); omega)))⟩
          · by_cases a3 : x2 < 0
            · skip
              have HF := hid (hitsB_false_of Hlen.out (hitOk_f2 Hxk.out (by unfold inB; simp; omega)))
              go_wp2_with fail
              (refine wp_region_nb (by kernel_rfl) (by kernel_rfl) ?_; (repeat (first | go_big_quiet_step (fail) | quiet_step (fail))); (with_reducible refine wpQuiet_nil ?_); intro wq hw1; have hq := nb_out hw1; clear hw1)
              go_wp2
              go_ret
              exact ⟨by rw [HF.out]; rfl, by (repeat (first | (with_reducible exact Chg.refl _ _) | ((with_reducible refine Chg.setNew ?_ _ ?_); rotate_left; first | (dsimp only; omega) | (simp; done) | (simp; omega)) | (with_reducible refine Chg.alloc ?_ _) | (with_reducible refine Chg.drew ?_) | (with_reducible refine Chg.drewN ?_ _) | (with_reducible refine Chg.no ?_ (by assumption)) | (with_reducible refine Chg.and_ ?_ (by assumption)) | ((with_reducible refine Chg.at_ ?_ (by assumption) ?_); rotate_left; (try simp only [World.size_alloc]); omega)))⟩
            · by_cases a4 : 1000000 < x2
              · skip
                have HF := hid (hitsB_false_of Hlen.out (hitOk_f2 Hxk.out (by unfold inB; simp; omega)))
                go_wp2_with fail
                (refine wp_region_nb (by kernel_rfl) (by kernel_rfl) ?_; (repeat (first | go_big_quiet_step (fail) | quiet_step (fail))); (with_reducible refine wpQuiet_nil ?_); intro wq hw1; have hq := nb_out hw1; clear hw1)
                go_wp2
                go_ret
                exact ⟨by rw [HF.out]; rfl, by (repeat (first | (with_reducible exact Chg.refl _ _) | ((with_reducible refine Chg.setNew ?_ _ ?_); rotate_left; first | (dsimp only; omega) | (simp; done) | (simp; omega)) | (with_reducible refine Chg.alloc ?_ _) | (with_reducible refine Chg.drew ?_) | (with_reducible refine Chg.drewN ?_ _) | (with_reducible refine Chg.no ?_ (by assumption)) | (with_reducible refine Chg.and_ ?_ (by assumption)) | ((with_reducible refine Chg.at_ ?_ (by assumption) ?_); rotate_left; (try simp only [World.size_alloc]); omega)))⟩
              · have g1 : Hid (inB x1 1 99 = true) := by show inB _ _ _ = _; unfold inB; simp; omega
                have g2 : Hid (inB x2 0 1000000 = true) := by show inB _ _ _ = _; unfold inB; simp; omega
                by_cases h0 : k = 0
                · have J := hid (show hitOk3 xs k (x1, x2) from ⟨Hxk.out, g1.out, g2.out, fun h => absurd h (by omega)⟩)
                  have h0' : decide (0 < k) = false := by simp; omega
                  clear h0
                  go_wp2_with fail
                  (refine wp_region_nb (by kernel_rfl) (by kernel_rfl) ?_; (repeat (first | go_big_quiet_step (fail) | quiet_step (fail))); (with_reducible refine wpQuiet_nil ?_); intro wq hw1; have hq := nb_out hw1; clear hw1)
                  have HXK := hid (RSl.take (HX.out.no (Chg.no (Chg.alloc hc _) hq)) (Nat.le_of_lt hlt))
                  have hcell : wq.cell? ⟨wo.heap.size, 0, none⟩ = some (.int .i64 x1) := cell_keep hq (B1.out.cell 0) (fun e => e)
                  have hlt2 : wo.heap.size < wq.heap.size := by have := hq.size; simp only [World.size_alloc] at this; omega
                  have hcall := containsFunc l0 h0 _ k c (xs.take k) 52 #[.pointer (some ⟨wo.heap.size, 0, none⟩)] (fun y => decide (y.1 = x1)) wq HXK.out EG.out (fun W y1 y2 hW => areHits1 y1 y2 x1 wo.heap.size W (by have := hW.size; omega) (cell_keep hW hcell (fun e => e)))
                  cases hany : (xs.take k).any fun y => decide (y.1 = x1) with
                  | true =>
                    have HF := hid (hitsB_false_of Hlen.out (by rw [hitOk3_eq J.out, hany]; rfl))
                    rw [hany] at hcall
                    have HC := hid hcall
                    clear hcall hany
                    go_wp2_with ((go_at_call 51; (with_reducible refine HC.out.mono ?_); rintro e w2 ⟨rfl, hc2⟩))
                    go_ret
                    exact ⟨by rw [HF.out]; rfl, by (repeat (first | (with_reducible exact Chg.refl _ _) | ((with_reducible refine Chg.setNew ?_ _ ?_); rotate_left; first | (dsimp only; omega) | (simp; done) | (simp; omega)) | (with_reducible refine Chg.alloc ?_ _) | (with_reducible refine Chg.drew ?_) | (with_reducible refine Chg.drewN ?_ _) | (with_reducible refine Chg.no ?_ (by assumption)) | (with_reducible refine Chg.and_ ?_ (by assumption)) | ((with_reducible refine Chg.at_ ?_ (by assumption) ?_); rotate_left; (try simp only [World.size_alloc]); omega)))⟩
                  | false =>
                    have HU2 := hid (show hitsUp xs (k + 1) = true from by rw [hitsUp_snoc, HU.out, hitOk3_eq J.out, hany]; rfl)
                    rw [hany] at hcall
                    have HC := hid hcall
                    clear hcall hany
                    go_wp2_with ((go_at_call 51; (with_reducible refine HC.out.mono ?_); rintro e w2 ⟨rfl, hc2⟩))
                    go_roundw
                    case rel => exact ⟨k + 1, by omega, by go_num, by (repeat (first | (with_reducible exact Chg.refl _ _) | ((with_reducible refine Chg.setNew ?_ _ ?_); rotate_left; first | (dsimp only; omega) | (simp; done) | (simp; omega)) | (with_reducible refine Chg.alloc ?_ _) | (with_reducible refine Chg.drew ?_) | (with_reducible refine Chg.drewN ?_ _) | (with_reducible refine Chg.no ?_ (by assumption)) | (with_reducible refine Chg.and_ ?_ (by assumption)) | ((with_reducible refine Chg.at_ ?_ (by assumption) ?_); rotate_left; (try simp only [World.size_alloc]); omega))), HU2⟩
                    case measure => simp [intOf]; omega
                · have h0' : decide (0 < k) = true := by simp; omega
                  obtain ⟨b', o', y, hA', _, _, hyk, hE⟩ := (HX.out.no hc).at_ (k := k - 1) (by omega)
                  obtain ⟨rfl, rfl⟩ : b = b' ∧ o = o' := by injection hA' with hA'; injection hA' with h1 h2; exact ⟨h1, h2⟩
                  obtain ⟨y1, y2⟩ := y
                  have hP1 : ∀ p : NB (wo.alloc (.cells #[.int .i64 x1, .int .i64 x2] 39)), p.wd.cell? ⟨b, o + (k - 1) * 2, none⟩ = some (.int .i64 y1) := nb_cell (cell_keep ((Chg.refl No _).alloc _) hE.1 (fun e => e))
                  have hP2 : ∀ p : NB (wo.alloc (.cells #[.int .i64 x1, .int .i64 x2] 39)), p.wd.cell? ⟨b, o + (k - 1) * 2 + 1, none⟩ = some (.int .i64 y2) := nb_cell (cell_keep ((Chg.refl No _).alloc _) hE.2 (fun e => e))
                  have Hyk := hid hyk
                  have hk1 : k - 1 < n := by omega
                  have i1 : (1 : Int) ≤ k := by omega
                  have i2 : ((k : Int) - 1).toNat = k - 1 := by omega
                  have i3 : (k : Int) - 1 < n := by omega
                  obtain ⟨cv, hcv⟩ : ∃ cv, cmpHitF (x1, x2) (y1, y2) = cv := ⟨_, rfl⟩
                  have hpos := cmpHitF_pos (x1, x2) (y1, y2)
                  rw [hcv] at hpos
                  have HCV := hid hcv
                  clear h0 hyk hE hA' hcv
                  cases g3 : nearB (y1, y2) (x1, x2) with
                  | false =>
                    have hle : cv ≤ 0 := by have : ¬ 0 < cv := fun h => by rw [hpos.1 h] at g3; cases g3
                                            omega
                    have HF := hid (show hitsB xs = false from hitsB_false_of Hlen.out (by
                      obtain ⟨k', rfl⟩ : ∃ k', k = k' + 1 := ⟨k - 1, by omega⟩
                      exact hitOk_f3 Hxk.out Hyk.out g3))
                    clear hpos g3
                    go_wp2_with fail
                    (refine wp_region_nb (by kernel_rfl) (by kernel_rfl) ?_; (repeat (first | go_big_quiet_step ((go_at_call 50; exact nb_ofE (iCompareHits _ _ _ _ _) (congrArg (Value.int .i64) HCV.out))) | quiet_step ((go_at_call 50; exact nb_ofE (iCompareHits _ _ _ _ _) (congrArg (Value.int .i64) HCV.out))))); (with_reducible refine wpQuiet_nil ?_); intro wq hw1; have hq := nb_out hw1; clear hw1)
                    go_wp2
                    go_ret
                    exact ⟨by rw [HF.out]; rfl, by (repeat (first | (with_reducible exact Chg.refl _ _) | ((with_reducible refine Chg.setNew ?_ _ ?_); rotate_left; first | (dsimp only; omega) | (simp; done) | (simp; omega)) | (with_reducible refine Chg.alloc ?_ _) | (with_reducible refine Chg.drew ?_) | (with_reducible refine Chg.drewN ?_ _) | (with_reducible refine Chg.no ?_ (by assumption)) | (with_reducible refine Chg.and_ ?_ (by assumption)) | ((with_reducible refine Chg.at_ ?_ (by assumption) ?_); rotate_left; (try simp only [World.size_alloc]); omega)))⟩
                  | true =>
                    have hgt : 0 < cv := hpos.2 g3
                    have J := hid (show hitOk3 xs k (x1, x2) from ⟨Hxk.out, g1.out, g2.out, fun _ => ⟨_, Hyk.out, g3⟩⟩)
                    clear hpos g3
                    go_wp2_with fail
                    (refine wp_region_nb (by kernel_rfl) (by kernel_rfl) ?_; (repeat (first | go_big_quiet_step ((go_at_call 50; exact nb_ofE (iCompareHits _ _ _ _ _) (congrArg (Value.int .i64) HCV.out))) | quiet_step ((go_at_call 50; exact nb_ofE (iCompareHits _ _ _ _ _) (congrArg (Value.int .i64) HCV.out))))); (with_reducible refine wpQuiet_nil ?_); intro wq hw1; have hq := nb_out hw1; clear hw1)
                    have HXK := hid (RSl.take (HX.out.no (Chg.no (Chg.alloc hc _) hq)) (Nat.le_of_lt hlt))
                    have hcell : wq.cell? ⟨wo.heap.size, 0, none⟩ = some (.int .i64 x1) := cell_keep hq (B1.out.cell 0) (fun e => e)
                    have hlt2 : wo.heap.size < wq.heap.size := by have := hq.size; simp only [World.size_alloc] at this; omega
                    have hcall := containsFunc l0 h0 _ k c (xs.take k) 52 #[.pointer (some ⟨wo.heap.size, 0, none⟩)] (fun y => decide (y.1 = x1)) wq HXK.out EG.out (fun W y1 y2 hW => areHits1 y1 y2 x1 wo.heap.size W (by have := hW.size; omega) (cell_keep hW hcell (fun e => e)))
                    cases hany : (xs.take k).any fun y => decide (y.1 = x1) with
                    | true =>
                      have HF := hid (hitsB_false_of Hlen.out (by rw [hitOk3_eq J.out, hany]; rfl))
                      rw [hany] at hcall
                      have HC := hid hcall
                      clear hcall hany
                      go_wp2_with ((go_at_call 51; (with_reducible refine HC.out.mono ?_); rintro e w2 ⟨rfl, hc2⟩))
                      go_ret
                      exact ⟨by rw [HF.out]; rfl, by (repeat (first | (with_reducible exact Chg.refl _ _) | ((with_reducible refine Chg.setNew ?_ _ ?_); rotate_left; first | (dsimp only; omega) | (simp; done) | (simp; omega)) | (with_reducible refine Chg.alloc ?_ _) | (with_reducible refine Chg.drew ?_) | (with_reducible refine Chg.drewN ?_ _) | (with_reducible refine Chg.no ?_ (by assumption)) | (with_reducible refine Chg.and_ ?_ (by assumption)) | ((with_reducible refine Chg.at_ ?_ (by assumption) ?_); rotate_left; (try simp only [World.size_alloc]); omega)))⟩
                    | false =>
                      have HU2 := hid (show hitsUp xs (k + 1) = true from by rw [hitsUp_snoc, HU.out, hitOk3_eq J.out, hany]; rfl)
                      rw [hany] at hcall
                      have HC := hid hcall
                      clear hcall hany
                      go_wp2_with ((go_at_call 51; (with_reducible refine HC.out.mono ?_); rintro e w2 ⟨rfl, hc2⟩))
                      go_roundw
                      case rel => exact ⟨k + 1, by omega, by go_num, by (repeat (first | (with_reducible exact Chg.refl _ _) | ((with_reducible refine Chg.setNew ?_ _ ?_); rotate_left; first | (dsimp only; omega) | (simp; done) | (simp; omega)) | (with_reducible refine Chg.alloc ?_ _) | (with_reducible refine Chg.drew ?_) | (with_reducible refine Chg.drewN ?_ _) | (with_reducible refine Chg.no ?_ (by assumption)) | (with_reducible refine Chg.and_ ?_ (by assumption)) | ((with_reducible refine Chg.at_ ?_ (by assumption) ?_); rotate_left; (try simp only [World.size_alloc]); omega))), HU2⟩
                      case measure => simp [intOf]; omega
      · have hkn : k = n := by omega
        have hU := HU.out
        rw [hkn, ← HX.out.len] at hU
        have HF := hid (show hitsB xs = true from by rw [hitsB_of_up hU, HX.out.len]; exact decide_eq_true (by omega))
        clear HU hU
        go_wp2
        go_ret
        exact ⟨by rw [HF.out]; rfl, by (repeat (first | (with_reducible exact Chg.refl _ _) | ((with_reducible refine Chg.setNew ?_ _ ?_); rotate_left; first | (dsimp only; omega) | (simp; done) | (simp; omega)) | (with_reducible refine Chg.alloc ?_ _) | (with_reducible refine Chg.drew ?_) | (with_reducible refine Chg.drewN ?_ _) | (with_reducible refine Chg.no ?_ (by assumption)) | (with_reducible refine Chg.and_ ?_ (by assumption)) | ((with_reducible refine Chg.at_ ?_ (by assumption) ?_); rotate_left; (try simp only [World.size_alloc]); omega)))⟩
theorem iVALIDHits (l0 h0 : Nat) (A : Option Addr) (n c : Nat) (xs : List (Int × Int)) (w : World) (hx : RHits w l0 h0 A n c xs) :
    Calls Try.prog 24 #[.slice A n c] w fun e w' => e = .returned (.bool (hitsB xs)) ∧ Chg No w w' := by
  have HX := hid hx
  clear hx
  go_enter Try.func24, Try.ntmps24
  go_wp2_with ((go_at_call 35; (with_reducible refine (areHits l0 h0 _ _ _ xs _ HX.out).mono ?_); rintro e w' ⟨rfl, hc⟩))
  go_ret
  exact ⟨rfl, by (repeat (first | (with_reducible exact Chg.refl _ _) | ((with_reducible refine Chg.setNew ?_ _ ?_); rotate_left; first | (dsimp only; omega) | (simp; done) | (simp; omega)) | (with_reducible refine Chg.alloc ?_ _) | (with_reducible refine Chg.drew ?_) | (with_reducible refine Chg.drewN ?_ _) | (with_reducible refine Chg.no ?_ (by assumption)) | (with_reducible refine Chg.and_ ?_ (by assumption)) | ((with_reducible refine Chg.at_ ?_ (by assumption) ?_); rotate_left; (try simp only [World.size_alloc]); omega)))⟩
set_option maxHeartbeats 1000000 in
theorem iRankScore (l0 h0 : Nat) (A : Option Addr) (n c : Nat) (xs : List (Int × Int)) (key : Int) (w : World) (hx : RHits w l0 h0 A n c xs) (hn : n ≤ 1000000) :
    Calls Try.prog 41 #[.slice A n c, .int .i64 key] w fun e w' => e = .returned (.int .i64 (rankF xs key)) ∧ Chg No w w' := by
  have hb := hitAtF_lt xs key
  rw [hx.len] at hb
  have EG := hid (enters_of (P := Try.prog) Try.func58 (by kernel_rfl) rfl)
  have B1 := hid (Box.new (w := w) [.int .i64 key] 3 rfl)
  have hcall := indexFunc l0 h0 A n c xs 58 #[.pointer (some ⟨w.heap.size, 0, none⟩)] (fun y => decide (y.1 = key)) (w.alloc (.cells #[.int .i64 key] 3)) (RHits.no hx ((Chg.refl _ _).alloc _)) EG.out (fun W y1 y2 hW => rankScore1 y1 y2 key w.heap.size W (by have := hW.size; simp only [World.size_alloc] at this; omega) (cell_keep hW (B1.out.cell 0) (fun e => e)))
  have HF : Hid (rankF xs key = if hitAtF xs key < 0 then 0 else 100000 / (60 + hitAtF xs key + 1)) := rfl
  change Calls _ _ _ _ (fun e w' => e = .returned (.int .i64 (hitAtF xs key)) ∧ Chg No _ w') at hcall
  generalize hitAtF xs key = r at *
  have HC := hid hcall
  clear hcall hx B1 EG
  by_cases h0' : r < 0
  · have HF2 := HF.out
    rw [if_pos h0'] at HF2
    have HF3 := hid HF2
    clear HF2 HF
    go_enter Try.func41, Try.ntmps41
    go_wp2_with ((go_at_call 57; (with_reducible refine (HC.out).mono ?_); rintro e w' ⟨rfl, hc⟩))
    go_ret
    exact ⟨by rw [HF3.out]; rfl, by (repeat (first | (with_reducible exact Chg.refl _ _) | ((with_reducible refine Chg.setNew ?_ _ ?_); rotate_left; first | (dsimp only; omega) | (simp; done) | (simp; omega)) | (with_reducible refine Chg.alloc ?_ _) | (with_reducible refine Chg.drew ?_) | (with_reducible refine Chg.drewN ?_ _) | (with_reducible refine Chg.no ?_ (by assumption)) | (with_reducible refine Chg.and_ ?_ (by assumption)) | ((with_reducible refine Chg.at_ ?_ (by assumption) ?_); rotate_left; (try simp only [World.size_alloc]); omega)))⟩
  · have HF2 := HF.out
    rw [if_neg h0'] at HF2
    have HF3 := hid HF2
    clear HF2 HF
    have h0'' : 0 ≤ r := by omega
    go_enter Try.func41, Try.ntmps41
    go_wp2_with ((go_at_call 57; (with_reducible refine (HC.out).mono ?_); rintro e w' ⟨rfl, hc⟩))
    go_ret
    exact ⟨by rw [HF3.out]; rfl, by (repeat (first | (with_reducible exact Chg.refl _ _) | ((with_reducible refine Chg.setNew ?_ _ ?_); rotate_left; first | (dsimp only; omega) | (simp; done) | (simp; omega)) | (with_reducible refine Chg.alloc ?_ _) | (with_reducible refine Chg.drew ?_) | (with_reducible refine Chg.drewN ?_ _) | (with_reducible refine Chg.no ?_ (by assumption)) | (with_reducible refine Chg.and_ ?_ (by assumption)) | ((with_reducible refine Chg.at_ ?_ (by assumption) ?_); rotate_left; (try simp only [World.size_alloc]); omega)))⟩
theorem iRANKScore (l0 h0 : Nat) (A : Option Addr) (n c : Nat) (xs : List (Int × Int)) (key : Int) (w : World) (hx : RHits w l0 h0 A n c xs) :
    Calls Try.prog 28 #[.slice A n c, .int .i64 key] w fun e w' => e = .returned (.int .i64 (scoreF xs key)) ∧ Chg No w w' := by
  have HX := hid hx
  have hcall := fun W (h : RHits W l0 h0 A n c xs) => (areHits l0 h0 A n c xs W h)
  clear hx
  cases hb : hitsB xs with
  | false =>
    rw [hb] at hcall
    have HC := hid hcall
    have HF := hid (show scoreF xs key = -1 from by unfold scoreF; rw [hb]; rfl)
    clear hcall hb
    go_enter Try.func28, Try.ntmps28
    go_wp2_with ((go_at_call 35; (with_reducible refine (HC.out _ HX.out).mono ?_); rintro e w' ⟨rfl, hc⟩))
    go_ret
    exact ⟨by rw [HF.out]; rfl, by (repeat (first | (with_reducible exact Chg.refl _ _) | ((with_reducible refine Chg.setNew ?_ _ ?_); rotate_left; first | (dsimp only; omega) | (simp; done) | (simp; omega)) | (with_reducible refine Chg.alloc ?_ _) | (with_reducible refine Chg.drew ?_) | (with_reducible refine Chg.drewN ?_ _) | (with_reducible refine Chg.no ?_ (by assumption)) | (with_reducible refine Chg.and_ ?_ (by assumption)) | ((with_reducible refine Chg.at_ ?_ (by assumption) ?_); rotate_left; (try simp only [World.size_alloc]); omega)))⟩
  | true =>
    have hn16 : n ≤ 16 := by have := HX.out.len; have := hitsB_len hb; omega
    rw [hb] at hcall
    have HC := hid hcall
    have HF := hid (show scoreF xs key = rankF xs key from by unfold scoreF; rw [hb]; rfl)
    clear hcall hb
    go_enter Try.func28, Try.ntmps28
    (go_wp2_with fail; (with_reducible refine (HC.out _ HX.out).mono ?_); rintro e w1 ⟨rfl, hc⟩)
    (go_wp2_with fail; (with_reducible refine (iRankScore l0 h0 A n c xs key _ (HX.out.no hc) (by omega)).mono ?_); rintro e w2 ⟨rfl, hc2⟩)
    go_wp2
    go_ret
    exact ⟨by rw [HF.out]; rfl, by (repeat (first | (with_reducible exact Chg.refl _ _) | ((with_reducible refine Chg.setNew ?_ _ ?_); rotate_left; first | (dsimp only; omega) | (simp; done) | (simp; omega)) | (with_reducible refine Chg.alloc ?_ _) | (with_reducible refine Chg.drew ?_) | (with_reducible refine Chg.drewN ?_ _) | (with_reducible refine Chg.no ?_ (by assumption)) | (with_reducible refine Chg.and_ ?_ (by assumption)) | ((with_reducible refine Chg.at_ ?_ (by assumption) ?_); rotate_left; (try simp only [World.size_alloc]); omega)))⟩
end Go.Proofs.Ytofbjganahbekaa
