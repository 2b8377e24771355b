/- Fused ranks: the program's two function literals. -/
import Derived.Test.YtofbjganahbekaaFuse1
import Derived.Test.YtofbjganahbekaaCmp
import Derived.Test.YtofbjganahbekaaPFuse
import Derived.Deep.RegionWith
namespace Go.Proofs.Ytofbjganahbekaa
open Go.RowKit
set_option linter.unusedVariables false
set_option linter.unusedSimpArgs false
set_option maxHeartbeats 2000000 in
theorem fuse1 (l0 h0 l1 h1 : Nat) (A B : Option Addr) (n c m d : Nat) (xs ys : List (Int × Int)) (key : Int) (ba bb : Nat) (w : World) (hx : RHits w l0 h0 A n c xs) (hy : RHits w l1 h1 B m d ys) (hn : n ≤ 1000000) (hm : m ≤ 1000000)
    (ca : w.cell? ⟨ba, 0, none⟩ = some (.slice A n c)) (cb : w.cell? ⟨bb, 0, none⟩ = some (.slice B m d)) :
    Calls Try.prog 40 (#[.int .i64 key] ++ #[.pointer (some ⟨ba, 0, none⟩), .pointer (some ⟨bb, 0, none⟩)]) w fun e w' => e = .returned (.int .i64 (sumF xs ys key)) ∧ (Chg No w w' ∧ w.drawn ≤ w'.drawn) := by
  have HX := hid hx; have HY := hid hy
  have hF : sumF xs ys key = rankF xs key + rankF ys key := rfl
  have b1 := rankF_bd xs key; have b2 := rankF_bd ys key
  have K1 := hid (fun W (h : RHits W l0 h0 A n c xs) => iRankScoreD l0 h0 A n c xs key W h hn)
  have K2 := hid (fun W (h : RHits W l1 h1 B m d ys) => iRankScoreD l1 h1 B m d ys key W h hm)
  generalize sumF xs ys key = r at *
  generalize rankF xs key = r1 at *
  generalize rankF ys key = r2 at *
  have HF := hid hF
  have b1a := b1.1; have b1b := b1.2; have b2a := b2.1; have b2b := b2.2
  clear hx hy hF b1 b2
  show Calls Try.prog 40 #[.int .i64 key, .pointer (some ⟨ba, 0, none⟩), .pointer (some ⟨bb, 0, none⟩)] w _
  go_enter Try.func40, Try.ntmps40
  go_wp2_with fail
  go_region_with (first | (go_at_call 41; (with_reducible refine (K1.out _ (HX.out.no (by (repeat (first | (with_reducible exact Chg.refl _ _) | ((with_reducible refine Chg.setNew ?_ _ ?_); rotate_left; first | (dsimp only; omega) | (simp; done) | (simp; omega)) | (with_reducible refine Chg.alloc ?_ _) | (with_reducible refine Chg.drew ?_) | (with_reducible refine Chg.drewN ?_ _) | (with_reducible refine Chg.no ?_ (by assumption)) | (with_reducible refine Chg.and_ ?_ (by assumption)) | ((with_reducible refine Chg.at_ ?_ (by assumption) ?_); rotate_left; (try simp only [World.size_alloc]); omega)))))).mono ?_); rintro e w1 ⟨rfl, hc1, hd1⟩; have g1 := cell_keep (S := No) (w := w) (w' := w1) (by (repeat (first | (with_reducible exact Chg.refl _ _) | ((with_reducible refine Chg.setNew ?_ _ ?_); rotate_left; first | (dsimp only; omega) | (simp; done) | (simp; omega)) | (with_reducible refine Chg.alloc ?_ _) | (with_reducible refine Chg.drew ?_) | (with_reducible refine Chg.drewN ?_ _) | (with_reducible refine Chg.no ?_ (by assumption)) | (with_reducible refine Chg.and_ ?_ (by assumption)) | ((with_reducible refine Chg.at_ ?_ (by assumption) ?_); rotate_left; (try simp only [World.size_alloc]); omega)))) ca (fun e => e); have g2 := cell_keep (S := No) (w := w) (w' := w1) (by (repeat (first | (with_reducible exact Chg.refl _ _) | ((with_reducible refine Chg.setNew ?_ _ ?_); rotate_left; first | (dsimp only; omega) | (simp; done) | (simp; omega)) | (with_reducible refine Chg.alloc ?_ _) | (with_reducible refine Chg.drew ?_) | (with_reducible refine Chg.drewN ?_ _) | (with_reducible refine Chg.no ?_ (by assumption)) | (with_reducible refine Chg.and_ ?_ (by assumption)) | ((with_reducible refine Chg.at_ ?_ (by assumption) ?_); rotate_left; (try simp only [World.size_alloc]); omega)))) cb (fun e => e)) | (go_at_call 41; (with_reducible refine (K2.out _ (HY.out.no (by (repeat (first | (with_reducible exact Chg.refl _ _) | ((with_reducible refine Chg.setNew ?_ _ ?_); rotate_left; first | (dsimp only; omega) | (simp; done) | (simp; omega)) | (with_reducible refine Chg.alloc ?_ _) | (with_reducible refine Chg.drew ?_) | (with_reducible refine Chg.drewN ?_ _) | (with_reducible refine Chg.no ?_ (by assumption)) | (with_reducible refine Chg.and_ ?_ (by assumption)) | ((with_reducible refine Chg.at_ ?_ (by assumption) ?_); rotate_left; (try simp only [World.size_alloc]); omega)))))).mono ?_); rintro e w2 ⟨rfl, hc2, hd2⟩))
  all_goals
    go_wp2
    go_ret
    exact ⟨by rw [HF.out]; go_simp; exact IntKind.wrap_i64 _ |>.trans (by omega), by (repeat (first | (with_reducible exact Chg.refl _ _) | ((with_reducible refine Chg.setNew ?_ _ ?_); rotate_left; first | (dsimp only; omega) | (simp; done) | (simp; omega)) | (with_reducible refine Chg.alloc ?_ _) | (with_reducible refine Chg.drew ?_) | (with_reducible refine Chg.drewN ?_ _) | (with_reducible refine Chg.no ?_ (by assumption)) | (with_reducible refine Chg.and_ ?_ (by assumption)) | ((with_reducible refine Chg.at_ ?_ (by assumption) ?_); rotate_left; (try simp only [World.size_alloc]); omega))), (by (try simp only [World.drawn_setCell, World.drawn_alloc, World.drawn_drew] at *); first | done | omega)⟩
set_option maxRecDepth 100000 in
set_option maxHeartbeats 4000000 in
theorem fuse2 (l0 h0 l1 h1 : Nat) (A B : Option Addr) (n c m d : Nat) (xs ys : List (Int × Int)) (x y : Int) (ba bb bf : Nat) (w : World) (hx : RHits w l0 h0 A n c xs) (hy : RHits w l1 h1 B m d ys) (hn : n ≤ 1000000) (hm : m ≤ 1000000)
    (ca : w.cell? ⟨ba, 0, none⟩ = some (.slice A n c)) (cb : w.cell? ⟨bb, 0, none⟩ = some (.slice B m d)) (cf : w.cell? ⟨bf, 0, none⟩ = some (.func (.func 40) #[] #[.pointer (some ⟨ba, 0, none⟩), .pointer (some ⟨bb, 0, none⟩)])) :
    Calls Try.prog 43 (#[.int .i64 x, .int .i64 y] ++ #[.pointer (some ⟨bf, 0, none⟩)]) w fun e w' => e = .returned (.int .i64 (cmpF (sumF xs ys) x y)) ∧ (Chg No w w' ∧ w.drawn ≤ w'.drawn) := by
  have hF : cmpF (sumF xs ys) x y = orF [cmpI (sumF xs ys y) (sumF xs ys x), cmpI x y] := rfl
  have KA := hid (fun W (h : Chg No w W) => show Calls Try.prog 40 #[.int .i64 y, .pointer (some ⟨ba, 0, none⟩), .pointer (some ⟨bb, 0, none⟩)] W (fun e w' => e = .returned (.int .i64 (sumF xs ys y)) ∧ (Chg No W w' ∧ W.drawn ≤ w'.drawn)) from fuse1 l0 h0 l1 h1 A B n c m d xs ys y ba bb W (hx.no h) (hy.no h) hn hm (cell_keep h ca (fun e => e)) (cell_keep h cb (fun e => e)))
  have KB := hid (fun W (h : Chg No w W) => show Calls Try.prog 40 #[.int .i64 x, .pointer (some ⟨ba, 0, none⟩), .pointer (some ⟨bb, 0, none⟩)] W (fun e w' => e = .returned (.int .i64 (sumF xs ys x)) ∧ (Chg No W w' ∧ W.drawn ≤ w'.drawn)) from fuse1 l0 h0 l1 h1 A B n c m d xs ys x ba bb W (hx.no h) (hy.no h) hn hm (cell_keep h ca (fun e => e)) (cell_keep h cb (fun e => e)))
  have EG := hid (enters_of (P := Try.prog) Try.func40 (by kernel_rfl) rfl)
  generalize cmpF (sumF xs ys) x y = r at *
  generalize sumF xs ys y = sy at *
  generalize sumF xs ys x = sx at *
  obtain ⟨c1, hc1⟩ : ∃ z, cmpI sy sx = z := ⟨_, rfl⟩
  obtain ⟨c2, hc2⟩ : ∃ z, cmpI x y = z := ⟨_, rfl⟩
  have K1 := hid (fun W => compareI sy sx W)
  have K2 := hid (fun W => compareI x y W)
  rw [hc1, hc2] at hF
  rw [hc1] at K1
  rw [hc2] at K2
  have HF := hid hF
  have KO := hid (fun (W : World) (g : Nat) (h : W.heap[g]? = some (.cells #[.int .i64 c1, .int .i64 c2] 3 (0, 0))) => cmpOr _ _ _ _ _ [c1, c2] W (RInts.lit (n := 2) h [c1, c2] rfl rfl (by omega)))
  clear hx hy hF hc1 hc2 ca cb
  show Calls Try.prog 43 #[.int .i64 x, .int .i64 y, .pointer (some ⟨bf, 0, none⟩)] w _
  go_enter Try.func43, Try.ntmps43
  go_wp2_with fail
  go_region_with (first | (go_at_call 40; (with_reducible refine (KA.out _ (by (repeat (first | (with_reducible exact Chg.refl _ _) | ((with_reducible refine Chg.setNew ?_ _ ?_); rotate_left; first | (dsimp only; omega) | (simp; done) | (simp; omega)) | (with_reducible refine Chg.alloc ?_ _) | (with_reducible refine Chg.drew ?_) | (with_reducible refine Chg.drewN ?_ _) | (with_reducible refine Chg.no ?_ (by assumption)) | (with_reducible refine Chg.and_ ?_ (by assumption)) | ((with_reducible refine Chg.at_ ?_ (by assumption) ?_); rotate_left; (try simp only [World.size_alloc]); omega))))).mono ?_); rintro e w1 ⟨rfl, hc1, hd1⟩; have g1 := cell_keep (S := No) (w := w) (w' := w1) (by (repeat (first | (with_reducible exact Chg.refl _ _) | ((with_reducible refine Chg.setNew ?_ _ ?_); rotate_left; first | (dsimp only; omega) | (simp; done) | (simp; omega)) | (with_reducible refine Chg.alloc ?_ _) | (with_reducible refine Chg.drew ?_) | (with_reducible refine Chg.drewN ?_ _) | (with_reducible refine Chg.no ?_ (by assumption)) | (with_reducible refine Chg.and_ ?_ (by assumption)) | ((with_reducible refine Chg.at_ ?_ (by assumption) ?_); rotate_left; (try simp only [World.size_alloc]); omega)))) cf (fun e => e)) | (go_at_call 40; (with_reducible refine (KB.out _ (by (repeat (first | (with_reducible exact Chg.refl _ _) | ((with_reducible refine Chg.setNew ?_ _ ?_); rotate_left; first | (dsimp only; omega) | (simp; done) | (simp; omega)) | (with_reducible refine Chg.alloc ?_ _) | (with_reducible refine Chg.drew ?_) | (with_reducible refine Chg.drewN ?_ _) | (with_reducible refine Chg.no ?_ (by assumption)) | (with_reducible refine Chg.and_ ?_ (by assumption)) | ((with_reducible refine Chg.at_ ?_ (by assumption) ?_); rotate_left; (try simp only [World.size_alloc]); omega))))).mono ?_); rintro e w2 ⟨rfl, hc2, hd2⟩) | (go_at_call 45; (with_reducible refine (K1.out _).mono ?_); rintro e w' ⟨rfl, rfl⟩) | (go_at_call 45; (with_reducible refine (K2.out _).mono ?_); rintro e w' ⟨rfl, rfl⟩) | (go_at_call 44; (refine (KO.out _ _ (by exact heap_top rfl)).mono ?_); rintro e w' ⟨rfl, rfl⟩))
  all_goals
    go_wp2
    go_ret
    exact ⟨by rw [HF.out]; first | rfl | (go_simp; done), by (repeat (first | (with_reducible exact Chg.refl _ _) | ((with_reducible refine Chg.setNew ?_ _ ?_); rotate_left; first | (dsimp only; omega) | (simp; done) | (simp; omega)) | (with_reducible refine Chg.alloc ?_ _) | (with_reducible refine Chg.drew ?_) | (with_reducible refine Chg.drewN ?_ _) | (with_reducible refine Chg.no ?_ (by assumption)) | (with_reducible refine Chg.and_ ?_ (by assumption)) | ((with_reducible refine Chg.at_ ?_ (by assumption) ?_); rotate_left; (try simp only [World.size_alloc]); omega))), (by (try simp only [World.drawn_setCell, World.drawn_alloc, World.drawn_drew] at *); first | done | omega)⟩
end Go.Proofs.Ytofbjganahbekaa
