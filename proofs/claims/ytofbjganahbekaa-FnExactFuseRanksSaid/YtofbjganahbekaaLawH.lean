/- What the exact laws ask of hits: their size, copies, equality. -/
import Derived.Test.YtofbjganahbekaaTypes
import Derived.Test.YtofbjganahbekaaQuiet
namespace Go.Proofs.Ytofbjganahbekaa
open Go.RowKit
set_option linter.unusedVariables false
set_option linter.unusedSimpArgs false
theorem szHitS_ok (A : Option Addr) (n c : Nat) (left : Int) (w : World) (hc : (n : Int) ≤ 9223372036854775807) (h0 : 0 ≤ left) (h1 : left ≤ 1048576) (h : (n : Int) ≤ left) :
    Calls Try.prog 10 #[.slice A n c, .int .i64 left] w fun e w' => e = .returned (.int .i64 (left - n)) ∧ w = w' := by
  go_enter Try.func10, Try.ntmps10
  go_wp2
  go_ret
  exact ⟨rfl, rfl⟩
theorem szHitS_no (A : Option Addr) (n c : Nat) (left : Int) (w : World) (hc : (n : Int) ≤ 9223372036854775807) (h0 : 0 ≤ left) (h1 : left ≤ 1048576) (h : left < (n : Int)) :
    Calls Try.prog 10 #[.slice A n c, .int .i64 left] w fun e w' => e = .returned (.int .i64 (-1)) ∧ w = w' := by
  go_enter Try.func10, Try.ntmps10
  go_wp2
  go_ret
  exact ⟨rfl, rfl⟩
theorem toHit (x1 x2 : Int) (w : World) : Calls Try.prog 34 #[.agg #[.int .i64 x1, .int .i64 x2]] w fun e w' => e = .returned (.agg #[.int .i64 x1, .int .i64 x2]) ∧ Chg No w w' := by
  go_enter Try.func34, Try.ntmps34
  go_wp2
  (refine bodyPost_ret (by simp [results, Try.results34, go_sem, *]; rfl) rfl ?_)
  exact ⟨rfl, by (repeat (first | (with_reducible exact Chg.refl _ _) | ((with_reducible refine Chg.setNew ?_ _ ?_); rotate_left; first | (dsimp only; omega) | (simp; done) | (simp; omega)) | (with_reducible refine Chg.alloc ?_ _) | (with_reducible refine Chg.drew ?_) | (with_reducible refine Chg.drewN ?_ _) | (with_reducible refine Chg.no ?_ (by assumption)) | (with_reducible refine Chg.and_ ?_ (by assumption)) | ((with_reducible refine Chg.at_ ?_ (by assumption) ?_); rotate_left; (try simp only [World.size_alloc]); omega)))⟩
set_option maxHeartbeats 1000000 in
theorem toHitS (l0 h0 : Nat) (A : Option Addr) (n c : Nat) (xs : List (Int × Int)) (w : World) (hx : RHits w l0 h0 A n c xs) (hn : n ≤ 1048576) :
    Calls Try.prog 12 #[.slice A n c] w (RetHits xs w) := by
  have hnc := hx.le; have hcm := hx.cap
  have HX := hid hx
  clear hx
  obtain ⟨i0, hi, hz0, hz1, hz2⟩ := info_parts infoHit
  go_enter Try.func12, Try.ntmps12
  go_wp2_with (at_make; refine wpList_make_full _ rfl _ _ 24 rfl w.heap.size 39 i0 _ 2 Try.underlying24 hi hz0 hz1 _ _ _ _ n rfl rfl rfl rfl (by rw [hz2]; omega) (by unfold maxLen; omega) (Nat.le_refl _) ?_; intro w1 hown hg1)
  have hc1 : Chg No w w1 := (Chg.refl No w).grown hg1 (fun k hk => by cases hk)
  rw [madeHits] at hown
  have hO : OHits w1 w.heap.size (.slice (some ⟨w.heap.size, 0, none⟩) n n) (List.replicate n (0, 0)) := by
    show w1.ownsRow _ _ _ _ _ _
    rw [List.length_replicate]; exact hown
  clear hown hg1 hi hz0 hz1 hz2
  generalize hg : w.heap.size = g at *
  have HO := hid hO
  have HG := hid hg
  clear hO hg
  go_loopw [4] (fun i wr => ∃ k : Nat, k ≤ n ∧ i = .int .i64 k ∧ Chg No w wr ∧ Hid (OHits wr g (.slice (some ⟨g, 0, none⟩) n n) (half xs n k (0, 0)))) (fun i _ => n - (intOf i).toNat)
  case atStart => exact ⟨0, Nat.zero_le _, rfl, hc1, by show OHits _ _ _ _; rw [half_none]; exact HO.out⟩
  case round =>
    obtain ⟨k, hk, rfl, hc, HK⟩ := hrel
    by_cases hlt : k < n
    · obtain ⟨b, o, x, rfl, _, _, hxk, hE⟩ := (HX.out.no hc).at_ hlt
      obtain ⟨x1, x2⟩ := x
      have hE1 : wr.cell? ⟨b, o + k * 2, none⟩ = some (.int .i64 x1) := hE.1
      have hE2 : wr.cell? ⟨b, o + k * 2 + 1, none⟩ = some (.int .i64 x2) := hE.2
      have Hxk := hid hxk
      clear hxk hE
      (go_wp2_with fail; (with_reducible refine (toHit _ _ _).mono ?_); rintro e w2 ⟨rfl, hc2⟩)
      have HK2 := hid (HK.out.no hc2)
      have hat := half_at (z := ((0 : Int), (0 : Int))) HX.out.len hlt
      have c1 : w2.cell? ⟨g, k * 2, none⟩ = some (.int .i64 0) := HK2.out.cell (fun _ => rfl) (i := 0) hat rfl
      have c2 : w2.cell? ⟨g, k * 2 + 1, none⟩ = some (.int .i64 0) := HK2.out.cell (fun _ => rfl) (i := 1) hat rfl
      have z1 : w2.frozen? ⟨g, k * 2, none⟩ = false := HK2.out.free _
      have z2 : w2.frozen? ⟨g, k * 2 + 1, none⟩ = false := HK2.out.free _
      have HK3 : Hid (OHits ((w2.setCell ⟨g, k * 2, none⟩ (.int .i64 x1)).setCell ⟨g, k * 2 + 1, none⟩ (.int .i64 x2)) g (.slice (some ⟨g, 0, none⟩) n n) (half xs n (k + 1) (0, 0))) := by
        have := HK2.out.set2 (fun _ => rfl) k (x1, x2) (.int .i64 x1) (.int .i64 x2) rfl
        rw [half_set HX.out.len Hxk.out] at this
        exact this
      have hgw : w.heap.size ≤ g := by rw [HG.out]; exact Nat.le_refl _
      clear hat
      go_wp2
      go_roundw
      case rel => exact ⟨k + 1, by omega, by go_num, by (repeat (first | (with_reducible exact Chg.refl _ _) | ((with_reducible refine Chg.setNew ?_ _ ?_); rotate_left; first | (dsimp only; omega) | (simp; done) | (simp; omega)) | (with_reducible refine Chg.alloc ?_ _) | (with_reducible refine Chg.drew ?_) | (with_reducible refine Chg.drewN ?_ _) | (with_reducible refine Chg.no ?_ (by assumption)) | (with_reducible refine Chg.and_ ?_ (by assumption)) | ((with_reducible refine Chg.at_ ?_ (by assumption) ?_); rotate_left; (try simp only [World.size_alloc]); omega))), HK3⟩
      case measure => simp [intOf]; omega
    · have hkn : k = n := by omega
      have HK2 : Hid (OHits wr g (.slice (some ⟨g, 0, none⟩) n n) xs) := by
        have := HK.out
        rw [hkn, half_all HX.out.len] at this
        exact this
      subst hkn
      go_wp2
      go_ret
      exact ⟨_, rfl, by rw [HG.out]; exact HK2.out, hc⟩
theorem eqHit (x1 x2 : Int) (w : World) : Calls Try.prog 37 #[.agg #[.int .i64 x1, .int .i64 x2], .agg #[.int .i64 x1, .int .i64 x2]] w fun e w' => e = .returned (.bool true) ∧ Chg No w w' := by
  have e1 : (x1 != x1) = false := by simp
  have e2 : (x2 != x2) = false := by simp
  go_enter Try.func37, Try.ntmps37
  go_wp2
  go_ret
  exact ⟨rfl, by (repeat (first | (with_reducible exact Chg.refl _ _) | ((with_reducible refine Chg.setNew ?_ _ ?_); rotate_left; first | (dsimp only; omega) | (simp; done) | (simp; omega)) | (with_reducible refine Chg.alloc ?_ _) | (with_reducible refine Chg.drew ?_) | (with_reducible refine Chg.drewN ?_ _) | (with_reducible refine Chg.no ?_ (by assumption)) | (with_reducible refine Chg.and_ ?_ (by assumption)) | ((with_reducible refine Chg.at_ ?_ (by assumption) ?_); rotate_left; (try simp only [World.size_alloc]); omega)))⟩
set_option maxHeartbeats 1000000 in
theorem eqHitS (l0 h0 l1 h1 : Nat) (A B : Option Addr) (n c d : Nat) (xs : List (Int × Int)) (w : World) (hx : RHits w l0 h0 A n c xs) (hy : RHits w l1 h1 B n d xs) :
    Calls Try.prog 14 #[.slice A n c, .slice B n d] w fun e w' => e = .returned (.bool true) ∧ Chg No w w' := by
  have hnc := hx.le; have hcm := hx.cap; have hnd := hy.le; have hdm := hy.cap
  have HX := hid hx; have HY := hid hy
  have e0 : ((n : Int) != n) = false := by simp
  clear hx hy
  go_enter Try.func14, Try.ntmps14
  go_wp2
  go_loopw [5] (fun i wr => ∃ k : Nat, k ≤ n ∧ i = .int .i64 k ∧ Chg No w wr) (fun i _ => n - (intOf i).toNat)
  case atStart => exact ⟨0, Nat.zero_le _, rfl, Chg.refl _ _⟩
  case round =>
    obtain ⟨k, hk, rfl, hc⟩ := hrel
    by_cases hlt : k < n
    · obtain ⟨b, o, x, rfl, _, _, hxk, hE⟩ := (HX.out.no hc).at_ hlt
      obtain ⟨b', o', x', rfl, _, _, hxk', hE'⟩ := (HY.out.no hc).at_ hlt
      obtain rfl : x = x' := by rw [hxk] at hxk'; injection hxk'
      obtain ⟨x1, x2⟩ := x
      have f1 : ∀ p : NB wr, p.wd.cell? ⟨b, o + k * 2, none⟩ = some (.int .i64 x1) := nb_cell hE.1
      have f2 : ∀ p : NB wr, p.wd.cell? ⟨b, o + k * 2 + 1, none⟩ = some (.int .i64 x2) := nb_cell hE.2
      have f3 : ∀ p : NB wr, p.wd.cell? ⟨b', o' + k * 2, none⟩ = some (.int .i64 x1) := nb_cell hE'.1
      have f4 : ∀ p : NB wr, p.wd.cell? ⟨b', o' + k * 2 + 1, none⟩ = some (.int .i64 x2) := nb_cell hE'.2
      clear hxk hxk' hE hE'
      go_wp2_with fail
      (refine wp_region_nb (by kernel_rfl) (by kernel_rfl) ?_; (repeat (first | go_big_quiet_step ((go_at_call 37; exact nb_of (eqHit _ _ _))) | quiet_step ((go_at_call 37; exact nb_of (eqHit _ _ _))))); (with_reducible refine wpQuiet_nil ?_); intro wq hw1; have hq := nb_out hw1; clear hw1)
      go_wp2
      go_roundw
      case rel => exact ⟨k + 1, by omega, by go_num, by (repeat (first | (with_reducible exact Chg.refl _ _) | ((with_reducible refine Chg.setNew ?_ _ ?_); rotate_left; first | (dsimp only; omega) | (simp; done) | (simp; omega)) | (with_reducible refine Chg.alloc ?_ _) | (with_reducible refine Chg.drew ?_) | (with_reducible refine Chg.drewN ?_ _) | (with_reducible refine Chg.no ?_ (by assumption)) | (with_reducible refine Chg.and_ ?_ (by assumption)) | ((with_reducible refine Chg.at_ ?_ (by assumption) ?_); rotate_left; (try simp only [World.size_alloc]); omega)))⟩
      case measure => simp [intOf]; omega
    · go_wp2
      go_ret
      exact ⟨rfl, by (repeat (first | (with_reducible exact Chg.refl _ _) | ((with_reducible refine Chg.setNew ?_ _ ?_); rotate_left; first | (dsimp only; omega) | (simp; done) | (simp; omega)) | (with_reducible refine Chg.alloc ?_ _) | (with_reducible refine Chg.drew ?_) | (with_reducible refine Chg.drewN ?_ _) | (with_reducible refine Chg.no ?_ (by assumption)) | (with_reducible refine Chg.and_ ?_ (by assumption)) | ((with_reducible refine Chg.at_ ?_ (by assumption) ?_); rotate_left; (try simp only [World.size_alloc]); omega)))⟩
end Go.Proofs.Ytofbjganahbekaa
