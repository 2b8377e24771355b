/- Stores: the program's functions: valid items and stores, copies, FilterStore. -/
import Derived.Test.YtifdcdpdihfbjaaStoreS
import Derived.Test.YtifdcdpdihfbjaaFilt
namespace Go.Proofs.Ytifdcdpdihfbjaa
open Go.RowKit
set_option linter.unusedVariables false
set_option linter.unusedSimpArgs false
theorem vecN4 (xs : List Int) : vecN 4 xs = vecB xs := rfl
set_option maxHeartbeats 1000000 in
theorem iIsItem (l0 h0 : Nat) (A : Option Addr) (n c : Nat) (key tags : Int) (xs : List Int) (w : World) (hx : RInts w l0 h0 A n c xs) :
    Calls Try.prog 114 #[.agg #[.int .i64 key, .slice A n c, .int .i64 tags]] w fun e w' => e = .returned (.bool (itemB ⟨key, xs, tags⟩)) ∧ Chg No w w' := by
  have HX := hid hx
  obtain ⟨b2, h2⟩ : ∃ b, vecB xs = b := ⟨_, rfl⟩
  have K2 := hid (fun W (h : RInts W l0 h0 A n c xs) => show Calls Try.prog 57 #[.slice A n c, .int .i64 4] W fun e w' => e = .returned (.bool (vecN 4 xs)) ∧ W = w' from isVecN 4 l0 h0 A n c xs W h (by omega))
  rw [vecN4, h2] at K2
  have HI : Hid (itemB ⟨key, xs, tags⟩ = (inB key 1 99 && (b2 && inB tags 0 15))) := by show itemB _ = _; unfold itemB; rw [h2]
  clear hx h2
  have HFA : Hid (∀ r : Bool, (inB key 1 99 && (b2 && inB tags 0 15)) = r → itemB ⟨key, xs, tags⟩ = r) := fun r h => HI.out.trans h
  clear HI
  by_cases a1 : 1 ≤ key
  · by_cases a2 : key ≤ 99
    · cases b2 with
      | false =>
        have HF := hid (HFA.out false (by simp))
        clear HFA
        go_enter Try.func114, Try.ntmps114
        go_wp2_with (go_at_call 57; (with_reducible refine (K2.out _ (HX.out.no (by (repeat (first | (with_reducible exact Chg.refl _ _) | ((with_reducible refine Chg.setNew ?_ _ ?_); rotate_left; first | (dsimp only; omega) | (simp; done) | (simp; omega)) | (with_reducible refine Chg.alloc ?_ _) | (with_reducible refine Chg.drew ?_) | (with_reducible refine Chg.drewN ?_ _) | (with_reducible refine Chg.no ?_ (by assumption)) | (with_reducible refine Chg.and_ ?_ (by assumption)) | ((with_reducible refine Chg.at_ ?_ (by assumption) ?_); rotate_left; (try simp only [World.size_alloc]); omega)))))).mono ?_); rintro e w1 ⟨rfl, rfl⟩)
        go_ret
        exact ⟨by rw [HF.out]; rfl, by (repeat (first | (with_reducible exact Chg.refl _ _) | ((with_reducible refine Chg.setNew ?_ _ ?_); rotate_left; first | (dsimp only; omega) | (simp; done) | (simp; omega)) | (with_reducible refine Chg.alloc ?_ _) | (with_reducible refine Chg.drew ?_) | (with_reducible refine Chg.drewN ?_ _) | (with_reducible refine Chg.no ?_ (by assumption)) | (with_reducible refine Chg.and_ ?_ (by assumption)) | ((with_reducible refine Chg.at_ ?_ (by assumption) ?_); rotate_left; (try simp only [World.size_alloc]); omega)))⟩
      | true =>
        by_cases a3 : 0 ≤ tags
        · by_cases a4 : tags ≤ 15
          · have HF := hid (HFA.out true (by unfold inB; simp; omega))
            clear HFA
            go_enter Try.func114, Try.ntmps114
            go_wp2_with (go_at_call 57; (with_reducible refine (K2.out _ (HX.out.no (by (repeat (first | (with_reducible exact Chg.refl _ _) | ((with_reducible refine Chg.setNew ?_ _ ?_); rotate_left; first | (dsimp only; omega) | (simp; done) | (simp; omega)) | (with_reducible refine Chg.alloc ?_ _) | (with_reducible refine Chg.drew ?_) | (with_reducible refine Chg.drewN ?_ _) | (with_reducible refine Chg.no ?_ (by assumption)) | (with_reducible refine Chg.and_ ?_ (by assumption)) | ((with_reducible refine Chg.at_ ?_ (by assumption) ?_); rotate_left; (try simp only [World.size_alloc]); omega)))))).mono ?_); rintro e w1 ⟨rfl, rfl⟩)
            go_ret
            exact ⟨by rw [HF.out]; rfl, by (repeat (first | (with_reducible exact Chg.refl _ _) | ((with_reducible refine Chg.setNew ?_ _ ?_); rotate_left; first | (dsimp only; omega) | (simp; done) | (simp; omega)) | (with_reducible refine Chg.alloc ?_ _) | (with_reducible refine Chg.drew ?_) | (with_reducible refine Chg.drewN ?_ _) | (with_reducible refine Chg.no ?_ (by assumption)) | (with_reducible refine Chg.and_ ?_ (by assumption)) | ((with_reducible refine Chg.at_ ?_ (by assumption) ?_); rotate_left; (try simp only [World.size_alloc]); omega)))⟩
          · have HF := hid (HFA.out false (by unfold inB; simp; omega))
            have a4' : 15 < tags := by omega
            clear HFA a4
            go_enter Try.func114, Try.ntmps114
            go_wp2_with (go_at_call 57; (with_reducible refine (K2.out _ (HX.out.no (by (repeat (first | (with_reducible exact Chg.refl _ _) | ((with_reducible refine Chg.setNew ?_ _ ?_); rotate_left; first | (dsimp only; omega) | (simp; done) | (simp; omega)) | (with_reducible refine Chg.alloc ?_ _) | (with_reducible refine Chg.drew ?_) | (with_reducible refine Chg.drewN ?_ _) | (with_reducible refine Chg.no ?_ (by assumption)) | (with_reducible refine Chg.and_ ?_ (by assumption)) | ((with_reducible refine Chg.at_ ?_ (by assumption) ?_); rotate_left; (try simp only [World.size_alloc]); omega)))))).mono ?_); rintro e w1 ⟨rfl, rfl⟩)
            go_ret
            exact ⟨by rw [HF.out]; exact ret_bool (decide_eq_false (by omega)), by (repeat (first | (with_reducible exact Chg.refl _ _) | ((with_reducible refine Chg.setNew ?_ _ ?_); rotate_left; first | (dsimp only; omega) | (simp; done) | (simp; omega)) | (with_reducible refine Chg.alloc ?_ _) | (with_reducible refine Chg.drew ?_) | (with_reducible refine Chg.drewN ?_ _) | (with_reducible refine Chg.no ?_ (by assumption)) | (with_reducible refine Chg.and_ ?_ (by assumption)) | ((with_reducible refine Chg.at_ ?_ (by assumption) ?_); rotate_left; (try simp only [World.size_alloc]); omega)))⟩
        · have HF := hid (HFA.out false (by unfold inB; simp; omega))
          have a3' : tags < 0 := by omega
          clear HFA a3
          go_enter Try.func114, Try.ntmps114
          go_wp2_with (go_at_call 57; (with_reducible refine (K2.out _ (HX.out.no (by (repeat (first | (with_reducible exact Chg.refl _ _) | ((with_reducible refine Chg.setNew ?_ _ ?_); rotate_left; first | (dsimp only; omega) | (simp; done) | (simp; omega)) | (with_reducible refine Chg.alloc ?_ _) | (with_reducible refine Chg.drew ?_) | (with_reducible refine Chg.drewN ?_ _) | (with_reducible refine Chg.no ?_ (by assumption)) | (with_reducible refine Chg.and_ ?_ (by assumption)) | ((with_reducible refine Chg.at_ ?_ (by assumption) ?_); rotate_left; (try simp only [World.size_alloc]); omega)))))).mono ?_); rintro e w1 ⟨rfl, rfl⟩)
          go_ret
          exact ⟨by rw [HF.out]; rfl, by (repeat (first | (with_reducible exact Chg.refl _ _) | ((with_reducible refine Chg.setNew ?_ _ ?_); rotate_left; first | (dsimp only; omega) | (simp; done) | (simp; omega)) | (with_reducible refine Chg.alloc ?_ _) | (with_reducible refine Chg.drew ?_) | (with_reducible refine Chg.drewN ?_ _) | (with_reducible refine Chg.no ?_ (by assumption)) | (with_reducible refine Chg.and_ ?_ (by assumption)) | ((with_reducible refine Chg.at_ ?_ (by assumption) ?_); rotate_left; (try simp only [World.size_alloc]); omega)))⟩
    · have HF := hid (HFA.out false (by unfold inB; simp; omega))
      have a2' : 99 < key := by omega
      clear HFA a2
      go_enter Try.func114, Try.ntmps114
      go_wp2_with (go_at_call 57; (with_reducible refine (K2.out _ (HX.out.no (by (repeat (first | (with_reducible exact Chg.refl _ _) | ((with_reducible refine Chg.setNew ?_ _ ?_); rotate_left; first | (dsimp only; omega) | (simp; done) | (simp; omega)) | (with_reducible refine Chg.alloc ?_ _) | (with_reducible refine Chg.drew ?_) | (with_reducible refine Chg.drewN ?_ _) | (with_reducible refine Chg.no ?_ (by assumption)) | (with_reducible refine Chg.and_ ?_ (by assumption)) | ((with_reducible refine Chg.at_ ?_ (by assumption) ?_); rotate_left; (try simp only [World.size_alloc]); omega)))))).mono ?_); rintro e w1 ⟨rfl, rfl⟩)
      go_ret
      exact ⟨by rw [HF.out]; rfl, by (repeat (first | (with_reducible exact Chg.refl _ _) | ((with_reducible refine Chg.setNew ?_ _ ?_); rotate_left; first | (dsimp only; omega) | (simp; done) | (simp; omega)) | (with_reducible refine Chg.alloc ?_ _) | (with_reducible refine Chg.drew ?_) | (with_reducible refine Chg.drewN ?_ _) | (with_reducible refine Chg.no ?_ (by assumption)) | (with_reducible refine Chg.and_ ?_ (by assumption)) | ((with_reducible refine Chg.at_ ?_ (by assumption) ?_); rotate_left; (try simp only [World.size_alloc]); omega)))⟩
  · have HF := hid (HFA.out false (by unfold inB; simp; omega))
    have a1' : key < 1 := by omega
    clear HFA a1
    go_enter Try.func114, Try.ntmps114
    go_wp2_with (go_at_call 57; (with_reducible refine (K2.out _ (HX.out.no (by (repeat (first | (with_reducible exact Chg.refl _ _) | ((with_reducible refine Chg.setNew ?_ _ ?_); rotate_left; first | (dsimp only; omega) | (simp; done) | (simp; omega)) | (with_reducible refine Chg.alloc ?_ _) | (with_reducible refine Chg.drew ?_) | (with_reducible refine Chg.drewN ?_ _) | (with_reducible refine Chg.no ?_ (by assumption)) | (with_reducible refine Chg.and_ ?_ (by assumption)) | ((with_reducible refine Chg.at_ ?_ (by assumption) ?_); rotate_left; (try simp only [World.size_alloc]); omega)))))).mono ?_); rintro e w1 ⟨rfl, rfl⟩)
    go_ret
    exact ⟨by rw [HF.out]; rfl, by (repeat (first | (with_reducible exact Chg.refl _ _) | ((with_reducible refine Chg.setNew ?_ _ ?_); rotate_left; first | (dsimp only; omega) | (simp; done) | (simp; omega)) | (with_reducible refine Chg.alloc ?_ _) | (with_reducible refine Chg.drew ?_) | (with_reducible refine Chg.drewN ?_ _) | (with_reducible refine Chg.no ?_ (by assumption)) | (with_reducible refine Chg.and_ ?_ (by assumption)) | ((with_reducible refine Chg.at_ ?_ (by assumption) ?_); rotate_left; (try simp only [World.size_alloc]); omega)))⟩
set_option maxHeartbeats 2000000 in
theorem iValidStore (l0 h0 : Nat) (A : Option Addr) (n c : Nat) (xs : List It) (w : World) (hx : RItems w l0 h0 A n c xs) :
    Calls Try.prog 87 #[.slice A n c] w fun e w' => e = .returned (.bool (storeB xs)) ∧ Chg No w w' := by
  have hnc := hx.le; have hcm := hx.cap
  have HX := hid hx
  clear hx
  by_cases h16 : 16 < n
  · have HF := hid (storeB_long (l := xs) (by rw [HX.out.len]; exact h16))
    have h16' : (16 : Int) < n := by omega
    clear h16
    go_enter Try.func87, Try.ntmps87
    go_wp2
    go_ret
    exact ⟨by rw [HF.out]; rfl, by (repeat (first | (with_reducible exact Chg.refl _ _) | ((with_reducible refine Chg.setNew ?_ _ ?_); rotate_left; first | (dsimp only; omega) | (simp; done) | (simp; omega)) | (with_reducible refine Chg.alloc ?_ _) | (with_reducible refine Chg.drew ?_) | (with_reducible refine Chg.drewN ?_ _) | (with_reducible refine Chg.no ?_ (by assumption)) | (with_reducible refine Chg.and_ ?_ (by assumption)) | ((with_reducible refine Chg.at_ ?_ (by assumption) ?_); rotate_left; (try simp only [World.size_alloc]); omega)))⟩
  · have h16' : (n : Int) ≤ 16 := by omega
    go_enter Try.func87, Try.ntmps87
    go_wp2
    go_loopw [10] (fun i wr => ∃ k : Nat, k ≤ n ∧ i = .int .i64 k ∧ Chg No w wr ∧ Hid (upTo (storeOkAt xs) k = true)) (fun i _ => n - (intOf i).toNat)
    case atStart => exact ⟨0, Nat.zero_le _, rfl, Chg.refl _ _, rfl⟩
    case round =>
      obtain ⟨k, hk, rfl, hc, HU⟩ := hrel
      obtain ⟨wo, rfl⟩ : ∃ W : World, W = wr := ⟨_, rfl⟩
      by_cases hlt : k < n
      · obtain ⟨b, o, x, rfl, _, _, hxk, hE⟩ := (HX.out.no hc).at_ hlt
        obtain ⟨xk, xv, xt⟩ := x
        obtain ⟨hE1, ⟨A1, n1, c1, hE2, hv⟩, hE3⟩ := hE
        have hE1 : wo.cell? ⟨b, o + k * 3, none⟩ = some (.int .i64 xk) := hE1
        have hE3 : wo.cell? ⟨b, o + k * 3 + 2, none⟩ = some (.int .i64 xt) := hE3
        have HV := hid hv
        have hlen : k < xs.length := by have := HX.out.len; omega
        have Hxk := hid hxk
        have Hlen := hid hlen
        have B1 := hid (Box.new (w := wo) [.int .i64 xk, .slice A1 n1 c1, .int .i64 xt] 36 rfl)
        have hcA : Chg No wo (wo.alloc (.cells #[.int .i64 xk, .slice A1 n1 c1, .int .i64 xt] 36)) := (Chg.refl No _).alloc _
        have f1 : ∀ p : NB (wo.alloc (.cells #[.int .i64 xk, .slice A1 n1 c1, .int .i64 xt] 36)), p.wd.cell? ⟨wo.heap.size, 0, none⟩ = some (.int .i64 xk) := nb_cell (B1.out.cell 0)
        have f2 : ∀ p : NB (wo.alloc (.cells #[.int .i64 xk, .slice A1 n1 c1, .int .i64 xt] 36)), p.wd.cell? ⟨wo.heap.size, 1, none⟩ = some (.slice A1 n1 c1) := nb_cell (B1.out.cell 1)
        have f3 : ∀ p : NB (wo.alloc (.cells #[.int .i64 xk, .slice A1 n1 c1, .int .i64 xt] 36)), p.wd.cell? ⟨wo.heap.size, 2, none⟩ = some (.int .i64 xt) := nb_cell (B1.out.cell 2)
        clear hxk hlen hv
        cases g1 : itemB ⟨xk, xv, xt⟩ with
        | false =>
          have HF := hid (show storeB xs = false from storeB_false_of Hlen.out (by unfold storeOkAt; rw [show xs.getD k default = ⟨xk, xv, xt⟩ from by simp [List.getD_eq_getElem?_getD, Hxk.out], g1]; rfl))
          go_wp2_with fail
          (refine wp_region_nb (by kernel_rfl) (by kernel_rfl) ?_; (repeat (first | go_big_quiet_step ((go_at_call 114; exact nb_ofE (iIsItem _ _ _ _ _ _ _ xv _ ((HV.out.no hcA).no (NB.h _))) (congrArg Value.bool g1))) | quiet_step ((go_at_call 114; exact nb_ofE (iIsItem _ _ _ _ _ _ _ xv _ ((HV.out.no hcA).no (NB.h _))) (congrArg Value.bool g1))))); (with_reducible refine wpQuiet_nil ?_); intro wq hw1; have hq := nb_out hw1; clear hw1)
          go_wp2
          go_ret
          exact ⟨by rw [HF.out]; rfl, by (repeat (first | (with_reducible exact Chg.refl _ _) | ((with_reducible refine Chg.setNew ?_ _ ?_); rotate_left; first | (dsimp only; omega) | (simp; done) | (simp; omega)) | (with_reducible refine Chg.alloc ?_ _) | (with_reducible refine Chg.drew ?_) | (with_reducible refine Chg.drewN ?_ _) | (with_reducible refine Chg.no ?_ (by assumption)) | (with_reducible refine Chg.and_ ?_ (by assumption)) | ((with_reducible refine Chg.at_ ?_ (by assumption) ?_); rotate_left; (try simp only [World.size_alloc]); omega)))⟩
        | true =>
          by_cases h0 : k = 0
          · have h0' : decide (0 < k) = false := by simp; omega
            have HU2 := hid (show upTo (storeOkAt xs) (k + 1) = true from by rw [upTo_snoc, HU.out, storeOkAt_eq Hxk.out default (fun h => absurd h (by omega)), g1, h0]; rfl)
            clear h0
            go_wp2_with fail
            (refine wp_region_nb (by kernel_rfl) (by kernel_rfl) ?_; (repeat (first | go_big_quiet_step ((go_at_call 114; exact nb_ofE (iIsItem _ _ _ _ _ _ _ xv _ ((HV.out.no hcA).no (NB.h _))) (congrArg Value.bool g1))) | quiet_step ((go_at_call 114; exact nb_ofE (iIsItem _ _ _ _ _ _ _ xv _ ((HV.out.no hcA).no (NB.h _))) (congrArg Value.bool g1))))); (with_reducible refine wpQuiet_nil ?_); intro wq hw1; have hq := nb_out hw1; clear hw1)
            go_wp2
            go_roundw
            case rel => exact ⟨k + 1, by omega, by go_num, by (repeat (first | (with_reducible exact Chg.refl _ _) | ((with_reducible refine Chg.setNew ?_ _ ?_); rotate_left; first | (dsimp only; omega) | (simp; done) | (simp; omega)) | (with_reducible refine Chg.alloc ?_ _) | (with_reducible refine Chg.drew ?_) | (with_reducible refine Chg.drewN ?_ _) | (with_reducible refine Chg.no ?_ (by assumption)) | (with_reducible refine Chg.and_ ?_ (by assumption)) | ((with_reducible refine Chg.at_ ?_ (by assumption) ?_); rotate_left; (try simp only [World.size_alloc]); omega))), HU2⟩
            case measure => simp [intOf]; omega
          · have h0' : decide (0 < k) = true := by simp; omega
            obtain ⟨b', o', y, hA', _, _, hyk, hE⟩ := (HX.out.no hc).at_ (k := k - 1) (by omega)
            obtain ⟨rfl, rfl⟩ : b = b' ∧ o = o' := by injection hA' with hA'; injection hA' with h1 h2; exact ⟨h1, h2⟩
            obtain ⟨yk, yv, yt⟩ := y
            have hP1 : ∀ p : NB (wo.alloc (.cells #[.int .i64 xk, .slice A1 n1 c1, .int .i64 xt] 36)), p.wd.cell? ⟨b, o + (k - 1) * 3, none⟩ = some (.int .i64 yk) := nb_cell (cell_keep hcA hE.1 (fun e => e))
            have Hyk := hid hyk
            have hk1 : k - 1 < n := by omega
            have i1 : (1 : Int) ≤ k := by omega
            have i2 : ((k : Int) - 1).toNat = k - 1 := by omega
            have i3 : (k : Int) - 1 < n := by omega
            clear hyk hE hA'
            by_cases g2 : yk < xk
            · have HU2 := hid (show upTo (storeOkAt xs) (k + 1) = true from by rw [upTo_snoc, HU.out, storeOkAt_eq Hxk.out _ (fun _ => Hyk.out), g1]; simp [g2])
              clear h0
              go_wp2_with fail
              (refine wp_region_nb (by kernel_rfl) (by kernel_rfl) ?_; (repeat (first | go_big_quiet_step ((go_at_call 114; exact nb_ofE (iIsItem _ _ _ _ _ _ _ xv _ ((HV.out.no hcA).no (NB.h _))) (congrArg Value.bool g1))) | quiet_step ((go_at_call 114; exact nb_ofE (iIsItem _ _ _ _ _ _ _ xv _ ((HV.out.no hcA).no (NB.h _))) (congrArg Value.bool g1))))); (with_reducible refine wpQuiet_nil ?_); intro wq hw1; have hq := nb_out hw1; clear hw1)
              go_wp2
              go_roundw
              case rel => exact ⟨k + 1, by omega, by go_num, by (repeat (first | (with_reducible exact Chg.refl _ _) | ((with_reducible refine Chg.setNew ?_ _ ?_); rotate_left; first | (dsimp only; omega) | (simp; done) | (simp; omega)) | (with_reducible refine Chg.alloc ?_ _) | (with_reducible refine Chg.drew ?_) | (with_reducible refine Chg.drewN ?_ _) | (with_reducible refine Chg.no ?_ (by assumption)) | (with_reducible refine Chg.and_ ?_ (by assumption)) | ((with_reducible refine Chg.at_ ?_ (by assumption) ?_); rotate_left; (try simp only [World.size_alloc]); omega))), HU2⟩
              case measure => simp [intOf]; omega
            · have g2' : xk ≤ yk := by omega
              have HF := hid (show storeB xs = false from storeB_false_of Hlen.out (by rw [storeOkAt_eq Hxk.out _ (fun _ => Hyk.out), g1]; simp [g2, h0]))
              clear h0 g2
              go_wp2_with fail
              (refine wp_region_nb (by kernel_rfl) (by kernel_rfl) ?_; (repeat (first | go_big_quiet_step ((go_at_call 114; exact nb_ofE (iIsItem _ _ _ _ _ _ _ xv _ ((HV.out.no hcA).no (NB.h _))) (congrArg Value.bool g1))) | quiet_step ((go_at_call 114; exact nb_ofE (iIsItem _ _ _ _ _ _ _ xv _ ((HV.out.no hcA).no (NB.h _))) (congrArg Value.bool g1))))); (with_reducible refine wpQuiet_nil ?_); intro wq hw1; have hq := nb_out hw1; clear hw1)
              go_wp2
              go_ret
              exact ⟨by rw [HF.out]; rfl, by (repeat (first | (with_reducible exact Chg.refl _ _) | ((with_reducible refine Chg.setNew ?_ _ ?_); rotate_left; first | (dsimp only; omega) | (simp; done) | (simp; omega)) | (with_reducible refine Chg.alloc ?_ _) | (with_reducible refine Chg.drew ?_) | (with_reducible refine Chg.drewN ?_ _) | (with_reducible refine Chg.no ?_ (by assumption)) | (with_reducible refine Chg.and_ ?_ (by assumption)) | ((with_reducible refine Chg.at_ ?_ (by assumption) ?_); rotate_left; (try simp only [World.size_alloc]); omega)))⟩
      · have hkn : k = n := by omega
        have hU := HU.out
        rw [hkn, ← HX.out.len] at hU
        have HF := hid (show storeB xs = true from by rw [storeB_of_up hU, HX.out.len]; exact decide_eq_true (by omega))
        clear HU hU
        go_wp2
        go_ret
        exact ⟨by rw [HF.out]; rfl, by (repeat (first | (with_reducible exact Chg.refl _ _) | ((with_reducible refine Chg.setNew ?_ _ ?_); rotate_left; first | (dsimp only; omega) | (simp; done) | (simp; omega)) | (with_reducible refine Chg.alloc ?_ _) | (with_reducible refine Chg.drew ?_) | (with_reducible refine Chg.drewN ?_ _) | (with_reducible refine Chg.no ?_ (by assumption)) | (with_reducible refine Chg.and_ ?_ (by assumption)) | ((with_reducible refine Chg.at_ ?_ (by assumption) ?_); rotate_left; (try simp only [World.size_alloc]); omega)))⟩
end Go.Proofs.Ytifdcdpdihfbjaa
