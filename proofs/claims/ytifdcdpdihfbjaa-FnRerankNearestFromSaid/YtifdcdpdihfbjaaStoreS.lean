/- Stores: the reference's functions: copies, valid items and stores, PutItem. -/
import Derived.Test.YtifdcdpdihfbjaaVec
import Derived.Test.YtifdcdpdihfbjaaQuiet
import Derived.Test.YtifdcdpdihfbjaaTypes
import Derived.Test.YtifdcdpdihfbjaaPStore
import Derived.Deep.RegionWith
namespace Go.Proofs.Ytifdcdpdihfbjaa
open Go.RowKit
set_option linter.unusedVariables false
set_option linter.unusedSimpArgs false
set_option maxHeartbeats 1000000 in
theorem sCopyInts (l0 h0 : Nat) (A : Option Addr) (n c : Nat) (xs : List Int) (w : World) (hx : RInts w l0 h0 A n c xs) (hn : n ≤ 1048576) :
    Calls Try.prog 111 #[.slice A n c] w (RetInts xs w) := by
  have hnc := hx.le; have hcm := hx.cap
  have HS := hid (src_ints (RInts.no hx ((Chg.refl No w).alloc (.cells #[] 3))))
  have HO := hid (OSl.lit (T := 3) (enc := cInt) (w := w.alloc (.cells #[] 3)) (base := w.heap.size) (n := 0) [] [] (fun _ => rfl) rfl rfl (by omega) (Nat.le_refl _) (heap_top rfl))
  clear hx
  go_enter Try.func111, Try.ntmps111
  go_wp2_with (at_builtin; refine wpList_push _ rfl _ _ 27 rfl 3 1 8 (.int .i64 0) cInt Try.underlying27 infoInt rfl (by omega) (by omega) (fun _ => rfl) oneInt w.heap.size _ [] rfl HO.out A n c xs rfl HS.out (by simp; omega) (by simp) ?_; intro v' w' ho hg hb)
  go_ret
  have hc : Chg No w w' := ((Chg.refl No w).alloc _).pushed hg HO.out (Nat.le_refl _)
  exact ⟨_, rfl, ho, hc⟩
/-- an item with memory of its own comes back -/
def RetItem (x : It) (w : World) (e : Ending) (w' : World) : Prop := ∃ A n c, e = .returned (.agg #[.int .i64 x.key, .slice A n c, .int .i64 x.tags]) ∧ TInts w' w.heap.size w'.heap.size A n c x.vec ∧ Chg No w w'
set_option maxHeartbeats 1000000 in
theorem sCopyItem (l0 h0 : Nat) (A : Option Addr) (n c : Nat) (key tags : Int) (xs : List Int) (w : World) (hx : RInts w l0 h0 A n c xs) (hn : n ≤ 1048576) :
    Calls Try.prog 131 #[.agg #[.int .i64 key, .slice A n c, .int .i64 tags]] w (RetItem ⟨key, xs, tags⟩ w) := by
  have HX := hid hx
  clear hx
  go_enter Try.func131, Try.ntmps131
  go_wp2_with fail
  have BX := hid ((Box.new (w := w) [.int .i64 key, .slice A n c, .int .i64 tags] 36 rfl).alloc (.cells #[.int .i64 0, .slice none 0 0, .int .i64 0] 36))
  have BY := hid (Box.new (w := w.alloc (.cells #[.int .i64 key, .slice A n c, .int .i64 tags] 36)) (g := w.heap.size + 1) [.int .i64 0, .slice none 0 0, .int .i64 0] 36 (by simp))
  first | (go_region_with (go_at_call 111; (with_reducible refine (sCopyInts l0 h0 A n c xs _ (HX.out.no (by (repeat (first | (with_reducible exact Chg.refl _ _) | ((with_reducible refine Chg.setNew ?_ _ ?_); rotate_left; first | (dsimp only; omega) | (simp; done) | (simp; omega)) | (with_reducible refine Chg.alloc ?_ _) | (with_reducible refine Chg.drew ?_) | (with_reducible refine Chg.drewN ?_ _) | (with_reducible refine Chg.no ?_ (by assumption)) | (with_reducible refine Chg.and_ ?_ (by assumption)) | ((with_reducible refine Chg.at_ ?_ (by assumption) ?_); rotate_left; (try simp only [World.size_alloc]); omega))))) hn).mono ?_); rintro e w3 ⟨v, rfl, ho, hc3⟩; obtain ⟨A', c', rfl, ht⟩ := ho.typed; have q1 := (BX.out.no (Chg.no (by (repeat (first | (with_reducible exact Chg.refl _ _) | ((with_reducible refine Chg.setNew ?_ _ ?_); rotate_left; first | (dsimp only; omega) | (simp; done) | (simp; omega)) | (with_reducible refine Chg.alloc ?_ _) | (with_reducible refine Chg.drew ?_) | (with_reducible refine Chg.drewN ?_ _) | (with_reducible refine Chg.no ?_ (by assumption)) | (with_reducible refine Chg.and_ ?_ (by assumption)) | ((with_reducible refine Chg.at_ ?_ (by assumption) ?_); rotate_left; (try simp only [World.size_alloc]); omega)))) hc3)).f3; have q2 := (BY.out.no (Chg.no (by (repeat (first | (with_reducible exact Chg.refl _ _) | ((with_reducible refine Chg.setNew ?_ _ ?_); rotate_left; first | (dsimp only; omega) | (simp; done) | (simp; omega)) | (with_reducible refine Chg.alloc ?_ _) | (with_reducible refine Chg.drew ?_) | (with_reducible refine Chg.drewN ?_ _) | (with_reducible refine Chg.no ?_ (by assumption)) | (with_reducible refine Chg.and_ ?_ (by assumption)) | ((with_reducible refine Chg.at_ ?_ (by assumption) ?_); rotate_left; (try simp only [World.size_alloc]); omega)))) hc3)).f3; have q3 := (BX.out.no (Chg.no (by (repeat (first | (with_reducible exact Chg.refl _ _) | ((with_reducible refine Chg.setNew ?_ _ ?_); rotate_left; first | (dsimp only; omega) | (simp; done) | (simp; omega)) | (with_reducible refine Chg.alloc ?_ _) | (with_reducible refine Chg.drew ?_) | (with_reducible refine Chg.drewN ?_ _) | (with_reducible refine Chg.no ?_ (by assumption)) | (with_reducible refine Chg.and_ ?_ (by assumption)) | ((with_reducible refine Chg.at_ ?_ (by assumption) ?_); rotate_left; (try simp only [World.size_alloc]); omega)))) hc3)).lt; have q4 := (BY.out.no (Chg.no (by (repeat (first | (with_reducible exact Chg.refl _ _) | ((with_reducible refine Chg.setNew ?_ _ ?_); rotate_left; first | (dsimp only; omega) | (simp; done) | (simp; omega)) | (with_reducible refine Chg.alloc ?_ _) | (with_reducible refine Chg.drew ?_) | (with_reducible refine Chg.drewN ?_ _) | (with_reducible refine Chg.no ?_ (by assumption)) | (with_reducible refine Chg.and_ ?_ (by assumption)) | ((with_reducible refine Chg.at_ ?_ (by assumption) ?_); rotate_left; (try simp only [World.size_alloc]); omega)))) hc3)).lt)) | fail
  all_goals go_wp2
  all_goals (refine bodyPost_ret (by simp [results, Try.results131, go_sem, *]; rfl) rfl ?_)
  all_goals (refine ⟨A', _, c', rfl, ?_, by (repeat (first | (with_reducible exact Chg.refl _ _) | ((with_reducible refine Chg.setNew ?_ _ ?_); rotate_left; first | (dsimp only; omega) | (simp; done) | (simp; omega)) | (with_reducible refine Chg.alloc ?_ _) | (with_reducible refine Chg.drew ?_) | (with_reducible refine Chg.drewN ?_ _) | (with_reducible refine Chg.no ?_ (by assumption)) | (with_reducible refine Chg.and_ ?_ (by assumption)) | ((with_reducible refine Chg.at_ ?_ (by assumption) ?_); rotate_left; (try simp only [World.size_alloc]); omega)))⟩; refine TInts.wide (ht.keep (S := fun k => k = w.heap.size + 1) (by (repeat (first | (with_reducible exact Chg.refl _ _) | (with_reducible refine Chg.drew ?_) | ((with_reducible refine Chg.setCell ?_ _ ?_); rotate_left; (intro _; rfl))))) (fun k h1 _ h3 => by simp at h1; omega)) (by simp; omega) (by simp))
set_option maxHeartbeats 1000000 in
theorem sValidItem (l0 h0 : Nat) (A : Option Addr) (n c : Nat) (key tags : Int) (xs : List Int) (w : World) (hx : RInts w l0 h0 A n c xs) :
    Calls Try.prog 117 #[.agg #[.int .i64 key, .slice A n c, .int .i64 tags]] w fun e w' => e = .returned (.bool (itemB ⟨key, xs, tags⟩)) ∧ Chg No w w' := by
  have HX := hid (RInts.no hx ((Chg.refl No w).alloc (.cells #[.int .i64 key, .slice A n c, .int .i64 tags] 36)))
  have HF : Hid (itemB ⟨key, xs, tags⟩ = (inB key 1 99 && (vecB xs && inB tags 0 15))) := rfl
  obtain ⟨b1, h1⟩ : ∃ b, inB key 1 99 = b := ⟨_, rfl⟩
  obtain ⟨b2, h2⟩ : ∃ b, vecB xs = b := ⟨_, rfl⟩
  obtain ⟨b3, h3⟩ : ∃ b, inB tags 0 15 = b := ⟨_, rfl⟩
  have K1 := hid (fun W => inRange key 1 99 W)
  have K2 := hid (fun W (h : RInts W l0 h0 A n c xs) => sIsVector l0 h0 A n c xs W h)
  have K3 := hid (fun W => inRange tags 0 15 W)
  rw [h1] at K1
  rw [h2] at K2
  rw [h3] at K3
  rw [h1, h2, h3] at HF
  clear hx h1 h2 h3
  cases b1 with
  | false =>
    go_enter Try.func117, Try.ntmps117
    (go_wp2_with fail; (with_reducible refine (K1.out _).mono ?_); rintro e w1 ⟨rfl, rfl⟩)
    go_wp2
    go_ret
    exact ⟨by rw [HF.out]; rfl, by (repeat (first | (with_reducible exact Chg.refl _ _) | ((with_reducible refine Chg.setNew ?_ _ ?_); rotate_left; first | (dsimp only; omega) | (simp; done) | (simp; omega)) | (with_reducible refine Chg.alloc ?_ _) | (with_reducible refine Chg.drew ?_) | (with_reducible refine Chg.drewN ?_ _) | (with_reducible refine Chg.no ?_ (by assumption)) | (with_reducible refine Chg.and_ ?_ (by assumption)) | ((with_reducible refine Chg.at_ ?_ (by assumption) ?_); rotate_left; (try simp only [World.size_alloc]); omega)))⟩
  | true =>
    cases b2 with
    | false =>
      go_enter Try.func117, Try.ntmps117
      (go_wp2_with fail; (with_reducible refine (K1.out _).mono ?_); rintro e w1 ⟨rfl, rfl⟩)
      (go_wp2_with fail; (with_reducible refine (K2.out _ HX.out).mono ?_); rintro e w1 ⟨rfl, rfl⟩)
      go_wp2
      go_ret
      exact ⟨by rw [HF.out]; rfl, by (repeat (first | (with_reducible exact Chg.refl _ _) | ((with_reducible refine Chg.setNew ?_ _ ?_); rotate_left; first | (dsimp only; omega) | (simp; done) | (simp; omega)) | (with_reducible refine Chg.alloc ?_ _) | (with_reducible refine Chg.drew ?_) | (with_reducible refine Chg.drewN ?_ _) | (with_reducible refine Chg.no ?_ (by assumption)) | (with_reducible refine Chg.and_ ?_ (by assumption)) | ((with_reducible refine Chg.at_ ?_ (by assumption) ?_); rotate_left; (try simp only [World.size_alloc]); omega)))⟩
    | true =>
      go_enter Try.func117, Try.ntmps117
      (go_wp2_with fail; (with_reducible refine (K1.out _).mono ?_); rintro e w1 ⟨rfl, rfl⟩)
      (go_wp2_with fail; (with_reducible refine (K2.out _ HX.out).mono ?_); rintro e w1 ⟨rfl, rfl⟩)
      (go_wp2_with fail; (with_reducible refine (K3.out _).mono ?_); rintro e w1 ⟨rfl, rfl⟩)
      go_wp2
      go_ret
      exact ⟨by rw [HF.out]; rfl, by (repeat (first | (with_reducible exact Chg.refl _ _) | ((with_reducible refine Chg.setNew ?_ _ ?_); rotate_left; first | (dsimp only; omega) | (simp; done) | (simp; omega)) | (with_reducible refine Chg.alloc ?_ _) | (with_reducible refine Chg.drew ?_) | (with_reducible refine Chg.drewN ?_ _) | (with_reducible refine Chg.no ?_ (by assumption)) | (with_reducible refine Chg.and_ ?_ (by assumption)) | ((with_reducible refine Chg.at_ ?_ (by assumption) ?_); rotate_left; (try simp only [World.size_alloc]); omega)))⟩
set_option maxHeartbeats 2000000 in
theorem sValidStore (l0 h0 : Nat) (A : Option Addr) (n c : Nat) (xs : List It) (w : World) (hx : RItems w l0 h0 A n c xs) :
    Calls Try.prog 90 #[.slice A n c] w fun e w' => e = .returned (.bool (storeB xs)) ∧ Chg No w w' := by
  have hnc := hx.le; have hcm := hx.cap
  have HX := hid hx
  clear hx
  go_enter Try.func90, Try.ntmps90
  go_wp2
  go_loopw [3] (fun i wr => ∃ k : Nat, k ≤ n ∧ i = .int .i64 k ∧ Chg No w wr ∧ Hid (upTo (storeOkAt xs) k = true)) (fun i _ => n - (intOf i).toNat)
  case atStart => exact ⟨0, Nat.zero_le _, rfl, Chg.refl _ _, rfl⟩
  case round =>
    obtain ⟨k, hk, rfl, hc, HU⟩ := hrel
    obtain ⟨wo, rfl⟩ : ∃ W : World, W = wr := ⟨_, rfl⟩
    by_cases hlt : k < n
    · obtain ⟨b, o, x, rfl, _, _, hxk, hE⟩ := (HX.out.no hc).at_ hlt
      obtain ⟨xk, xv, xt⟩ := x
      obtain ⟨hE1, ⟨A1, n1, c1, hE2, hv⟩, hE3⟩ := hE
      have f1 : ∀ p : NB wo, p.wd.cell? ⟨b, o + k * 3, none⟩ = some (.int .i64 xk) := nb_cell hE1
      have f2 : ∀ p : NB wo, p.wd.cell? ⟨b, o + k * 3 + 1, none⟩ = some (.slice A1 n1 c1) := nb_cell hE2
      have f3 : ∀ p : NB wo, p.wd.cell? ⟨b, o + k * 3 + 2, none⟩ = some (.int .i64 xt) := nb_cell hE3
      have HV := hid hv
      have hlen : k < xs.length := by have := HX.out.len; omega
      have Hxk := hid hxk
      have Hlen := hid hlen
      clear hxk hE1 hE2 hE3 hlen hv
      cases g1 : itemB ⟨xk, xv, xt⟩ with
      | false =>
        have HF := hid (show storeB xs = false from storeB_false_of Hlen.out (by unfold storeOkAt; rw [show xs.getD k default = ⟨xk, xv, xt⟩ from by simp [List.getD_eq_getElem?_getD, Hxk.out], g1]; rfl))
        go_wp2_with fail
        (refine wp_region_nb (by kernel_rfl) (by kernel_rfl) ?_; (repeat (first | go_big_quiet_step ((go_at_call 117; exact nb_ofE (sValidItem _ _ _ _ _ _ _ xv _ (HV.out.no (NB.h _))) (congrArg Value.bool g1))) | quiet_step ((go_at_call 117; exact nb_ofE (sValidItem _ _ _ _ _ _ _ xv _ (HV.out.no (NB.h _))) (congrArg Value.bool g1))))); (with_reducible refine wpQuiet_nil ?_); intro wq hw1; have hq := nb_out hw1; clear hw1)
        go_wp2
        go_ret
        exact ⟨by rw [HF.out]; rfl, by (repeat (first | (with_reducible exact Chg.refl _ _) | ((with_reducible refine Chg.setNew ?_ _ ?_); rotate_left; first | (dsimp only; omega) | (simp; done) | (simp; omega)) | (with_reducible refine Chg.alloc ?_ _) | (with_reducible refine Chg.drew ?_) | (with_reducible refine Chg.drewN ?_ _) | (with_reducible refine Chg.no ?_ (by assumption)) | (with_reducible refine Chg.and_ ?_ (by assumption)) | ((with_reducible refine Chg.at_ ?_ (by assumption) ?_); rotate_left; (try simp only [World.size_alloc]); omega)))⟩
      | true =>
        by_cases h0 : k = 0
        · have h0' : decide (0 < k) = false := by simp; omega
          have HU2 := hid (show upTo (storeOkAt xs) (k + 1) = true from by rw [upTo_snoc, HU.out, storeOkAt_eq Hxk.out default (fun h => absurd h (by omega)), g1, h0]; rfl)
          clear h0
          go_wp2_with fail
          (refine wp_region_nb (by kernel_rfl) (by kernel_rfl) ?_; (repeat (first | go_big_quiet_step ((go_at_call 117; exact nb_ofE (sValidItem _ _ _ _ _ _ _ xv _ (HV.out.no (NB.h _))) (congrArg Value.bool g1))) | quiet_step ((go_at_call 117; exact nb_ofE (sValidItem _ _ _ _ _ _ _ xv _ (HV.out.no (NB.h _))) (congrArg Value.bool g1))))); (with_reducible refine wpQuiet_nil ?_); intro wq hw1; have hq := nb_out hw1; clear hw1)
          go_wp2
          go_roundw
          case rel => exact ⟨k + 1, by omega, by go_num, by (repeat (first | (with_reducible exact Chg.refl _ _) | ((with_reducible refine Chg.setNew ?_ _ ?_); rotate_left; first | (dsimp only; omega) | (simp; done) | (simp; omega)) | (with_reducible refine Chg.alloc ?_ _) | (with_reducible refine Chg.drew ?_) | (with_reducible refine Chg.drewN ?_ _) | (with_reducible refine Chg.no ?_ (by assumption)) | (with_reducible refine Chg.and_ ?_ (by assumption)) | ((with_reducible refine Chg.at_ ?_ (by assumption) ?_); rotate_left; (try simp only [World.size_alloc]); omega))), HU2⟩
          case measure => simp [intOf]; omega
        · have h0' : decide (0 < k) = true := by simp; omega
          obtain ⟨b', o', y, hA', _, _, hyk, hE⟩ := (HX.out.no hc).at_ (k := k - 1) (by omega)
          obtain ⟨rfl, rfl⟩ : b = b' ∧ o = o' := by injection hA' with hA'; injection hA' with h1 h2; exact ⟨h1, h2⟩
          obtain ⟨yk, yv, yt⟩ := y
          have hP1 : ∀ p : NB wo, p.wd.cell? ⟨b, o + (k - 1) * 3, none⟩ = some (.int .i64 yk) := nb_cell hE.1
          have Hyk := hid hyk
          have hk1 : k - 1 < n := by omega
          have i1 : (1 : Int) ≤ k := by omega
          have i2 : ((k : Int) - 1).toNat = k - 1 := by omega
          have i3 : (k : Int) - 1 < n := by omega
          clear hyk hE hA'
          by_cases g2 : yk < xk
          · have HU2 := hid (show upTo (storeOkAt xs) (k + 1) = true from by rw [upTo_snoc, HU.out, storeOkAt_eq Hxk.out _ (fun _ => Hyk.out), g1]; simp [g2])
            clear h0
            go_wp2_with fail
            (refine wp_region_nb (by kernel_rfl) (by kernel_rfl) ?_; (repeat (first | go_big_quiet_step ((go_at_call 117; exact nb_ofE (sValidItem _ _ _ _ _ _ _ xv _ (HV.out.no (NB.h _))) (congrArg Value.bool g1))) | quiet_step ((go_at_call 117; exact nb_ofE (sValidItem _ _ _ _ _ _ _ xv _ (HV.out.no (NB.h _))) (congrArg Value.bool g1))))); (with_reducible refine wpQuiet_nil ?_); intro wq hw1; have hq := nb_out hw1; clear hw1)
            go_wp2
            go_roundw
            case rel => exact ⟨k + 1, by omega, by go_num, by (repeat (first | (with_reducible exact Chg.refl _ _) | ((with_reducible refine Chg.setNew ?_ _ ?_); rotate_left; first | (dsimp only; omega) | (simp; done) | (simp; omega)) | (with_reducible refine Chg.alloc ?_ _) | (with_reducible refine Chg.drew ?_) | (with_reducible refine Chg.drewN ?_ _) | (with_reducible refine Chg.no ?_ (by assumption)) | (with_reducible refine Chg.and_ ?_ (by assumption)) | ((with_reducible refine Chg.at_ ?_ (by assumption) ?_); rotate_left; (try simp only [World.size_alloc]); omega))), HU2⟩
            case measure => simp [intOf]; omega
          · have g2' : xk ≤ yk := by omega
            have HF := hid (show storeB xs = false from storeB_false_of Hlen.out (by rw [storeOkAt_eq Hxk.out _ (fun _ => Hyk.out), g1]; simp [g2, h0]))
            clear h0 g2
            go_wp2_with fail
            (refine wp_region_nb (by kernel_rfl) (by kernel_rfl) ?_; (repeat (first | go_big_quiet_step ((go_at_call 117; exact nb_ofE (sValidItem _ _ _ _ _ _ _ xv _ (HV.out.no (NB.h _))) (congrArg Value.bool g1))) | quiet_step ((go_at_call 117; exact nb_ofE (sValidItem _ _ _ _ _ _ _ xv _ (HV.out.no (NB.h _))) (congrArg Value.bool g1))))); (with_reducible refine wpQuiet_nil ?_); intro wq hw1; have hq := nb_out hw1; clear hw1)
            go_wp2
            go_ret
            exact ⟨by rw [HF.out]; rfl, by (repeat (first | (with_reducible exact Chg.refl _ _) | ((with_reducible refine Chg.setNew ?_ _ ?_); rotate_left; first | (dsimp only; omega) | (simp; done) | (simp; omega)) | (with_reducible refine Chg.alloc ?_ _) | (with_reducible refine Chg.drew ?_) | (with_reducible refine Chg.drewN ?_ _) | (with_reducible refine Chg.no ?_ (by assumption)) | (with_reducible refine Chg.and_ ?_ (by assumption)) | ((with_reducible refine Chg.at_ ?_ (by assumption) ?_); rotate_left; (try simp only [World.size_alloc]); omega)))⟩
    · have hkn : k = n := by omega
      have hU := HU.out
      rw [hkn, ← HX.out.len] at hU
      have HF := hid (show storeB xs = decide (n ≤ 16) from by rw [storeB_of_up hU, HX.out.len])
      clear HU hU
      subst hkn
      go_wp2
      go_ret
      exact ⟨by rw [HF.out]; exact ret_bool (decide_eq_decide.2 (by omega)), by (repeat (first | (with_reducible exact Chg.refl _ _) | ((with_reducible refine Chg.setNew ?_ _ ?_); rotate_left; first | (dsimp only; omega) | (simp; done) | (simp; omega)) | (with_reducible refine Chg.alloc ?_ _) | (with_reducible refine Chg.drew ?_) | (with_reducible refine Chg.drewN ?_ _) | (with_reducible refine Chg.no ?_ (by assumption)) | (with_reducible refine Chg.and_ ?_ (by assumption)) | ((with_reducible refine Chg.at_ ?_ (by assumption) ?_); rotate_left; (try simp only [World.size_alloc]); omega)))⟩
end Go.Proofs.Ytifdcdpdihfbjaa
