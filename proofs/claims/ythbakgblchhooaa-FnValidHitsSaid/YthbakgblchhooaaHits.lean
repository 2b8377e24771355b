/- Hits: the reference's and the program's functions on lists of hits. -/
import Derived.Test.YthbakgblchhooaaBase
import Derived.Test.YthbakgblchhooaaQuiet
import Derived.Test.YthbakgblchhooaaPHits2
namespace Go.Proofs.Ythbakgblchhooaa
open Go.RowKit
set_option linter.unusedVariables false
set_option linter.unusedSimpArgs false
theorem sNearer (a1 a2 b1 b2 : Int) (w : World) : Calls Try.prog 38 #[.agg #[.int .i64 a1, .int .i64 a2], .agg #[.int .i64 b1, .int .i64 b2]] w fun e w' => e = .returned (.bool (nearB (a1, a2) (b1, b2))) ∧ Chg No w w' := by
  go_enter Try.func38, Try.ntmps38
  go_wp2
  all_goals go_ret
  all_goals exact ⟨ret_bool (by unfold nearB; simp_all <;> omega), by (repeat (first | (with_reducible exact Chg.refl _ _) | ((with_reducible refine Chg.setNew ?_ _ ?_); rotate_left; first | (dsimp only; omega) | (simp; done) | (simp; omega)) | (with_reducible refine Chg.alloc ?_ _) | (with_reducible refine Chg.drew ?_) | (with_reducible refine Chg.drewN ?_ _) | (with_reducible refine Chg.no ?_ (by assumption)) | (with_reducible refine Chg.and_ ?_ (by assumption)) | ((with_reducible refine Chg.at_ ?_ (by assumption) ?_); rotate_left; (try simp only [World.size_alloc]); omega)))⟩
set_option maxHeartbeats 2000000 in
theorem sValidHits (l0 h0 : Nat) (A : Option Addr) (n c : Nat) (xs : List (Int × Int)) (w : World) (hx : RHits w l0 h0 A n c xs) :
    Calls Try.prog 23 #[.slice A n c] w fun e w' => e = .returned (.bool (hitsB xs)) ∧ Chg No w w' := by
  have hnc := hx.le; have hcm := hx.cap
  have HX := hid hx
  clear hx
  go_enter Try.func23, Try.ntmps23
  go_wp2
  go_loopw [3] (fun i wr => ∃ k : Nat, k ≤ n ∧ i = .int .i64 k ∧ Chg No w wr ∧ Hid (hitsUp xs k = true)) (fun i _ => n - (intOf i).toNat)
  case atStart => exact ⟨0, Nat.zero_le _, rfl, Chg.refl _ _, rfl⟩
  case round =>
    obtain ⟨k, hk, rfl, hc, HU⟩ := hrel
    obtain ⟨wo, rfl⟩ : ∃ W : World, W = wr := ⟨_, rfl⟩
    by_cases hlt : k < n
    · obtain ⟨b, o, x, rfl, _, _, hxk, hE⟩ := (HX.out.no hc).at_ hlt
      obtain ⟨x1, x2⟩ := x
      have hE1 : ∀ p : NB wo, p.wd.cell? ⟨b, o + k * 2, none⟩ = some (.int .i64 x1) := nb_cell hE.1
      have hE2 : ∀ p : NB wo, p.wd.cell? ⟨b, o + k * 2 + 1, none⟩ = some (.int .i64 x2) := nb_cell hE.2
      have hlen : k < xs.length := by have := HX.out.len; omega
      have Hxk := hid hxk
      have Hlen := hid hlen
      have HE : Hid (wo.cell? ⟨b, o + k * 2, none⟩ = some (.int .i64 x1) ∧ True) := ⟨hE.1, trivial⟩
      clear hxk hE hlen
      cases g1 : inB x1 1 99 with
      | false =>
        have HF := hid (hitsB_false_of Hlen.out (hitOk_f1 Hxk.out g1))
        go_wp2_with fail
        (refine wp_region_nb (by kernel_rfl) (by kernel_rfl) ?_; (repeat (first | go_big_quiet_step ((go_at_call 37; exact nb_sameE (inRange _ _ _ _) (congrArg Value.bool g1))) | quiet_step ((go_at_call 37; exact nb_sameE (inRange _ _ _ _) (congrArg Value.bool g1))))); (with_reducible refine wpQuiet_nil ?_); intro wq hw1; have hq := nb_out hw1; clear hw1)
        go_wp2
        go_ret
        exact ⟨by rw [HF.out]; rfl, by (repeat (first | (with_reducible exact Chg.refl _ _) | ((with_reducible refine Chg.setNew ?_ _ ?_); rotate_left; first | (dsimp only; omega) | (simp; done) | (simp; omega)) | (with_reducible refine Chg.alloc ?_ _) | (with_reducible refine Chg.drew ?_) | (with_reducible refine Chg.drewN ?_ _) | (with_reducible refine Chg.no ?_ (by assumption)) | (with_reducible refine Chg.and_ ?_ (by assumption)) | ((with_reducible refine Chg.at_ ?_ (by assumption) ?_); rotate_left; (try simp only [World.size_alloc]); omega)))⟩
      | true =>
        cases g2 : inB x2 0 1000000 with
        | false =>
          have HF := hid (hitsB_false_of Hlen.out (hitOk_f2 Hxk.out g2))
          go_wp2_with fail
          (refine wp_region_nb (by kernel_rfl) (by kernel_rfl) ?_; (repeat (first | go_big_quiet_step ((first | (go_at_call 37; exact nb_sameE (inRange _ _ _ _) (congrArg Value.bool g1)) | (go_at_call 37; exact nb_sameE (inRange _ _ _ _) (congrArg Value.bool g2)))) | quiet_step ((first | (go_at_call 37; exact nb_sameE (inRange _ _ _ _) (congrArg Value.bool g1)) | (go_at_call 37; exact nb_sameE (inRange _ _ _ _) (congrArg Value.bool g2)))))); (with_reducible refine wpQuiet_nil ?_); intro wq hw1; have hq := nb_out hw1; clear hw1)
          go_wp2
          go_ret
          exact ⟨by rw [HF.out]; rfl, by (repeat (first | (with_reducible exact Chg.refl _ _) | ((with_reducible refine Chg.setNew ?_ _ ?_); rotate_left; first | (dsimp only; omega) | (simp; done) | (simp; omega)) | (with_reducible refine Chg.alloc ?_ _) | (with_reducible refine Chg.drew ?_) | (with_reducible refine Chg.drewN ?_ _) | (with_reducible refine Chg.no ?_ (by assumption)) | (with_reducible refine Chg.and_ ?_ (by assumption)) | ((with_reducible refine Chg.at_ ?_ (by assumption) ?_); rotate_left; (try simp only [World.size_alloc]); omega)))⟩
        | true =>
          by_cases h0 : k = 0
          · have J := hid (show hitOk3 xs k (x1, x2) from ⟨Hxk.out, g1, g2, fun h => absurd h (by omega)⟩)
            have h0' : decide (0 < k) = false := by simp; omega
            clear h0
            go_wp2_with fail
            (refine wp_region_nb (by kernel_rfl) (by kernel_rfl) ?_; (repeat (first | go_big_quiet_step ((first | (go_at_call 37; exact nb_sameE (inRange _ _ _ _) (congrArg Value.bool g1)) | (go_at_call 37; exact nb_sameE (inRange _ _ _ _) (congrArg Value.bool g2)))) | quiet_step ((first | (go_at_call 37; exact nb_sameE (inRange _ _ _ _) (congrArg Value.bool g1)) | (go_at_call 37; exact nb_sameE (inRange _ _ _ _) (congrArg Value.bool g2)))))); (with_reducible refine wpQuiet_nil ?_); intro wq hw1; have hq := nb_out hw1; clear hw1)
            go_wp2
            go_loopw [4] (fun i wi => ∃ j : Nat, j ≤ k ∧ i = .int .i64 j ∧ Chg No wq wi ∧ Hid (((xs.take j).any fun y => decide (y.1 = x1)) = false)) (fun i _ => k - (intOf i).toNat)
            case atStart => exact ⟨0, Nat.zero_le _, rfl, Chg.refl _ _, rfl⟩
            case round =>
              obtain ⟨j, hj, rfl, hci, HN⟩ := hrel
              obtain ⟨wi, rfl⟩ : ∃ W : World, W = wr := ⟨_, rfl⟩
              by_cases hjk : j < k
              · obtain ⟨b', o', y, hA', _, _, hyj, hE'⟩ := (HX.out.no (Chg.no (Chg.no hc hq) hci)).at_ (k := j) (by omega)
                obtain ⟨rfl, rfl⟩ : b = b' ∧ o = o' := by injection hA' with hA'; injection hA' with h1 h2; exact ⟨h1, h2⟩
                obtain ⟨y1, y2⟩ := y
                have hjn : j < n := by omega
                have hF1 : wi.cell? ⟨b, o + j * 2, none⟩ = some (.int .i64 y1) := hE'.1
                have hF2 : wi.cell? ⟨b, o + k * 2, none⟩ = some (.int .i64 x1) := cell_keep hci (cell_keep hq HE.out.1 (fun e => e)) (fun e => e)
                have Hyj := hid hyj
                clear hyj hE' hA'
                by_cases he : y1 = x1
                · have e1 : (y1 == x1) = true := by simp [he]
                  have HF := hid (show hitsB xs = false from hitsB_false_of Hlen.out (by rw [hitOk3_eq J.out]; simp only [Bool.not_eq_false']; rw [List.any_eq_true]; exact ⟨(y1, y2), List.mem_of_getElem? (by rw [List.getElem?_take, if_pos hjk]; exact Hyj.out), by simp [he]⟩))
                  clear he
                  go_wp2_with fail
                  go_quiet (fail)
                  go_wp2
                  go_ret
                  exact ⟨by rw [HF.out]; rfl, by (repeat (first | (with_reducible exact Chg.refl _ _) | ((with_reducible refine Chg.setNew ?_ _ ?_); rotate_left; first | (dsimp only; omega) | (simp; done) | (simp; omega)) | (with_reducible refine Chg.alloc ?_ _) | (with_reducible refine Chg.drew ?_) | (with_reducible refine Chg.drewN ?_ _) | (with_reducible refine Chg.no ?_ (by assumption)) | (with_reducible refine Chg.and_ ?_ (by assumption)) | ((with_reducible refine Chg.at_ ?_ (by assumption) ?_); rotate_left; (try simp only [World.size_alloc]); omega)))⟩
                · have e1 : (y1 == x1) = false := by simp [he]
                  have HN2 := hid (show ((xs.take (j + 1)).any fun y => decide (y.1 = x1)) = false from by rw [take_snoc Hyj.out, List.any_append, HN.out]; simp [he])
                  clear he
                  go_wp2_with fail
                  go_quiet (fail)
                  go_wp2
                  go_roundw
                  case rel => exact ⟨j + 1, by omega, by go_num, by (repeat (first | (with_reducible exact Chg.refl _ _) | ((with_reducible refine Chg.setNew ?_ _ ?_); rotate_left; first | (dsimp only; omega) | (simp; done) | (simp; omega)) | (with_reducible refine Chg.alloc ?_ _) | (with_reducible refine Chg.drew ?_) | (with_reducible refine Chg.drewN ?_ _) | (with_reducible refine Chg.no ?_ (by assumption)) | (with_reducible refine Chg.and_ ?_ (by assumption)) | ((with_reducible refine Chg.at_ ?_ (by assumption) ?_); rotate_left; (try simp only [World.size_alloc]); omega))), HN2⟩
                  case measure => simp [intOf]; omega
              · have hjk' : j = k := by omega
                subst hjk'
                have HU2 := hid (show hitsUp xs (j + 1) = true from by rw [hitsUp_snoc, HU.out, hitOk3_eq J.out, HN.out]; rfl)
                go_wp2
                go_roundw
                case rel => exact ⟨j + 1, by omega, by go_num, by (repeat (first | (with_reducible exact Chg.refl _ _) | ((with_reducible refine Chg.setNew ?_ _ ?_); rotate_left; first | (dsimp only; omega) | (simp; done) | (simp; omega)) | (with_reducible refine Chg.alloc ?_ _) | (with_reducible refine Chg.drew ?_) | (with_reducible refine Chg.drewN ?_ _) | (with_reducible refine Chg.no ?_ (by assumption)) | (with_reducible refine Chg.and_ ?_ (by assumption)) | ((with_reducible refine Chg.at_ ?_ (by assumption) ?_); rotate_left; (try simp only [World.size_alloc]); omega))), HU2⟩
                case measure => simp [intOf]; omega
          · have h0' : decide (0 < k) = true := by simp; omega
            obtain ⟨b', o', y, hA', _, _, hyk, hE⟩ := (HX.out.no hc).at_ (k := k - 1) (by omega)
            obtain ⟨rfl, rfl⟩ : b = b' ∧ o = o' := by injection hA' with hA'; injection hA' with h1 h2; exact ⟨h1, h2⟩
            obtain ⟨y1, y2⟩ := y
            have hP1 : ∀ p : NB wo, p.wd.cell? ⟨b, o + (k - 1) * 2, none⟩ = some (.int .i64 y1) := nb_cell hE.1
            have hP2 : ∀ p : NB wo, p.wd.cell? ⟨b, o + (k - 1) * 2 + 1, none⟩ = some (.int .i64 y2) := nb_cell hE.2
            have Hyk := hid hyk
            have hk1 : k - 1 < n := by omega
            have i1 : (1 : Int) ≤ k := by omega
            have i2 : ((k : Int) - 1).toNat = k - 1 := by omega
            have i3 : (k : Int) - 1 < n := by omega
            clear h0 hyk hE hA'
            cases g3 : nearB (y1, y2) (x1, x2) with
            | false =>
              have HF := hid (show hitsB xs = false from hitsB_false_of Hlen.out (by
                obtain ⟨k', rfl⟩ : ∃ k', k = k' + 1 := ⟨k - 1, by omega⟩
                exact hitOk_f3 Hxk.out Hyk.out g3))
              go_wp2_with fail
              (refine wp_region_nb (by kernel_rfl) (by kernel_rfl) ?_; (repeat (first | go_big_quiet_step ((first | (go_at_call 37; exact nb_sameE (inRange _ _ _ _) (congrArg Value.bool g1)) | (go_at_call 37; exact nb_sameE (inRange _ _ _ _) (congrArg Value.bool g2)) | (go_at_call 38; exact nb_ofE (sNearer _ _ _ _ _) (congrArg Value.bool g3)))) | quiet_step ((first | (go_at_call 37; exact nb_sameE (inRange _ _ _ _) (congrArg Value.bool g1)) | (go_at_call 37; exact nb_sameE (inRange _ _ _ _) (congrArg Value.bool g2)) | (go_at_call 38; exact nb_ofE (sNearer _ _ _ _ _) (congrArg Value.bool g3)))))); (with_reducible refine wpQuiet_nil ?_); intro wq hw1; have hq := nb_out hw1; clear hw1)
              go_wp2
              go_ret
              exact ⟨by rw [HF.out]; rfl, by (repeat (first | (with_reducible exact Chg.refl _ _) | ((with_reducible refine Chg.setNew ?_ _ ?_); rotate_left; first | (dsimp only; omega) | (simp; done) | (simp; omega)) | (with_reducible refine Chg.alloc ?_ _) | (with_reducible refine Chg.drew ?_) | (with_reducible refine Chg.drewN ?_ _) | (with_reducible refine Chg.no ?_ (by assumption)) | (with_reducible refine Chg.and_ ?_ (by assumption)) | ((with_reducible refine Chg.at_ ?_ (by assumption) ?_); rotate_left; (try simp only [World.size_alloc]); omega)))⟩
            | true =>
              have J := hid (show hitOk3 xs k (x1, x2) from ⟨Hxk.out, g1, g2, fun _ => ⟨_, Hyk.out, g3⟩⟩)
              go_wp2_with fail
              (refine wp_region_nb (by kernel_rfl) (by kernel_rfl) ?_; (repeat (first | go_big_quiet_step ((first | (go_at_call 37; exact nb_sameE (inRange _ _ _ _) (congrArg Value.bool g1)) | (go_at_call 37; exact nb_sameE (inRange _ _ _ _) (congrArg Value.bool g2)) | (go_at_call 38; exact nb_ofE (sNearer _ _ _ _ _) (congrArg Value.bool g3)))) | quiet_step ((first | (go_at_call 37; exact nb_sameE (inRange _ _ _ _) (congrArg Value.bool g1)) | (go_at_call 37; exact nb_sameE (inRange _ _ _ _) (congrArg Value.bool g2)) | (go_at_call 38; exact nb_ofE (sNearer _ _ _ _ _) (congrArg Value.bool g3)))))); (with_reducible refine wpQuiet_nil ?_); intro wq hw1; have hq := nb_out hw1; clear hw1)
              go_wp2
              go_loopw [4] (fun i wi => ∃ j : Nat, j ≤ k ∧ i = .int .i64 j ∧ Chg No wq wi ∧ Hid (((xs.take j).any fun y => decide (y.1 = x1)) = false)) (fun i _ => k - (intOf i).toNat)
              case atStart => exact ⟨0, Nat.zero_le _, rfl, Chg.refl _ _, rfl⟩
              case round =>
                obtain ⟨j, hj, rfl, hci, HN⟩ := hrel
                obtain ⟨wi, rfl⟩ : ∃ W : World, W = wr := ⟨_, rfl⟩
                by_cases hjk : j < k
                · obtain ⟨b', o', y, hA', _, _, hyj, hE'⟩ := (HX.out.no (Chg.no (Chg.no hc hq) hci)).at_ (k := j) (by omega)
                  obtain ⟨rfl, rfl⟩ : b = b' ∧ o = o' := by injection hA' with hA'; injection hA' with h1 h2; exact ⟨h1, h2⟩
                  obtain ⟨y1, y2⟩ := y
                  have hjn : j < n := by omega
                  have hF1 : wi.cell? ⟨b, o + j * 2, none⟩ = some (.int .i64 y1) := hE'.1
                  have hF2 : wi.cell? ⟨b, o + k * 2, none⟩ = some (.int .i64 x1) := cell_keep hci (cell_keep hq HE.out.1 (fun e => e)) (fun e => e)
                  have Hyj := hid hyj
                  clear hyj hE' hA'
                  by_cases he : y1 = x1
                  · have e1 : (y1 == x1) = true := by simp [he]
                    have HF := hid (show hitsB xs = false from hitsB_false_of Hlen.out (by rw [hitOk3_eq J.out]; simp only [Bool.not_eq_false']; rw [List.any_eq_true]; exact ⟨(y1, y2), List.mem_of_getElem? (by rw [List.getElem?_take, if_pos hjk]; exact Hyj.out), by simp [he]⟩))
                    clear he
                    go_wp2_with fail
                    go_quiet (fail)
                    go_wp2
                    go_ret
                    exact ⟨by rw [HF.out]; rfl, by (repeat (first | (with_reducible exact Chg.refl _ _) | ((with_reducible refine Chg.setNew ?_ _ ?_); rotate_left; first | (dsimp only; omega) | (simp; done) | (simp; omega)) | (with_reducible refine Chg.alloc ?_ _) | (with_reducible refine Chg.drew ?_) | (with_reducible refine Chg.drewN ?_ _) | (with_reducible refine Chg.no ?_ (by assumption)) | (with_reducible refine Chg.and_ ?_ (by assumption)) | ((with_reducible refine Chg.at_ ?_ (by assumption) ?_); rotate_left; (try simp only [World.size_alloc]); omega)))⟩
                  · have e1 : (y1 == x1) = false := by simp [he]
                    have HN2 := hid (show ((xs.take (j + 1)).any fun y => decide (y.1 = x1)) = false from by rw [take_snoc Hyj.out, List.any_append, HN.out]; simp [he])
                    clear he
                    go_wp2_with fail
                    go_quiet (fail)
                    go_wp2
                    go_roundw
                    case rel => exact ⟨j + 1, by omega, by go_num, by (repeat (first | (with_reducible exact Chg.refl _ _) | ((with_reducible refine Chg.setNew ?_ _ ?_); rotate_left; first | (dsimp only; omega) | (simp; done) | (simp; omega)) | (with_reducible refine Chg.alloc ?_ _) | (with_reducible refine Chg.drew ?_) | (with_reducible refine Chg.drewN ?_ _) | (with_reducible refine Chg.no ?_ (by assumption)) | (with_reducible refine Chg.and_ ?_ (by assumption)) | ((with_reducible refine Chg.at_ ?_ (by assumption) ?_); rotate_left; (try simp only [World.size_alloc]); omega))), HN2⟩
                    case measure => simp [intOf]; omega
                · have hjk' : j = k := by omega
                  subst hjk'
                  have HU2 := hid (show hitsUp xs (j + 1) = true from by rw [hitsUp_snoc, HU.out, hitOk3_eq J.out, HN.out]; rfl)
                  go_wp2
                  go_roundw
                  case rel => exact ⟨j + 1, by omega, by go_num, by (repeat (first | (with_reducible exact Chg.refl _ _) | ((with_reducible refine Chg.setNew ?_ _ ?_); rotate_left; first | (dsimp only; omega) | (simp; done) | (simp; omega)) | (with_reducible refine Chg.alloc ?_ _) | (with_reducible refine Chg.drew ?_) | (with_reducible refine Chg.drewN ?_ _) | (with_reducible refine Chg.no ?_ (by assumption)) | (with_reducible refine Chg.and_ ?_ (by assumption)) | ((with_reducible refine Chg.at_ ?_ (by assumption) ?_); rotate_left; (try simp only [World.size_alloc]); omega))), HU2⟩
                  case measure => simp [intOf]; omega
    · have hkn : k = n := by omega
      have hU := HU.out
      rw [hkn, ← HX.out.len] at hU
      have HF := hid (show hitsB xs = decide (n ≤ 16) from by rw [hitsB_of_up hU, HX.out.len])
      clear HU hU
      subst hkn
      go_wp2
      go_ret
      exact ⟨by rw [HF.out]; exact ret_bool (decide_eq_decide.2 (by omega)), by (repeat (first | (with_reducible exact Chg.refl _ _) | ((with_reducible refine Chg.setNew ?_ _ ?_); rotate_left; first | (dsimp only; omega) | (simp; done) | (simp; omega)) | (with_reducible refine Chg.alloc ?_ _) | (with_reducible refine Chg.drew ?_) | (with_reducible refine Chg.drewN ?_ _) | (with_reducible refine Chg.no ?_ (by assumption)) | (with_reducible refine Chg.and_ ?_ (by assumption)) | ((with_reducible refine Chg.at_ ?_ (by assumption) ?_); rotate_left; (try simp only [World.size_alloc]); omega)))⟩
theorem sVALIDHits (l0 h0 : Nat) (A : Option Addr) (n c : Nat) (xs : List (Int × Int)) (w : World) (hx : RHits w l0 h0 A n c xs) :
    Calls Try.prog 12 #[.slice A n c] w fun e w' => e = .returned (.bool (hitsB xs)) ∧ Chg No w w' := by
  have HX := hid hx
  clear hx
  go_enter Try.func12, Try.ntmps12
  go_wp2_with ((go_at_call 23; (with_reducible refine (sValidHits l0 h0 _ _ _ xs _ HX.out).mono ?_); rintro e w' ⟨rfl, hc⟩))
  go_ret
  exact ⟨rfl, by (repeat (first | (with_reducible exact Chg.refl _ _) | ((with_reducible refine Chg.setNew ?_ _ ?_); rotate_left; first | (dsimp only; omega) | (simp; done) | (simp; omega)) | (with_reducible refine Chg.alloc ?_ _) | (with_reducible refine Chg.drew ?_) | (with_reducible refine Chg.drewN ?_ _) | (with_reducible refine Chg.no ?_ (by assumption)) | (with_reducible refine Chg.and_ ?_ (by assumption)) | ((with_reducible refine Chg.at_ ?_ (by assumption) ?_); rotate_left; (try simp only [World.size_alloc]); omega)))⟩
set_option maxHeartbeats 1000000 in
theorem sHitAt (l0 h0 : Nat) (A : Option Addr) (n c : Nat) (xs : List (Int × Int)) (key : Int) (w : World) (hx : RHits w l0 h0 A n c xs) :
    Calls Try.prog 30 #[.slice A n c, .int .i64 key] w fun e w' => e = .returned (.int .i64 (hitAtF xs key)) ∧ w = w' := by
  have hnc := hx.le; have hcm := hx.cap
  have HX := hid hx
  clear hx
  go_enter Try.func30, Try.ntmps30
  go_wp2
  go_loop [5] (fun i => ∃ k : Nat, k ≤ n ∧ i = .int .i64 k ∧ Hid (∀ (j : Nat) (x : Int × Int), j < k → xs[j]? = some x → x.1 ≠ key)) (fun i => n - (intOf i).toNat)
  case atStart => exact ⟨0, Nat.zero_le _, rfl, fun j x hj => absurd hj (by omega)⟩
  case round =>
    obtain ⟨k, hk, rfl, HN⟩ := hrel
    by_cases hlt : k < n
    · obtain ⟨b, o, x, rfl, _, _, hxk, hE⟩ := HX.out.at_ hlt
      obtain ⟨x1, x2⟩ := x
      have hE1 : w.cell? ⟨b, o + k * 2, none⟩ = some (.int .i64 x1) := hE.1
      have Hxk := hid hxk
      clear hxk hE
      by_cases he : x1 = key
      · have e1 : (x1 == key) = true := by simp [he]
        have HF := hid (hitAtF_at Hxk.out he HN.out)
        clear he
        go_wp2
        go_ret
        exact ⟨by rw [HF.out]; rfl, rfl⟩
      · have e1 : (x1 == key) = false := by simp [he]
        have HN2 : Hid (∀ (j : Nat) (x : Int × Int), j < k + 1 → xs[j]? = some x → x.1 ≠ key) := fun j x hj hx => by
          by_cases hjk : j < k
          · exact HN.out j x hjk hx
          · obtain rfl : j = k := by omega
            rw [Hxk.out] at hx; injection hx with hx; subst hx; exact he
        clear he
        go_wp2
        go_round
        case rel => exact ⟨k + 1, by omega, by go_num, HN2⟩
        case measure => simp [intOf]; omega
    · have HF := hid (show hitAtF xs key = -1 from hitAtF_no (fun j x hx => HN.out j x (by have := (List.getElem?_eq_some_iff.1 hx).1; have := HX.out.len; omega) hx))
      go_wp2
      go_ret
      exact ⟨by rw [HF.out]; rfl, rfl⟩
theorem sRankScore (l0 h0 : Nat) (A : Option Addr) (n c : Nat) (xs : List (Int × Int)) (key : Int) (w : World) (hx : RHits w l0 h0 A n c xs) (hn : n ≤ 1000000) :
    Calls Try.prog 27 #[.slice A n c, .int .i64 key] w fun e w' => e = .returned (.int .i64 (rankF xs key)) ∧ w = w' := by
  have hb := hitAtF_lt xs key
  rw [hx.len] at hb
  obtain ⟨r, hr⟩ : ∃ r, hitAtF xs key = r := ⟨_, rfl⟩
  rw [hr] at hb
  have HR := hid hr
  have HX := hid hx
  have HF : Hid (rankF xs key = if r < 0 then 0 else 100000 / (60 + r + 1)) := by show rankF xs key = _; unfold rankF; rw [hr]
  clear hr hx
  have hcall := fun W (h : RHits W l0 h0 A n c xs) => (sHitAt l0 h0 A n c xs key W h)
  rw [HR.out] at hcall
  have HC := hid hcall
  clear hcall
  by_cases h0' : r < 0
  · have HF2 := HF.out
    rw [if_pos h0'] at HF2
    have HF3 := hid HF2
    clear HF2 HF
    go_enter Try.func27, Try.ntmps27
    go_wp2_with ((go_at_call 30; (with_reducible refine (HC.out _ HX.out).mono ?_); rintro e w' ⟨rfl, rfl⟩))
    go_ret
    exact ⟨by rw [HF3.out]; rfl, rfl⟩
  · have HF2 := HF.out
    rw [if_neg h0'] at HF2
    have HF3 := hid HF2
    clear HF2 HF
    have h0'' : 0 ≤ r := by omega
    go_enter Try.func27, Try.ntmps27
    go_wp2_with ((go_at_call 30; (with_reducible refine (HC.out _ HX.out).mono ?_); rintro e w' ⟨rfl, rfl⟩))
    go_ret
    exact ⟨by rw [HF3.out]; rfl, rfl⟩
theorem sRANKScore (l0 h0 : Nat) (A : Option Addr) (n c : Nat) (xs : List (Int × Int)) (key : Int) (w : World) (hx : RHits w l0 h0 A n c xs) :
    Calls Try.prog 16 #[.slice A n c, .int .i64 key] w fun e w' => e = .returned (.int .i64 (scoreF xs key)) ∧ Chg No w w' := by
  have HX := hid hx
  have hcall := fun W (h : RHits W l0 h0 A n c xs) => (sValidHits l0 h0 A n c xs W h)
  clear hx
  cases hb : hitsB xs with
  | false =>
    rw [hb] at hcall
    have HC := hid hcall
    have HF := hid (show scoreF xs key = -1 from by unfold scoreF; rw [hb]; rfl)
    clear hcall hb
    go_enter Try.func16, Try.ntmps16
    go_wp2_with ((go_at_call 23; (with_reducible refine (HC.out _ HX.out).mono ?_); rintro e w' ⟨rfl, hc⟩))
    go_ret
    exact ⟨by rw [HF.out]; rfl, by (repeat (first | (with_reducible exact Chg.refl _ _) | ((with_reducible refine Chg.setNew ?_ _ ?_); rotate_left; first | (dsimp only; omega) | (simp; done) | (simp; omega)) | (with_reducible refine Chg.alloc ?_ _) | (with_reducible refine Chg.drew ?_) | (with_reducible refine Chg.drewN ?_ _) | (with_reducible refine Chg.no ?_ (by assumption)) | (with_reducible refine Chg.and_ ?_ (by assumption)) | ((with_reducible refine Chg.at_ ?_ (by assumption) ?_); rotate_left; (try simp only [World.size_alloc]); omega)))⟩
  | true =>
    have hn16 : n ≤ 16 := by have := HX.out.len; have := hitsB_len hb; omega
    rw [hb] at hcall
    have HC := hid hcall
    have HF := hid (show scoreF xs key = rankF xs key from by unfold scoreF; rw [hb]; rfl)
    clear hcall hb
    go_enter Try.func16, Try.ntmps16
    (go_wp2_with fail; (with_reducible refine (HC.out _ HX.out).mono ?_); rintro e w1 ⟨rfl, hc⟩)
    (go_wp2_with fail; (with_reducible refine (sRankScore l0 h0 A n c xs key _ (HX.out.no hc) (by omega)).mono ?_); rintro e w2 ⟨rfl, rfl⟩)
    go_wp2
    go_ret
    exact ⟨by rw [HF.out]; rfl, by (repeat (first | (with_reducible exact Chg.refl _ _) | ((with_reducible refine Chg.setNew ?_ _ ?_); rotate_left; first | (dsimp only; omega) | (simp; done) | (simp; omega)) | (with_reducible refine Chg.alloc ?_ _) | (with_reducible refine Chg.drew ?_) | (with_reducible refine Chg.drewN ?_ _) | (with_reducible refine Chg.no ?_ (by assumption)) | (with_reducible refine Chg.and_ ?_ (by assumption)) | ((with_reducible refine Chg.at_ ?_ (by assumption) ?_); rotate_left; (try simp only [World.size_alloc]); omega)))⟩
set_option maxHeartbeats 1000000 in
theorem sRecallOf (l0 h0 l1 h1 : Nat) (A B : Option Addr) (n c m d : Nat) (xs ys : List (Int × Int)) (w : World) (hx : RHits w l0 h0 A n c xs) (hy : RHits w l1 h1 B m d ys) :
    Calls Try.prog 18 #[.slice A n c, .slice B m d] w fun e w' => e = .returned (.int .i64 (recF xs ys)) ∧ Chg No w w' := by
  have hnc := hx.le; have hcm := hx.cap; have hmd := hy.le; have hdm := hy.cap
  have HX := hid hx; have HY := hid hy
  have hcx := fun W (h : RHits W l0 h0 A n c xs) => (sValidHits l0 h0 A n c xs W h)
  have hcy := fun W (h : RHits W l1 h1 B m d ys) => (sValidHits l1 h1 B m d ys W h)
  clear hx hy
  cases hb : hitsB xs with
  | false =>
    rw [hb] at hcx
    have HCX := hid hcx
    have HF := hid (recF_1 (f := ys) hb)
    clear hcx hcy hb
    go_enter Try.func18, Try.ntmps18
    (go_wp2_with fail; (with_reducible refine (HCX.out _ HX.out).mono ?_); rintro e w1 ⟨rfl, hc⟩)
    go_wp2
    go_ret
    exact ⟨by rw [HF.out]; rfl, by (repeat (first | (with_reducible exact Chg.refl _ _) | ((with_reducible refine Chg.setNew ?_ _ ?_); rotate_left; first | (dsimp only; omega) | (simp; done) | (simp; omega)) | (with_reducible refine Chg.alloc ?_ _) | (with_reducible refine Chg.drew ?_) | (with_reducible refine Chg.drewN ?_ _) | (with_reducible refine Chg.no ?_ (by assumption)) | (with_reducible refine Chg.and_ ?_ (by assumption)) | ((with_reducible refine Chg.at_ ?_ (by assumption) ?_); rotate_left; (try simp only [World.size_alloc]); omega)))⟩
  | true =>
    cases hb2 : hitsB ys with
    | false =>
      rw [hb] at hcx
      rw [hb2] at hcy
      have HCX := hid hcx
      have HCY := hid hcy
      have HF := hid (recF_2 (r := xs) hb2)
      clear hcx hcy hb hb2
      go_enter Try.func18, Try.ntmps18
      (go_wp2_with fail; (with_reducible refine (HCX.out _ HX.out).mono ?_); rintro e w1 ⟨rfl, hc⟩)
      (go_wp2_with fail; (with_reducible refine (HCY.out _ (HY.out.no hc)).mono ?_); rintro e w2 ⟨rfl, hc2⟩)
      go_wp2
      go_ret
      exact ⟨by rw [HF.out]; rfl, by (repeat (first | (with_reducible exact Chg.refl _ _) | ((with_reducible refine Chg.setNew ?_ _ ?_); rotate_left; first | (dsimp only; omega) | (simp; done) | (simp; omega)) | (with_reducible refine Chg.alloc ?_ _) | (with_reducible refine Chg.drew ?_) | (with_reducible refine Chg.drewN ?_ _) | (with_reducible refine Chg.no ?_ (by assumption)) | (with_reducible refine Chg.and_ ?_ (by assumption)) | ((with_reducible refine Chg.at_ ?_ (by assumption) ?_); rotate_left; (try simp only [World.size_alloc]); omega)))⟩
    | true =>
      have hlen := HX.out.len
      have hn16 : n ≤ 16 := by have := hitsB_len hb; omega
      have hm16 : m ≤ 16 := by have := HY.out.len; have := hitsB_len hb2; omega
      by_cases h00 : n = 0
      · have HF := hid (recF_3 (r := xs) (f := ys) (by omega))
        have e1 : ((n : Int) == 0) = true := by simp; omega
        rw [hb] at hcx
        rw [hb2] at hcy
        have HCX := hid hcx
        have HCY := hid hcy
        clear hcx hcy hb hb2 hlen h00
        go_enter Try.func18, Try.ntmps18
        (go_wp2_with fail; (with_reducible refine (HCX.out _ HX.out).mono ?_); rintro e w1 ⟨rfl, hc⟩)
        (go_wp2_with fail; (with_reducible refine (HCY.out _ (HY.out.no hc)).mono ?_); rintro e w2 ⟨rfl, hc2⟩)
        go_wp2
        go_ret
        exact ⟨by rw [HF.out]; rfl, by (repeat (first | (with_reducible exact Chg.refl _ _) | ((with_reducible refine Chg.setNew ?_ _ ?_); rotate_left; first | (dsimp only; omega) | (simp; done) | (simp; omega)) | (with_reducible refine Chg.alloc ?_ _) | (with_reducible refine Chg.drew ?_) | (with_reducible refine Chg.drewN ?_ _) | (with_reducible refine Chg.no ?_ (by assumption)) | (with_reducible refine Chg.and_ ?_ (by assumption)) | ((with_reducible refine Chg.at_ ?_ (by assumption) ?_); rotate_left; (try simp only [World.size_alloc]); omega)))⟩
      · have HF := hid (show recF xs ys = 1000 * foundF xs ys / (n : Int) from by rw [recF_4 hb hb2 (by omega)]; unfold recallF; rw [hlen])
        have e1 : ((n : Int) == 0) = false := by simp; omega
        have hn1 : 1 ≤ n := by omega
        have hbig : n ≤ 1000000 := by omega
        have HL := hid hlen
        rw [hb] at hcx
        rw [hb2] at hcy
        have HCX := hid hcx
        have HCY := hid hcy
        clear hcx hcy hb hb2 hlen h00
        go_enter Try.func18, Try.ntmps18
        (go_wp2_with fail; (with_reducible refine (HCX.out _ HX.out).mono ?_); rintro e w1 ⟨rfl, hc⟩)
        (go_wp2_with fail; (with_reducible refine (HCY.out _ (HY.out.no hc)).mono ?_); rintro e w2 ⟨rfl, hc2⟩)
        have hc12 : Chg No w w2 := by (repeat (first | (with_reducible exact Chg.refl _ _) | ((with_reducible refine Chg.setNew ?_ _ ?_); rotate_left; first | (dsimp only; omega) | (simp; done) | (simp; omega)) | (with_reducible refine Chg.alloc ?_ _) | (with_reducible refine Chg.drew ?_) | (with_reducible refine Chg.drewN ?_ _) | (with_reducible refine Chg.no ?_ (by assumption)) | (with_reducible refine Chg.and_ ?_ (by assumption)) | ((with_reducible refine Chg.at_ ?_ (by assumption) ?_); rotate_left; (try simp only [World.size_alloc]); omega)))
        clear hc hc2
        go_wp2
        go_loopw [5, 6] (fun s i wr => ∃ k : Nat, k ≤ n ∧ i = .int .i64 k ∧ s = .int .i64 (foundF (xs.take k) ys) ∧ Chg No w wr) (fun _ i _ => n - (intOf i).toNat)
        case atStart => exact ⟨0, Nat.zero_le _, rfl, rfl, hc12⟩
        case round =>
          obtain ⟨k, hk, rfl, rfl, hc⟩ := hrel
          by_cases hlt : k < n
          · obtain ⟨b, o, x, rfl, _, _, hxk, hE⟩ := (HX.out.no hc).at_ hlt
            obtain ⟨x1, x2⟩ := x
            have hE1 : wr.cell? ⟨b, o + k * 2, none⟩ = some (.int .i64 x1) := hE.1
            have hs := foundF_bd (xs.take k) ys
            have hl : (xs.take k).length ≤ k := List.length_take_le _ _
            have hs1 := hs.1
            have hs2 : foundF (xs.take k) ys ≤ k := by have := hs.2; omega
            have HS := hid (foundF_snoc (f := ys) hxk)
            have Hxk := hid hxk
            clear hxk hE hs hl
            generalize foundF (xs.take k) ys = s at *
            cases hany : (ys.any fun x => decide (x.1 = x1)) with
            | true =>
              have hr0 : 0 ≤ hitAtF ys x1 := by have := any_hitAt ys x1; rw [hany] at this; exact of_decide_eq_true this.symm
              have HS2 : Hid (foundF (xs.take (k + 1)) ys = s + 1) := by show foundF _ _ = _; rw [HS.out]; simp only []; rw [if_pos hany]
              have hcall := fun W (h : RHits W l1 h1 B m d ys) => (sHitAt l1 h1 B m d ys x1 W h)
              generalize hitAtF ys x1 = r at hcall hr0
              have HC := hid hcall
              clear hcall hany HS
              go_wp2_with (first | (go_at_call 30; (with_reducible refine (HC.out _ (HY.out.no hc)).mono ?_); rintro e w' ⟨rfl, rfl⟩) | (go_at_call 29; (with_reducible refine (toInt _ _).mono ?_); rintro e w' ⟨rfl, rfl⟩))
              go_roundw
              case rel => exact ⟨k + 1, by omega, by go_num, by rw [HS2.out], by (repeat (first | (with_reducible exact Chg.refl _ _) | ((with_reducible refine Chg.setNew ?_ _ ?_); rotate_left; first | (dsimp only; omega) | (simp; done) | (simp; omega)) | (with_reducible refine Chg.alloc ?_ _) | (with_reducible refine Chg.drew ?_) | (with_reducible refine Chg.drewN ?_ _) | (with_reducible refine Chg.no ?_ (by assumption)) | (with_reducible refine Chg.and_ ?_ (by assumption)) | ((with_reducible refine Chg.at_ ?_ (by assumption) ?_); rotate_left; (try simp only [World.size_alloc]); omega)))⟩
              case measure => simp [intOf]; omega
            | false =>
              have hr0 : hitAtF ys x1 < 0 := by have := any_hitAt ys x1; rw [hany] at this; have := of_decide_eq_false this.symm; omega
              have HS2 : Hid (foundF (xs.take (k + 1)) ys = s) := by show foundF _ _ = _; rw [HS.out]; simp only []; rw [if_neg (by rw [hany]; simp)]; omega
              have hcall := fun W (h : RHits W l1 h1 B m d ys) => (sHitAt l1 h1 B m d ys x1 W h)
              generalize hitAtF ys x1 = r at hcall hr0
              have HC := hid hcall
              clear hcall hany HS
              go_wp2_with (first | (go_at_call 30; (with_reducible refine (HC.out _ (HY.out.no hc)).mono ?_); rintro e w' ⟨rfl, rfl⟩) | (go_at_call 29; (with_reducible refine (toInt _ _).mono ?_); rintro e w' ⟨rfl, rfl⟩))
              go_roundw
              case rel => exact ⟨k + 1, by omega, by go_num, by rw [HS2.out], by (repeat (first | (with_reducible exact Chg.refl _ _) | ((with_reducible refine Chg.setNew ?_ _ ?_); rotate_left; first | (dsimp only; omega) | (simp; done) | (simp; omega)) | (with_reducible refine Chg.alloc ?_ _) | (with_reducible refine Chg.drew ?_) | (with_reducible refine Chg.drewN ?_ _) | (with_reducible refine Chg.no ?_ (by assumption)) | (with_reducible refine Chg.and_ ?_ (by assumption)) | ((with_reducible refine Chg.at_ ?_ (by assumption) ?_); rotate_left; (try simp only [World.size_alloc]); omega)))⟩
              case measure => simp [intOf]; omega
          · have hkn : k = n := by omega
            subst hkn
            have hb := foundF_bd xs ys
            rw [HL.out] at hb
            have e0 : foundF (xs.take k) ys = foundF xs ys := by rw [List.take_of_length_le (by rw [HL.out]; exact Nat.le_refl _)]
            rw [e0]
            clear e0
            generalize foundF xs ys = s at *
            have hb1 := hb.1; have hb2 := hb.2
            go_wp2
            go_ret
            exact ⟨by rw [HF.out]; rfl, by (repeat (first | (with_reducible exact Chg.refl _ _) | ((with_reducible refine Chg.setNew ?_ _ ?_); rotate_left; first | (dsimp only; omega) | (simp; done) | (simp; omega)) | (with_reducible refine Chg.alloc ?_ _) | (with_reducible refine Chg.drew ?_) | (with_reducible refine Chg.drewN ?_ _) | (with_reducible refine Chg.no ?_ (by assumption)) | (with_reducible refine Chg.and_ ?_ (by assumption)) | ((with_reducible refine Chg.at_ ?_ (by assumption) ?_); rotate_left; (try simp only [World.size_alloc]); omega)))⟩
end Go.Proofs.Ythbakgblchhooaa
