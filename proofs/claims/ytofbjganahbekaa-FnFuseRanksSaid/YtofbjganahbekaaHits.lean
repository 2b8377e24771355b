/- Hits: the reference's and the program's functions on lists of hits. -/
import Derived.Test.YtofbjganahbekaaBase
import Derived.Test.YtofbjganahbekaaQuiet
import Derived.Test.YtofbjganahbekaaPHits2
namespace Go.Proofs.Ytofbjganahbekaa
open Go.RowKit
set_option linter.unusedVariables false
set_option linter.unusedSimpArgs false
theorem sNearer (a1 a2 b1 b2 : Int) (w : World) : Calls Try.prog 49 #[.agg #[.int .i64 a1, .int .i64 a2], .agg #[.int .i64 b1, .int .i64 b2]] w fun e w' => e = .returned (.bool (nearB (a1, a2) (b1, b2))) ∧ Chg No w w' := by
  go_enter Try.func49, Try.ntmps49
  go_wp2
  all_goals go_ret
  all_goals exact ⟨ret_bool (by unfold nearB; simp_all <;> omega), by (repeat (first | (with_reducible exact Chg.refl _ _) | ((with_reducible refine Chg.setNew ?_ _ ?_); rotate_left; first | (dsimp only; omega) | (simp; done) | (simp; omega)) | (with_reducible refine Chg.alloc ?_ _) | (with_reducible refine Chg.drew ?_) | (with_reducible refine Chg.drewN ?_ _) | (with_reducible refine Chg.no ?_ (by assumption)) | (with_reducible refine Chg.and_ ?_ (by assumption)) | ((with_reducible refine Chg.at_ ?_ (by assumption) ?_); rotate_left; (try simp only [World.size_alloc]); omega)))⟩
set_option maxHeartbeats 2000000 in
theorem sValidHits (l0 h0 : Nat) (A : Option Addr) (n c : Nat) (xs : List (Int × Int)) (w : World) (hx : RHits w l0 h0 A n c xs) :
    Calls Try.prog 30 #[.slice A n c] w fun e w' => e = .returned (.bool (hitsB xs)) ∧ Chg No w w' := by
  have hnc := hx.le; have hcm := hx.cap
  have HX := hid hx
  clear hx
  go_enter Try.func30, Try.ntmps30
  go_wp2
  go_loopw [3] (fun i wr => ∃ k : Nat, k ≤ n ∧ i = .int .i64 k ∧ Chg No w wr ∧ Hid (hitsUp xs k = true)) (fun i _ => n - (intOf i).toNat)
  case atStart => exact ⟨0, Nat.zero_le _, rfl, Chg.refl _ _, rfl⟩
  case round =>
    obtain ⟨k, hk, rfl, hc, HU⟩ := hrel
    obtain ⟨wo, rfl⟩ : ∃ W : World, W = wr := ⟨_, rfl⟩
    by_cases hlt : k < n
    · obtain ⟨b, o, x, rfl, _, _, hxk, hE⟩ := (HX.out.no hc).at_ hlt
      obtain ⟨x1, x2⟩ := x
      have hE1 : ∀ p : NB wo, p.wd.cell? ⟨b, o + k * 2, none⟩ = some (.int .i64 x1) := nb_cell hE.1
      have hE2 : ∀ p : NB wo, p.wd.cell? ⟨b, o + k * 2 + 1, none⟩ = some (.int .i64 x2) := nb_cell hE.2
      have hlen : k < xs.length := by have := HX.out.len; omega
      have Hxk := hid hxk
      have Hlen := hid hlen
      have HE : Hid (wo.cell? ⟨b, o + k * 2, none⟩ = some (.int .i64 x1) ∧ True) := ⟨hE.1, trivial⟩
      clear hxk hE hlen
      cases g1 : inB x1 1 99 with
      | false =>
        have HF := hid (hitsB_false_of Hlen.out (hitOk_f1 Hxk.out g1))
        go_wp2_with fail
        (refine wp_region_nb (by kernel_rfl) (by kernel_rfl) ?_; (repeat (first | go_big_quiet_step ((go_at_call 31; exact nb_sameE (inRange _ _ _ _) (congrArg Value.bool g1))) | quiet_step ((go_at_call 31; exact nb_sameE (inRange _ _ _ _) (congrArg Value.bool g1))))); (with_reducible refine wpQuiet_nil ?_); intro wq hw1; have hq := nb_out hw1; clear hw1)
        go_wp2
        go_ret
        exact ⟨by rw [HF.out]; rfl, by (repeat (first | (with_reducible exact Chg.refl _ _) | ((with_reducible refine Chg.setNew ?_ _ ?_); rotate_left; first | (dsimp only; omega) | (simp; done) | (simp; omega)) | (with_reducible refine Chg.alloc ?_ _) | (with_reducible refine Chg.drew ?_) | (with_reducible refine Chg.drewN ?_ _) | (with_reducible refine Chg.no ?_ (by assumption)) | (with_reducible refine Chg.and_ ?_ (by assumption)) | ((with_reducible refine Chg.at_ ?_ (by assumption) ?_); rotate_left; (try simp only [World.size_alloc]); omega)))⟩
      | true =>
        cases g2 : inB x2 0 1000000 with
        | false =>
          have HF := hid (hitsB_false_of Hlen.out (hitOk_f2 Hxk.out g2))
          go_wp2_with fail
          (refine wp_region_nb (by kernel_rfl) (by kernel_rfl) ?_; (repeat (first | go_big_quiet_step ((first | (go_at_call 31; exact nb_sameE (inRange _ _ _ _) (congrArg Value.bool g1)) | (go_at_call 31; exact nb_sameE (inRange _ _ _ _) (congrArg Value.bool g2)))) | quiet_step ((first | (go_at_call 31; exact nb_sameE (inRange _ _ _ _) (congrArg Value.bool g1)) | (go_at_call 31; exact nb_sameE (inRange _ _ _ _) (congrArg Value.bool g2)))))); (with_reducible refine wpQuiet_nil ?_); intro wq hw1; have hq := nb_out hw1; clear hw1)
          go_wp2
          go_ret
          exact ⟨by rw [HF.out]; rfl, by (repeat (first | (with_reducible exact Chg.refl _ _) | ((with_reducible refine Chg.setNew ?_ _ ?_); rotate_left; first | (dsimp only; omega) | (simp; done) | (simp; omega)) | (with_reducible refine Chg.alloc ?_ _) | (with_reducible refine Chg.drew ?_) | (with_reducible refine Chg.drewN ?_ _) | (with_reducible refine Chg.no ?_ (by assumption)) | (with_reducible refine Chg.and_ ?_ (by assumption)) | ((with_reducible refine Chg.at_ ?_ (by assumption) ?_); rotate_left; (try simp only [World.size_alloc]); omega)))⟩
        | true =>
          by_cases h0 : k = 0
          · have J := hid (show hitOk3 xs k (x1, x2) from ⟨Hxk.out, g1, g2, fun h => absurd h (by omega)⟩)
            have h0' : decide (0 < k) = false := by simp; omega
            clear h0
            go_wp2_with fail
            (refine wp_region_nb (by kernel_rfl) (by kernel_rfl) ?_; (repeat (first | go_big_quiet_step ((first | (go_at_call 31; exact nb_sameE (inRange _ _ _ _) (congrArg Value.bool g1)) | (go_at_call 31; exact nb_sameE (inRange _ _ _ _) (congrArg Value.bool g2)))) | quiet_step ((first | (go_at_call 31; exact nb_sameE (inRange _ _ _ _) (congrArg Value.bool g1)) | (go_at_call 31; exact nb_sameE (inRange _ _ _ _) (congrArg Value.bool g2)))))); (with_reducible refine wpQuiet_nil ?_); intro wq hw1; have hq := nb_out hw1; clear hw1)
            go_wp2
            go_loopw [4] (fun i wi => ∃ j : Nat, j ≤ k ∧ i = .int .i64 j ∧ Chg No wq wi ∧ Hid (((xs.take j).any fun y => decide (y.1 = x1)) = false)) (fun i _ => k - (intOf i).toNat)
            case atStart => exact ⟨0, Nat.zero_le _, rfl, Chg.refl _ _, rfl⟩
            case round =>
              obtain ⟨j, hj, rfl, hci, HN⟩ := hrel
              obtain ⟨wi, rfl⟩ : ∃ W : World, W = wr := ⟨_, rfl⟩
              by_cases hjk : j < k
              · obtain ⟨b', o', y, hA', _, _, hyj, hE'⟩ := (HX.out.no (Chg.no (Chg.no hc hq) hci)).at_ (k := j) (by omega)
                obtain ⟨rfl, rfl⟩ : b = b' ∧ o = o' := by injection hA' with hA'; injection hA' with h1 h2; exact ⟨h1, h2⟩
                obtain ⟨y1, y2⟩ := y
                have hjn : j < n := by omega
                have hF1 : wi.cell? ⟨b, o + j * 2, none⟩ = some (.int .i64 y1) := hE'.1
                have hF2 : wi.cell? ⟨b, o + k * 2, none⟩ = some (.int .i64 x1) := cell_keep hci (cell_keep hq HE.out.1 (fun e => e)) (fun e => e)
                have Hyj := hid hyj
                clear hyj hE' hA'
                by_cases he : y1 = x1
                · have e1 : (y1 == x1) = true := by simp [he]
                  have HF := hid (show hitsB xs = false from hitsB_false_of Hlen.out (by rw [hitOk3_eq J.out]; simp only [Bool.not_eq_false']; rw [List.any_eq_true]; exact ⟨(y1, y2), List.mem_of_getElem? (by rw [List.getElem?_take, if_pos hjk]; exact Hyj.out), by simp [he]⟩))
                  clear he
                  go_wp2_with fail
                  go_quiet (fail)
                  go_wp2
                  go_ret
                  exact ⟨by rw [HF.out]; rfl, by (repeat (first | (with_reducible exact Chg.refl _ _) | ((with_reducible refine Chg.setNew ?_ _ ?_); rotate_left; first | (dsimp only; omega) | (simp; done) | (simp; omega)) | (with_reducible refine Chg.alloc ?_ _) | (with_reducible refine Chg.drew ?_) | (with_reducible refine Chg.drewN ?_ _) | (with_reducible refine Chg.no ?_ (by assumption)) | (with_reducible refine Chg.and_ ?_ (by assumption)) | ((with_reducible refine Chg.at_ ?_ (by assumption) ?_); rotate_left; (try simp only [World.size_alloc]); omega)))⟩
                · have e1 : (y1 == x1) = false := by simp [he]
                  have HN2 := hid (show ((xs.take (j + 1)).any fun y => decide (y.1 = x1)) = false from by rw [take_snoc Hyj.out, List.any_append, HN.out]; simp [he])
                  clear he
                  go_wp2_with fail
                  go_quiet (fail)
                  go_wp2
                  go_roundw
                  case rel => exact ⟨j + 1, by omega, by go_num, by (repeat (first | (with_reducible exact Chg.refl _ _) | ((with_reducible refine Chg.setNew ?_ _ ?_); rotate_left; first | (dsimp only; omega) | (simp; done) | (simp; omega)) | (with_reducible refine Chg.alloc ?_ _) | (with_reducible refine Chg.drew ?_) | (with_reducible refine Chg.drewN ?_ _) | (with_reducible refine Chg.no ?_ (by assumption)) | (with_reducible refine Chg.and_ ?_ (by assumption)) | ((with_reducible refine Chg.at_ ?_ (by assumption) ?_); rotate_left; (try simp only [World.size_alloc]); omega))), HN2⟩
                  case measure => simp [intOf]; omega
              · have hjk' : j = k := by omega
                subst hjk'
                have HU2 := hid (show hitsUp xs (j + 1) = true from by rw [hitsUp_snoc, HU.out, hitOk3_eq J.out, HN.out]; rfl)
                go_wp2
                go_roundw
                case rel => exact ⟨j + 1, by omega, by go_num, by (repeat (first | (with_reducible exact Chg.refl _ _) | ((with_reducible refine Chg.setNew ?_ _ ?_); rotate_left; first | (dsimp only; omega) | (simp; done) | (simp; omega)) | (with_reducible refine Chg.alloc ?_ _) | (with_reducible refine Chg.drew ?_) | (with_reducible refine Chg.drewN ?_ _) | (with_reducible refine Chg.no ?_ (by assumption)) | (with_reducible refine Chg.and_ ?_ (by assumption)) | ((with_reducible refine Chg.at_ ?_ (by assumption) ?_); rotate_left; (try simp only [World.size_alloc]); omega))), HU2⟩
                case measure => simp [intOf]; omega
          · have h0' : decide (0 < k) = true := by simp; omega
            obtain ⟨b', o', y, hA', _, _, hyk, hE⟩ := (HX.out.no hc).at_ (k := k - 1) (by omega)
            obtain ⟨rfl, rfl⟩ : b = b' ∧ o = o' := by injection hA' with hA'; injection hA' with h1 h2; exact ⟨h1, h2⟩
            obtain ⟨y1, y2⟩ := y
            have hP1 : ∀ p : NB wo, p.wd.cell? ⟨b, o + (k - 1) * 2, none⟩ = some (.int .i64 y1) := nb_cell hE.1
            have hP2 : ∀ p : NB wo, p.wd.cell? ⟨b, o + (k - 1) * 2 + 1, none⟩ = some (.int .i64 y2) := nb_cell hE.2
            have Hyk := hid hyk
            have hk1 : k - 1 < n := by omega
            have i1 : (1 : Int) ≤ k := by omega
            have i2 : ((k : Int) - 1).toNat = k - 1 := by omega
            have i3 : (k : Int) - 1 < n := by omega
            clear h0 hyk hE hA'
            cases g3 : nearB (y1, y2) (x1, x2) with
            | false =>
              have HF := hid (show hitsB xs = false from hitsB_false_of Hlen.out (by
                obtain ⟨k', rfl⟩ : ∃ k', k = k' + 1 := ⟨k - 1, by omega⟩
                exact hitOk_f3 Hxk.out Hyk.out g3))
              go_wp2_with fail
              (refine wp_region_nb (by kernel_rfl) (by kernel_rfl) ?_; (repeat (first | go_big_quiet_step ((first | (go_at_call 31; exact nb_sameE (inRange _ _ _ _) (congrArg Value.bool g1)) | (go_at_call 31; exact nb_sameE (inRange _ _ _ _) (congrArg Value.bool g2)) | (go_at_call 49; exact nb_ofE (sNearer _ _ _ _ _) (congrArg Value.bool g3)))) | quiet_step ((first | (go_at_call 31; exact nb_sameE (inRange _ _ _ _) (congrArg Value.bool g1)) | (go_at_call 31; exact nb_sameE (inRange _ _ _ _) (congrArg Value.bool g2)) | (go_at_call 49; exact nb_ofE (sNearer _ _ _ _ _) (congrArg Value.bool g3)))))); (with_reducible refine wpQuiet_nil ?_); intro wq hw1; have hq := nb_out hw1; clear hw1)
              go_wp2
              go_ret
              exact ⟨by rw [HF.out]; rfl, by (repeat (first | (with_reducible exact Chg.refl _ _) | ((with_reducible refine Chg.setNew ?_ _ ?_); rotate_left; first | (dsimp only; omega) | (simp; done) | (simp; omega)) | (with_reducible refine Chg.alloc ?_ _) | (with_reducible refine Chg.drew ?_) | (with_reducible refine Chg.drewN ?_ _) | (with_reducible refine Chg.no ?_ (by assumption)) | (with_reducible refine Chg.and_ ?_ (by assumption)) | ((with_reducible refine Chg.at_ ?_ (by assumption) ?_); rotate_left; (try simp only [World.size_alloc]); omega)))⟩
            | true =>
              have J := hid (show hitOk3 xs k (x1, x2) from ⟨Hxk.out, g1, g2, fun _ => ⟨_, Hyk.out, g3⟩⟩)
              go_wp2_with fail
              (refine wp_region_nb (by kernel_rfl) (by kernel_rfl) ?_; (repeat (first | go_big_quiet_step ((first | (go_at_call 31; exact nb_sameE (inRange _ _ _ _) (congrArg Value.bool g1)) | (go_at_call 31; exact nb_sameE (inRange _ _ _ _) (congrArg Value.bool g2)) | (go_at_call 49; exact nb_ofE (sNearer _ _ _ _ _) (congrArg Value.bool g3)))) | quiet_step ((first | (go_at_call 31; exact nb_sameE (inRange _ _ _ _) (congrArg Value.bool g1)) | (go_at_call 31; exact nb_sameE (inRange _ _ _ _) (congrArg Value.bool g2)) | (go_at_call 49; exact nb_ofE (sNearer _ _ _ _ _) (congrArg Value.bool g3)))))); (with_reducible refine wpQuiet_nil ?_); intro wq hw1; have hq := nb_out hw1; clear hw1)
              go_wp2
              go_loopw [4] (fun i wi => ∃ j : Nat, j ≤ k ∧ i = .int .i64 j ∧ Chg No wq wi ∧ Hid (((xs.take j).any fun y => decide (y.1 = x1)) = false)) (fun i _ => k - (intOf i).toNat)
              case atStart => exact ⟨0, Nat.zero_le _, rfl, Chg.refl _ _, rfl⟩
              case round =>
                obtain ⟨j, hj, rfl, hci, HN⟩ := hrel
                obtain ⟨wi, rfl⟩ : ∃ W : World, W = wr := ⟨_, rfl⟩
                by_cases hjk : j < k
                · obtain ⟨b', o', y, hA', _, _, hyj, hE'⟩ := (HX.out.no (Chg.no (Chg.no hc hq) hci)).at_ (k := j) (by omega)
                  obtain ⟨rfl, rfl⟩ : b = b' ∧ o = o' := by injection hA' with hA'; injection hA' with h1 h2; exact ⟨h1, h2⟩
                  obtain ⟨y1, y2⟩ := y
                  have hjn : j < n := by omega
                  have hF1 : wi.cell? ⟨b, o + j * 2, none⟩ = some (.int .i64 y1) := hE'.1
                  have hF2 : wi.cell? ⟨b, o + k * 2, none⟩ = some (.int .i64 x1) := cell_keep hci (cell_keep hq HE.out.1 (fun e => e)) (fun e => e)
                  have Hyj := hid hyj
                  clear hyj hE' hA'
                  by_cases he : y1 = x1
                  · have e1 : (y1 == x1) = true := by simp [he]
                    have HF := hid (show hitsB xs = false from hitsB_false_of Hlen.out (by rw [hitOk3_eq J.out]; simp only [Bool.not_eq_false']; rw [List.any_eq_true]; exact ⟨(y1, y2), List.mem_of_getElem? (by rw [List.getElem?_take, if_pos hjk]; exact Hyj.out), by simp [he]⟩))
                    clear he
                    go_wp2_with fail
                    go_quiet (fail)
                    go_wp2
                    go_ret
                    exact ⟨by rw [HF.out]; rfl, by (repeat (first | (with_reducible exact Chg.refl _ _) | ((with_reducible refine Chg.setNew ?_ _ ?_); rotate_left; first | (dsimp only; omega) | (simp; done) | (simp; omega)) | (with_reducible refine Chg.alloc ?_ _) | (with_reducible refine Chg.drew ?_) | (with_reducible refine Chg.drewN ?_ _) | (with_reducible refine Chg.no ?_ (by assumption)) | (with_reducible refine Chg.and_ ?_ (by assumption)) | ((with_reducible refine Chg.at_ ?_ (by assumption) ?_); rotate_left; (try simp only [World.size_alloc]); omega)))⟩
                  · have e1 : (y1 == x1) = false := by simp [he]
                    have HN2 := hid (show ((xs.take (j + 1)).any fun y => decide (y.1 = x1)) = false from by rw [take_snoc Hyj.out, List.any_append, HN.out]; simp [he])
                    clear he
                    go_wp2_with fail
                    go_quiet (fail)
                    go_wp2
                    go_roundw
                    case rel => exact ⟨j + 1, by omega, by go_num, by (repeat (first | (with_reducible exact Chg.refl _ _) | ((with_reducible refine Chg.setNew ?_ _ ?_); rotate_left; first | (dsimp only; omega) | (simp; done) | (simp; omega)) | (with_reducible refine Chg.alloc ?_ _) | (with_reducible refine Chg.drew ?_) | (with_reducible refine Chg.drewN ?_ _) | (with_reducible refine Chg.no ?_ (by assumption)) | (with_reducible refine Chg.and_ ?_ (by assumption)) | ((with_reducible refine Chg.at_ ?_ (by assumption) ?_); rotate_left; (try simp only [World.size_alloc]); omega))), HN2⟩
                    case measure => simp [intOf]; omega
                · have hjk' : j = k := by omega
                  subst hjk'
                  have HU2 := hid (show hitsUp xs (j + 1) = true from by rw [hitsUp_snoc, HU.out, hitOk3_eq J.out, HN.out]; rfl)
                  go_wp2
                  go_roundw
                  case rel => exact ⟨j + 1, by omega, by go_num, by (repeat (first | (with_reducible exact Chg.refl _ _) | ((with_reducible refine Chg.setNew ?_ _ ?_); rotate_left; first | (dsimp only; omega) | (simp; done) | (simp; omega)) | (with_reducible refine Chg.alloc ?_ _) | (with_reducible refine Chg.drew ?_) | (with_reducible refine Chg.drewN ?_ _) | (with_reducible refine Chg.no ?_ (by assumption)) | (with_reducible refine Chg.and_ ?_ (by assumption)) | ((with_reducible refine Chg.at_ ?_ (by assumption) ?_); rotate_left; (try simp only [World.size_alloc]); omega))), HU2⟩
                  case measure => simp [intOf]; omega
    · have hkn : k = n := by omega
      have hU := HU.out
      rw [hkn, ← HX.out.len] at hU
      have HF := hid (show hitsB xs = decide (n ≤ 16) from by rw [hitsB_of_up hU, HX.out.len])
      clear HU hU
      subst hkn
      go_wp2
      go_ret
      exact ⟨by rw [HF.out]; exact ret_bool (decide_eq_decide.2 (by omega)), by (repeat (first | (with_reducible exact Chg.refl _ _) | ((with_reducible refine Chg.setNew ?_ _ ?_); rotate_left; first | (dsimp only; omega) | (simp; done) | (simp; omega)) | (with_reducible refine Chg.alloc ?_ _) | (with_reducible refine Chg.drew ?_) | (with_reducible refine Chg.drewN ?_ _) | (with_reducible refine Chg.no ?_ (by assumption)) | (with_reducible refine Chg.and_ ?_ (by assumption)) | ((with_reducible refine Chg.at_ ?_ (by assumption) ?_); rotate_left; (try simp only [World.size_alloc]); omega)))⟩
set_option maxHeartbeats 1000000 in
theorem sHitAt (l0 h0 : Nat) (A : Option Addr) (n c : Nat) (xs : List (Int × Int)) (key : Int) (w : World) (hx : RHits w l0 h0 A n c xs) :
    Calls Try.prog 32 #[.slice A n c, .int .i64 key] w fun e w' => e = .returned (.int .i64 (hitAtF xs key)) ∧ w = w' := by
  have hnc := hx.le; have hcm := hx.cap
  have HX := hid hx
  clear hx
  go_enter Try.func32, Try.ntmps32
  go_wp2
  go_loop [5] (fun i => ∃ k : Nat, k ≤ n ∧ i = .int .i64 k ∧ Hid (∀ (j : Nat) (x : Int × Int), j < k → xs[j]? = some x → x.1 ≠ key)) (fun i => n - (intOf i).toNat)
  case atStart => exact ⟨0, Nat.zero_le _, rfl, fun j x hj => absurd hj (by omega)⟩
  case round =>
    obtain ⟨k, hk, rfl, HN⟩ := hrel
    by_cases hlt : k < n
    · obtain ⟨b, o, x, rfl, _, _, hxk, hE⟩ := HX.out.at_ hlt
      obtain ⟨x1, x2⟩ := x
      have hE1 : w.cell? ⟨b, o + k * 2, none⟩ = some (.int .i64 x1) := hE.1
      have Hxk := hid hxk
      clear hxk hE
      by_cases he : x1 = key
      · have e1 : (x1 == key) = true := by simp [he]
        have HF := hid (hitAtF_at Hxk.out he HN.out)
        clear he
        go_wp2
        go_ret
        exact ⟨by rw [HF.out]; rfl, rfl⟩
      · have e1 : (x1 == key) = false := by simp [he]
        have HN2 : Hid (∀ (j : Nat) (x : Int × Int), j < k + 1 → xs[j]? = some x → x.1 ≠ key) := fun j x hj hx => by
          by_cases hjk : j < k
          · exact HN.out j x hjk hx
          · obtain rfl : j = k := by omega
            rw [Hxk.out] at hx; injection hx with hx; subst hx; exact he
        clear he
        go_wp2
        go_round
        case rel => exact ⟨k + 1, by omega, by go_num, HN2⟩
        case measure => simp [intOf]; omega
    · have HF := hid (show hitAtF xs key = -1 from hitAtF_no (fun j x hx => HN.out j x (by have := (List.getElem?_eq_some_iff.1 hx).1; have := HX.out.len; omega) hx))
      go_wp2
      go_ret
      exact ⟨by rw [HF.out]; rfl, rfl⟩
theorem sRankScore (l0 h0 : Nat) (A : Option Addr) (n c : Nat) (xs : List (Int × Int)) (key : Int) (w : World) (hx : RHits w l0 h0 A n c xs) (hn : n ≤ 1000000) :
    Calls Try.prog 55 #[.slice A n c, .int .i64 key] w fun e w' => e = .returned (.int .i64 (rankF xs key)) ∧ w = w' := by
  have hb := hitAtF_lt xs key
  rw [hx.len] at hb
  obtain ⟨r, hr⟩ : ∃ r, hitAtF xs key = r := ⟨_, rfl⟩
  rw [hr] at hb
  have HR := hid hr
  have HX := hid hx
  have HF : Hid (rankF xs key = if r < 0 then 0 else 100000 / (60 + r + 1)) := by show rankF xs key = _; unfold rankF; rw [hr]
  clear hr hx
  have hcall := fun W (h : RHits W l0 h0 A n c xs) => (sHitAt l0 h0 A n c xs key W h)
  rw [HR.out] at hcall
  have HC := hid hcall
  clear hcall
  by_cases h0' : r < 0
  · have HF2 := HF.out
    rw [if_pos h0'] at HF2
    have HF3 := hid HF2
    clear HF2 HF
    go_enter Try.func55, Try.ntmps55
    go_wp2_with ((go_at_call 32; (with_reducible refine (HC.out _ HX.out).mono ?_); rintro e w' ⟨rfl, rfl⟩))
    go_ret
    exact ⟨by rw [HF3.out]; rfl, rfl⟩
  · have HF2 := HF.out
    rw [if_neg h0'] at HF2
    have HF3 := hid HF2
    clear HF2 HF
    have h0'' : 0 ≤ r := by omega
    go_enter Try.func55, Try.ntmps55
    go_wp2_with ((go_at_call 32; (with_reducible refine (HC.out _ HX.out).mono ?_); rintro e w' ⟨rfl, rfl⟩))
    go_ret
    exact ⟨by rw [HF3.out]; rfl, rfl⟩
end Go.Proofs.Ytofbjganahbekaa
