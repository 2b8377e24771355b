/- FnNearest: nearest items are near. No condition. -/
import Derived.Test.YtkglmhhihpofiaaLift
import Derived.Test.YtkglmhhihpofiaaDrawN
import Derived.Test.YtkglmhhihpofiaaNearK
import Derived.Test.YtkglmhhihpofiaaEqH
import Derived.Test.YtkglmhhihpofiaaHitsJ
import Derived.Test.YtkglmhhihpofiaaKeys
import Derived.Test.YtkglmhhihpofiaaEqI
import Derived.Deep.RegionHeld3
import Derived.Deep.RegionWith
import Derived.Deep.DeepCutAuto
namespace Go.Proofs.Ytkglmhhihpofiaa
open Go.ChangeShapes Go.WideShapes Go.ChangeAt Go.RowKit Go.Shelf
set_option linter.unusedVariables false
set_option linter.unusedSimpArgs false
namespace lawNearest
set_option maxRecDepth 100000 in
set_option maxHeartbeats 8000000 in
theorem walk (A : Option Addr) (n c : Nat) (w : World) (hC : Code w w.heap.size A n c) : Calls Try.prog 7 #[.slice A n c] w fun e w' => e = .returned (.bool true) ∧ Chg No w w' := by
  have hn1 := hC.1
  have hn2 := hC.2.1
  by_cases hbig : 1048576 < n
  · skip
    go_enter Try.func7, Try.ntmps7
    go_wp2
    go_ret
    exact ⟨rfl, Chg.refl _ _⟩
  · skip
    have hbig' : n ≤ 1048576 := by omega
    go_enter Try.func7, Try.ntmps7
    (go_wp2_with fail; (with_reducible refine (drawNearest A n c _ hC).mono ?_); rintro e w1 ⟨v1, xs, kind, AV, nv, cv, at_, k, rfl, ho1, hl1, hrv, hnv, hkd, hk9, hc1⟩)
    obtain ⟨A1, c1, rfl, hr1⟩ := OItems.read ho1
    have hm1 := hr1.cap; have hk1 := hr1.le; have hm2 := hrv.cap; have hk2 := hrv.le
    have HX := hid hr1; have HY := hid hrv
    have hkd0 := hkd.1; have hkd5 := hkd.2; have hk0 := hk9.1; have hk17 := hk9.2
    have s1 := hc1.size
    clear ho1 hr1 hrv hkd hk9
    obtain ⟨L, hL⟩ : ∃ L, NearestF xs kind at_ k = L := ⟨_, rfl⟩
    have KS := hid (fun W (h : Chg No w1 W) => sNEAREST _ _ _ _ _ xs _ _ _ _ _ at_ kind k W (HX.out.no h) (HY.out.no h))
    have KI := hid (fun W (h : Chg No w1 W) => iNEAREST _ _ _ _ _ xs _ _ _ _ _ at_ kind k W (HX.out.no h) (HY.out.no h))
    rw [hL] at KS KI
    have HL := hid hL
    clear hL
    (go_wp2_with fail; (with_reducible refine (KI.out _ (Chg.refl _ _)).mono ?_); rintro e w2 ⟨v2, rfl, ho2, hc2⟩)
    obtain ⟨A2, c2, rfl, hr2⟩ := OHits.read ho2
    have hp2 := hr2.cap; have hl2 := hr2.le
    have R2 := hid hr2
    have s2 := hc2.size
    clear ho2 hr2
    (go_wp2_with fail; (with_reducible refine (KS.out _ hc2).mono ?_); rintro e w3 ⟨v3, rfl, ho3, hc3⟩)
    obtain ⟨A3, c3, rfl, hr3⟩ := OHits.read ho3
    have hp3 := hr3.cap; have hl3 := hr3.le
    have R3 := hid hr3
    have s3 := hc3.size
    clear ho3 hr3
    have q3 : Chg No w1 w3 := hc2.no hc3
    (go_wp2_with fail; (with_reducible refine (equalHits _ _ _ _ _ _ _ _ _ L _ (R2.out.no hc3) R3.out).mono ?_); rintro e w4 ⟨rfl, hc4⟩)
    have q4 : Chg No w1 w4 := q3.no hc4
    have r4 : Chg No w2 w4 := hc3.no hc4
    have s4 := hc4.size
    clear R3
    by_cases hL0 : L.length = 0
    · have e0 : ((L.length : Int) == 0) = true := by simp; exact List.eq_nil_of_length_eq_zero hL0
      clear hL0
      (go_wp2_with fail; (with_reducible refine (KS.out _ q4).mono ?_); rintro e w8 ⟨v8, rfl, ho8, hc8⟩)
      obtain ⟨A8, c8, rfl, hr8⟩ := OHits.read ho8
      have hp8 := hr8.cap; have hl8 := hr8.le
      have R8 := hid hr8
      have s8 := hc8.size
      clear ho8 hr8
      (go_wp2_with fail; (with_reducible refine (equalHits _ _ _ _ _ _ _ _ _ L _ (R2.out.no (r4.no hc8)) R8.out).mono ?_); rintro e w9 ⟨rfl, hc9⟩)
      go_wp2
      go_ret
      exact ⟨rfl, hc1.no ((q4.no hc8).no hc9)⟩
    · have e0 : ((L.length : Int) == 0) = false := by simp; intro h; subst h; simp at hL0
      have hLpos : 0 < L.length := by omega
      have HE0 := hid e0
      clear hL0
      have hcan : canB xs kind at_ k = true := by
        cases h : canB xs kind at_ k with
        | true => rfl
        | false => have h9 := HL.out; rw [NearestF_no h] at h9; rw [← h9] at hLpos; simp at hLpos
      obtain ⟨hCn, hkk1, hkk16⟩ := canB_can hcan
      have HLn := hid (show nearestF xs kind at_ k = L from by rw [← NearestF_ok hcan]; exact HL.out)
      have HCN := hid hCn
      have hok : HitsOk L := by rw [← HLn.out]; exact near_ok hCn.store hCn.vec
      have hL16 : L.length ≤ 16 := hok.len
      have hx16 : xs.length ≤ 16 := storeB_len hCn.store
      have KV := hid (fun W (h : RHits W w1.heap.size w2.heap.size A2 L.length c2 L) => iVALIDHits _ _ _ _ _ L W h)
      rw [hok.b] at KV
      have hlen : L.length = min k.toNat xs.length := by rw [← HLn.out, nearestF_length]
      have e9 : ((L.length : Int) == min k (xs.length : Int)) = true := by simp only [beq_iff_eq]; omega
      obtain ⟨bb, oo, t, rfl, _, _, htk, hE⟩ := (R2.out.no r4).at_ (k := L.length - 1) (by omega)
      obtain ⟨t1, t2⟩ := t
      have hE1 : w4.cell? ⟨bb, oo + (L.length - 1) * 2, none⟩ = some (.int .i64 t1) := hE.1
      have hE2 : w4.cell? ⟨bb, oo + (L.length - 1) * 2 + 1, none⟩ = some (.int .i64 t2) := hE.2
      have i1 : (1 : Int) ≤ L.length := by omega
      have i2 : ((L.length : Int) - 1).toNat = L.length - 1 := by omega
      have i3 : (L.length : Int) - 1 < L.length := by omega
      have HIN := hid (fun z (hz : z ∈ xs) => near_in (kind := kind) (k := k) (at_ := at_) hCn.store hCn.vec (m := L.length - 1) (last := (t1, t2)) (by rw [HLn.out]; omega) (by rw [HLn.out]; exact htk) hz)
      rw [HLn.out] at HIN
      obtain ⟨T, hT⟩ : ∃ T, L.map Prod.fst = T := ⟨_, rfl⟩
      rw [hT] at HIN
      have BL := hid (Box.new (w := w4) [.int .i64 t1, .int .i64 t2] 51 rfl)
      have h45 : Chg No w4 (w4.alloc (.cells #[.int .i64 t1, .int .i64 t2] 51)) := (Chg.refl No w4).alloc _
      obtain ⟨w5, hw5⟩ : ∃ W, w4.alloc (.cells #[.int .i64 t1, .int .i64 t2] 51) = W := ⟨_, rfl⟩
      have BL5 := hid (show Box w5 w4.heap.size [.int .i64 t1, .int .i64 t2] from by rw [← hw5]; exact BL.out)
      rw [hw5] at h45
      have r5 : Chg No w2 w5 := r4.no h45
      have q5 : Chg No w1 w5 := q4.no h45
      have KK0 := hid (fun W (h : Chg No w5 W) => keysL _ _ _ _ _ L W (R2.out.no (r5.no h)) (by omega))
      rw [hT] at KK0
      have hD0 := fun W (h : Chg No w1 W) => HY.out.no h
      have HDY := hid hD0
      clear hlen hcan HLn htk hE hT BL hok KI KS HL hD0 hCn
      go_wp2
      go_loopw [9, 10, 11] (fun i s10 s11 wr => ∃ j : Nat, j ≤ xs.length ∧ i = .int .i64 j ∧ Chg No w5 wr) (fun i _ _ _ => xs.length - (intOf i).toNat)
      case atStart => exact ⟨0, Nat.zero_le _, rfl, by first | exact Chg.refl _ _ | (rw [← hw5]; exact Chg.refl _ _)⟩
      case round =>
        obtain ⟨j, hj, rfl, hc⟩ := hrel
        obtain ⟨wo, rfl⟩ : ∃ W : World, W = wr := ⟨_, rfl⟩
        by_cases hlt : j < xs.length
        · obtain ⟨b, o, z, rfl, _, _, hzk, hE⟩ := (HX.out.no (q5.no hc)).at_ hlt
          obtain ⟨zk, zv, zt⟩ := z
          obtain ⟨hE1, ⟨A9, n9, c9, hE2, hv⟩, hE3⟩ := hE
          have f1 : wo.cell? ⟨b, o + j * 3, none⟩ = some (.int .i64 zk) := hE1
          have f2 : wo.cell? ⟨b, o + j * 3 + 1, none⟩ = some (.slice A9 n9 c9) := hE2
          have F1 := hid f1; have F2 := hid f2
          have hzm := List.mem_of_getElem? hzk
          have HZV := hid (HCN.out.each _ hzm)
          have hIN := HIN.out _ hzm
          simp only [] at hIN
          have HV := hid hv
          have KD := hid (fun W (h : Chg No wo W) => iDISTANCE _ _ _ _ _ _ _ _ _ _ zv at_ kind W (HV.out.no h) (HDY.out W ((q5.no hc).no h)) HZV.out HCN.out.vec HCN.out.kind1 HCN.out.kind4)
          obtain ⟨dd, hdd⟩ : ∃ dd, distF kind zv at_ = dd := ⟨_, rfl⟩
          rw [hdd] at KD hIN
          clear hdd hE1 hE2 hE3 hv hzk hzm
          (go_wp2_with fail; (with_reducible refine (KD.out _ (Chg.refl _ _)).mono ?_); rintro e w6' ⟨rfl, hc6'⟩)
          have hB6 := (BL5.out.no (hc.no hc6'))
          have g3 : ∀ p : NB w6', p.wd.cell? ⟨w4.heap.size, 0, none⟩ = some (.int .i64 t1) := nb_cell (hB6.cell 0)
          have g4 : ∀ p : NB w6', p.wd.cell? ⟨w4.heap.size, 1, none⟩ = some (.int .i64 t2) := nb_cell (hB6.cell 1)
          have g5 : ∀ p : NB w6', p.wd.cell? ⟨b, o + j * 3, none⟩ = some (.int .i64 zk) := nb_cell (cell_keep hc6' f1 (fun e => e))
          clear f1 f2 hB6
          by_cases a1 : dd < t2
          · have d1 : decide (dd < t2) = true := decide_eq_true a1
            have hbb : decide (zk ∈ T) = true := decide_eq_true (hIN.2 (Or.inl a1))
            clear hIN
            go_wp2_with fail
            (refine wp_region_nb (by kernel_rfl) (by kernel_rfl) ?_; (repeat (first | go_big_quiet_step (fail) | quiet_step (fail))); (with_reducible refine wpQuiet_nil ?_); intro wq hw1; have hq := nb_out hw1; clear hw1)
            have hqA := hq
            clear hq
            obtain ⟨wA, rfl⟩ : ∃ W : World, W = wq := ⟨_, rfl⟩
            have hcA : Chg No w5 wA := (hc.no hc6').no hqA
            have KK := hid (fun W (h : Chg No wA W) => KK0.out W (hcA.no h))
            have f1 : wA.cell? ⟨b, o + j * 3, none⟩ = some (.int .i64 zk) := cell_keep (hc6'.no hqA) F1.out (fun e => e)
            have f2 : wA.cell? ⟨b, o + j * 3 + 1, none⟩ = some (.slice A9 n9 c9) := cell_keep (hc6'.no hqA) F2.out (fun e => e)
            clear g3 g4 g5
            go_wp2_with fail
            first | (go_region_with (first | (go_at_call 33; (with_reducible refine (KK.out _ (by (repeat (first | (with_reducible exact Chg.refl _ _) | ((with_reducible refine Chg.setNew ?_ _ ?_); rotate_left; first | (dsimp only; omega) | (simp; done) | (simp; omega)) | (with_reducible refine Chg.alloc ?_ _) | (with_reducible refine Chg.drew ?_) | (with_reducible refine Chg.drewN ?_ _) | (with_reducible refine Chg.no ?_ (by assumption)) | (with_reducible refine Chg.and_ ?_ (by assumption)) | ((with_reducible refine Chg.at_ ?_ (by assumption) ?_); rotate_left; (try simp only [World.size_alloc]); omega))))).mono ?_); rintro e w6 ⟨v6, rfl, ho6, hc6⟩; obtain ⟨A6, c6, rfl, hr6⟩ := OInts.read ho6; have hp6 := hr6.cap; have hl6 := hr6.le; have g1 := cell_keep (S := No) (w := wA) (w' := w6) (by (repeat (first | (with_reducible exact Chg.refl _ _) | ((with_reducible refine Chg.setNew ?_ _ ?_); rotate_left; first | (dsimp only; omega) | (simp; done) | (simp; omega)) | (with_reducible refine Chg.alloc ?_ _) | (with_reducible refine Chg.drew ?_) | (with_reducible refine Chg.drewN ?_ _) | (with_reducible refine Chg.no ?_ (by assumption)) | (with_reducible refine Chg.and_ ?_ (by assumption)) | ((with_reducible refine Chg.at_ ?_ (by assumption) ?_); rotate_left; (try simp only [World.size_alloc]); omega)))) f1 (fun e => e); have g2 := cell_keep (S := No) (w := wA) (w' := w6) (by (repeat (first | (with_reducible exact Chg.refl _ _) | ((with_reducible refine Chg.setNew ?_ _ ?_); rotate_left; first | (dsimp only; omega) | (simp; done) | (simp; omega)) | (with_reducible refine Chg.alloc ?_ _) | (with_reducible refine Chg.drew ?_) | (with_reducible refine Chg.drewN ?_ _) | (with_reducible refine Chg.no ?_ (by assumption)) | (with_reducible refine Chg.and_ ?_ (by assumption)) | ((with_reducible refine Chg.at_ ?_ (by assumption) ?_); rotate_left; (try simp only [World.size_alloc]); omega)))) f2 (fun e => e); have KN := hid (fun W (h : Chg No w6 W) => isInL _ _ A6 T.length c6 T zk W (hr6.no h)); rw [hbb] at KN) | (go_at_call 32; (with_reducible refine (KN.out _ (by (repeat (first | (with_reducible exact Chg.refl _ _) | ((with_reducible refine Chg.setNew ?_ _ ?_); rotate_left; first | (dsimp only; omega) | (simp; done) | (simp; omega)) | (with_reducible refine Chg.alloc ?_ _) | (with_reducible refine Chg.drew ?_) | (with_reducible refine Chg.drewN ?_ _) | (with_reducible refine Chg.no ?_ (by assumption)) | (with_reducible refine Chg.and_ ?_ (by assumption)) | ((with_reducible refine Chg.at_ ?_ (by assumption) ?_); rotate_left; (try simp only [World.size_alloc]); omega))))).mono ?_); rintro e w7 ⟨rfl, rfl⟩))) | fail
            all_goals
              go_wp2
              go_roundw
              case rel => exact ⟨j + 1, by omega, by go_num, by (repeat (first | (with_reducible exact Chg.refl _ _) | ((with_reducible refine Chg.setNew ?_ _ ?_); rotate_left; first | (dsimp only; omega) | (simp; done) | (simp; omega)) | (with_reducible refine Chg.alloc ?_ _) | (with_reducible refine Chg.drew ?_) | (with_reducible refine Chg.drewN ?_ _) | (with_reducible refine Chg.no ?_ (by assumption)) | (with_reducible refine Chg.and_ ?_ (by assumption)) | ((with_reducible refine Chg.at_ ?_ (by assumption) ?_); rotate_left; (try simp only [World.size_alloc]); omega)))⟩
              case measure => simp [intOf]; omega
          · have d1 : decide (dd < t2) = false := decide_eq_false a1
            by_cases a2 : dd = t2
            · have d2 : (dd == t2) = true := by simp [a2]
              by_cases a3 : zk ≤ t1
              · have d3 : decide (zk ≤ t1) = true := decide_eq_true a3
                have hbb : decide (zk ∈ T) = true := decide_eq_true (hIN.2 (Or.inr ⟨a2, a3⟩))
                clear hIN a2
                go_wp2_with fail
                (refine wp_region_nb (by kernel_rfl) (by kernel_rfl) ?_; (repeat (first | go_big_quiet_step (fail) | quiet_step (fail))); (with_reducible refine wpQuiet_nil ?_); intro wq hw1; have hq := nb_out hw1; clear hw1)
                have hqA := hq
                clear hq
                obtain ⟨wA, rfl⟩ : ∃ W : World, W = wq := ⟨_, rfl⟩
                have hcA : Chg No w5 wA := (hc.no hc6').no hqA
                have KK := hid (fun W (h : Chg No wA W) => KK0.out W (hcA.no h))
                have f1 : wA.cell? ⟨b, o + j * 3, none⟩ = some (.int .i64 zk) := cell_keep (hc6'.no hqA) F1.out (fun e => e)
                have f2 : wA.cell? ⟨b, o + j * 3 + 1, none⟩ = some (.slice A9 n9 c9) := cell_keep (hc6'.no hqA) F2.out (fun e => e)
                clear g3 g4 g5
                go_wp2_with fail
                first | (go_region_with (first | (go_at_call 33; (with_reducible refine (KK.out _ (by (repeat (first | (with_reducible exact Chg.refl _ _) | ((with_reducible refine Chg.setNew ?_ _ ?_); rotate_left; first | (dsimp only; omega) | (simp; done) | (simp; omega)) | (with_reducible refine Chg.alloc ?_ _) | (with_reducible refine Chg.drew ?_) | (with_reducible refine Chg.drewN ?_ _) | (with_reducible refine Chg.no ?_ (by assumption)) | (with_reducible refine Chg.and_ ?_ (by assumption)) | ((with_reducible refine Chg.at_ ?_ (by assumption) ?_); rotate_left; (try simp only [World.size_alloc]); omega))))).mono ?_); rintro e w6 ⟨v6, rfl, ho6, hc6⟩; obtain ⟨A6, c6, rfl, hr6⟩ := OInts.read ho6; have hp6 := hr6.cap; have hl6 := hr6.le; have g1 := cell_keep (S := No) (w := wA) (w' := w6) (by (repeat (first | (with_reducible exact Chg.refl _ _) | ((with_reducible refine Chg.setNew ?_ _ ?_); rotate_left; first | (dsimp only; omega) | (simp; done) | (simp; omega)) | (with_reducible refine Chg.alloc ?_ _) | (with_reducible refine Chg.drew ?_) | (with_reducible refine Chg.drewN ?_ _) | (with_reducible refine Chg.no ?_ (by assumption)) | (with_reducible refine Chg.and_ ?_ (by assumption)) | ((with_reducible refine Chg.at_ ?_ (by assumption) ?_); rotate_left; (try simp only [World.size_alloc]); omega)))) f1 (fun e => e); have g2 := cell_keep (S := No) (w := wA) (w' := w6) (by (repeat (first | (with_reducible exact Chg.refl _ _) | ((with_reducible refine Chg.setNew ?_ _ ?_); rotate_left; first | (dsimp only; omega) | (simp; done) | (simp; omega)) | (with_reducible refine Chg.alloc ?_ _) | (with_reducible refine Chg.drew ?_) | (with_reducible refine Chg.drewN ?_ _) | (with_reducible refine Chg.no ?_ (by assumption)) | (with_reducible refine Chg.and_ ?_ (by assumption)) | ((with_reducible refine Chg.at_ ?_ (by assumption) ?_); rotate_left; (try simp only [World.size_alloc]); omega)))) f2 (fun e => e); have KN := hid (fun W (h : Chg No w6 W) => isInL _ _ A6 T.length c6 T zk W (hr6.no h)); rw [hbb] at KN) | (go_at_call 32; (with_reducible refine (KN.out _ (by (repeat (first | (with_reducible exact Chg.refl _ _) | ((with_reducible refine Chg.setNew ?_ _ ?_); rotate_left; first | (dsimp only; omega) | (simp; done) | (simp; omega)) | (with_reducible refine Chg.alloc ?_ _) | (with_reducible refine Chg.drew ?_) | (with_reducible refine Chg.drewN ?_ _) | (with_reducible refine Chg.no ?_ (by assumption)) | (with_reducible refine Chg.and_ ?_ (by assumption)) | ((with_reducible refine Chg.at_ ?_ (by assumption) ?_); rotate_left; (try simp only [World.size_alloc]); omega))))).mono ?_); rintro e w7 ⟨rfl, rfl⟩))) | fail
                all_goals
                  go_wp2
                  go_roundw
                  case rel => exact ⟨j + 1, by omega, by go_num, by (repeat (first | (with_reducible exact Chg.refl _ _) | ((with_reducible refine Chg.setNew ?_ _ ?_); rotate_left; first | (dsimp only; omega) | (simp; done) | (simp; omega)) | (with_reducible refine Chg.alloc ?_ _) | (with_reducible refine Chg.drew ?_) | (with_reducible refine Chg.drewN ?_ _) | (with_reducible refine Chg.no ?_ (by assumption)) | (with_reducible refine Chg.and_ ?_ (by assumption)) | ((with_reducible refine Chg.at_ ?_ (by assumption) ?_); rotate_left; (try simp only [World.size_alloc]); omega)))⟩
                  case measure => simp [intOf]; omega
              · have d3 : decide (zk ≤ t1) = false := decide_eq_false a3
                have hbb : decide (zk ∈ T) = false := decide_eq_false (fun h => by have := hIN.1 h; omega)
                clear hIN a2
                go_wp2_with fail
                (refine wp_region_nb (by kernel_rfl) (by kernel_rfl) ?_; (repeat (first | go_big_quiet_step (fail) | quiet_step (fail))); (with_reducible refine wpQuiet_nil ?_); intro wq hw1; have hq := nb_out hw1; clear hw1)
                have hqA := hq
                clear hq
                obtain ⟨wA, rfl⟩ : ∃ W : World, W = wq := ⟨_, rfl⟩
                have hcA : Chg No w5 wA := (hc.no hc6').no hqA
                have KK := hid (fun W (h : Chg No wA W) => KK0.out W (hcA.no h))
                have f1 : wA.cell? ⟨b, o + j * 3, none⟩ = some (.int .i64 zk) := cell_keep (hc6'.no hqA) F1.out (fun e => e)
                have f2 : wA.cell? ⟨b, o + j * 3 + 1, none⟩ = some (.slice A9 n9 c9) := cell_keep (hc6'.no hqA) F2.out (fun e => e)
                clear g3 g4 g5
                go_wp2_with fail
                first | (go_region_with (first | (go_at_call 33; (with_reducible refine (KK.out _ (by (repeat (first | (with_reducible exact Chg.refl _ _) | ((with_reducible refine Chg.setNew ?_ _ ?_); rotate_left; first | (dsimp only; omega) | (simp; done) | (simp; omega)) | (with_reducible refine Chg.alloc ?_ _) | (with_reducible refine Chg.drew ?_) | (with_reducible refine Chg.drewN ?_ _) | (with_reducible refine Chg.no ?_ (by assumption)) | (with_reducible refine Chg.and_ ?_ (by assumption)) | ((with_reducible refine Chg.at_ ?_ (by assumption) ?_); rotate_left; (try simp only [World.size_alloc]); omega))))).mono ?_); rintro e w6 ⟨v6, rfl, ho6, hc6⟩; obtain ⟨A6, c6, rfl, hr6⟩ := OInts.read ho6; have hp6 := hr6.cap; have hl6 := hr6.le; have g1 := cell_keep (S := No) (w := wA) (w' := w6) (by (repeat (first | (with_reducible exact Chg.refl _ _) | ((with_reducible refine Chg.setNew ?_ _ ?_); rotate_left; first | (dsimp only; omega) | (simp; done) | (simp; omega)) | (with_reducible refine Chg.alloc ?_ _) | (with_reducible refine Chg.drew ?_) | (with_reducible refine Chg.drewN ?_ _) | (with_reducible refine Chg.no ?_ (by assumption)) | (with_reducible refine Chg.and_ ?_ (by assumption)) | ((with_reducible refine Chg.at_ ?_ (by assumption) ?_); rotate_left; (try simp only [World.size_alloc]); omega)))) f1 (fun e => e); have g2 := cell_keep (S := No) (w := wA) (w' := w6) (by (repeat (first | (with_reducible exact Chg.refl _ _) | ((with_reducible refine Chg.setNew ?_ _ ?_); rotate_left; first | (dsimp only; omega) | (simp; done) | (simp; omega)) | (with_reducible refine Chg.alloc ?_ _) | (with_reducible refine Chg.drew ?_) | (with_reducible refine Chg.drewN ?_ _) | (with_reducible refine Chg.no ?_ (by assumption)) | (with_reducible refine Chg.and_ ?_ (by assumption)) | ((with_reducible refine Chg.at_ ?_ (by assumption) ?_); rotate_left; (try simp only [World.size_alloc]); omega)))) f2 (fun e => e); have KN := hid (fun W (h : Chg No w6 W) => isInL _ _ A6 T.length c6 T zk W (hr6.no h)); rw [hbb] at KN) | (go_at_call 32; (with_reducible refine (KN.out _ (by (repeat (first | (with_reducible exact Chg.refl _ _) | ((with_reducible refine Chg.setNew ?_ _ ?_); rotate_left; first | (dsimp only; omega) | (simp; done) | (simp; omega)) | (with_reducible refine Chg.alloc ?_ _) | (with_reducible refine Chg.drew ?_) | (with_reducible refine Chg.drewN ?_ _) | (with_reducible refine Chg.no ?_ (by assumption)) | (with_reducible refine Chg.and_ ?_ (by assumption)) | ((with_reducible refine Chg.at_ ?_ (by assumption) ?_); rotate_left; (try simp only [World.size_alloc]); omega))))).mono ?_); rintro e w7 ⟨rfl, rfl⟩))) | fail
                all_goals
                  go_wp2
                  go_roundw
                  case rel => exact ⟨j + 1, by omega, by go_num, by (repeat (first | (with_reducible exact Chg.refl _ _) | ((with_reducible refine Chg.setNew ?_ _ ?_); rotate_left; first | (dsimp only; omega) | (simp; done) | (simp; omega)) | (with_reducible refine Chg.alloc ?_ _) | (with_reducible refine Chg.drew ?_) | (with_reducible refine Chg.drewN ?_ _) | (with_reducible refine Chg.no ?_ (by assumption)) | (with_reducible refine Chg.and_ ?_ (by assumption)) | ((with_reducible refine Chg.at_ ?_ (by assumption) ?_); rotate_left; (try simp only [World.size_alloc]); omega)))⟩
                  case measure => simp [intOf]; omega
            · have d2 : (dd == t2) = false := by simp [a2]
              have hbb : decide (zk ∈ T) = false := decide_eq_false (fun h => by have := hIN.1 h; omega)
              clear hIN a2
              go_wp2_with fail
              (refine wp_region_nb (by kernel_rfl) (by kernel_rfl) ?_; (repeat (first | go_big_quiet_step (fail) | quiet_step (fail))); (with_reducible refine wpQuiet_nil ?_); intro wq hw1; have hq := nb_out hw1; clear hw1)
              have hqA := hq
              clear hq
              obtain ⟨wA, rfl⟩ : ∃ W : World, W = wq := ⟨_, rfl⟩
              have hcA : Chg No w5 wA := (hc.no hc6').no hqA
              have KK := hid (fun W (h : Chg No wA W) => KK0.out W (hcA.no h))
              have f1 : wA.cell? ⟨b, o + j * 3, none⟩ = some (.int .i64 zk) := cell_keep (hc6'.no hqA) F1.out (fun e => e)
              have f2 : wA.cell? ⟨b, o + j * 3 + 1, none⟩ = some (.slice A9 n9 c9) := cell_keep (hc6'.no hqA) F2.out (fun e => e)
              clear g3 g4 g5
              go_wp2_with fail
              first | (go_region_with (first | (go_at_call 33; (with_reducible refine (KK.out _ (by (repeat (first | (with_reducible exact Chg.refl _ _) | ((with_reducible refine Chg.setNew ?_ _ ?_); rotate_left; first | (dsimp only; omega) | (simp; done) | (simp; omega)) | (with_reducible refine Chg.alloc ?_ _) | (with_reducible refine Chg.drew ?_) | (with_reducible refine Chg.drewN ?_ _) | (with_reducible refine Chg.no ?_ (by assumption)) | (with_reducible refine Chg.and_ ?_ (by assumption)) | ((with_reducible refine Chg.at_ ?_ (by assumption) ?_); rotate_left; (try simp only [World.size_alloc]); omega))))).mono ?_); rintro e w6 ⟨v6, rfl, ho6, hc6⟩; obtain ⟨A6, c6, rfl, hr6⟩ := OInts.read ho6; have hp6 := hr6.cap; have hl6 := hr6.le; have g1 := cell_keep (S := No) (w := wA) (w' := w6) (by (repeat (first | (with_reducible exact Chg.refl _ _) | ((with_reducible refine Chg.setNew ?_ _ ?_); rotate_left; first | (dsimp only; omega) | (simp; done) | (simp; omega)) | (with_reducible refine Chg.alloc ?_ _) | (with_reducible refine Chg.drew ?_) | (with_reducible refine Chg.drewN ?_ _) | (with_reducible refine Chg.no ?_ (by assumption)) | (with_reducible refine Chg.and_ ?_ (by assumption)) | ((with_reducible refine Chg.at_ ?_ (by assumption) ?_); rotate_left; (try simp only [World.size_alloc]); omega)))) f1 (fun e => e); have g2 := cell_keep (S := No) (w := wA) (w' := w6) (by (repeat (first | (with_reducible exact Chg.refl _ _) | ((with_reducible refine Chg.setNew ?_ _ ?_); rotate_left; first | (dsimp only; omega) | (simp; done) | (simp; omega)) | (with_reducible refine Chg.alloc ?_ _) | (with_reducible refine Chg.drew ?_) | (with_reducible refine Chg.drewN ?_ _) | (with_reducible refine Chg.no ?_ (by assumption)) | (with_reducible refine Chg.and_ ?_ (by assumption)) | ((with_reducible refine Chg.at_ ?_ (by assumption) ?_); rotate_left; (try simp only [World.size_alloc]); omega)))) f2 (fun e => e); have KN := hid (fun W (h : Chg No w6 W) => isInL _ _ A6 T.length c6 T zk W (hr6.no h)); rw [hbb] at KN) | (go_at_call 32; (with_reducible refine (KN.out _ (by (repeat (first | (with_reducible exact Chg.refl _ _) | ((with_reducible refine Chg.setNew ?_ _ ?_); rotate_left; first | (dsimp only; omega) | (simp; done) | (simp; omega)) | (with_reducible refine Chg.alloc ?_ _) | (with_reducible refine Chg.drew ?_) | (with_reducible refine Chg.drewN ?_ _) | (with_reducible refine Chg.no ?_ (by assumption)) | (with_reducible refine Chg.and_ ?_ (by assumption)) | ((with_reducible refine Chg.at_ ?_ (by assumption) ?_); rotate_left; (try simp only [World.size_alloc]); omega))))).mono ?_); rintro e w7 ⟨rfl, rfl⟩))) | fail
              all_goals
                go_wp2
                go_roundw
                case rel => exact ⟨j + 1, by omega, by go_num, by (repeat (first | (with_reducible exact Chg.refl _ _) | ((with_reducible refine Chg.setNew ?_ _ ?_); rotate_left; first | (dsimp only; omega) | (simp; done) | (simp; omega)) | (with_reducible refine Chg.alloc ?_ _) | (with_reducible refine Chg.drew ?_) | (with_reducible refine Chg.drewN ?_ _) | (with_reducible refine Chg.no ?_ (by assumption)) | (with_reducible refine Chg.and_ ?_ (by assumption)) | ((with_reducible refine Chg.at_ ?_ (by assumption) ?_); rotate_left; (try simp only [World.size_alloc]); omega)))⟩
                case measure => simp [intOf]; omega
        · (go_wp2_with fail; (with_reducible refine (KV.out _ (R2.out.no (r5.no hc))).mono ?_); rintro e w8 ⟨rfl, hc8⟩)
          go_wp2
          go_ret
          exact ⟨rfl, hc1.no ((q5.no hc).no hc8)⟩

set_option maxRecDepth 100000 in
theorem lifted (os : Os) (started : os.Started) (H : Type) (enc : TypeId × Value → H) :
    ReturnsInHanded {} Try.checked os 7 .any (Rows.fnNearestSpec.pre6 enc Try.prog Try.f7 Rows.fnNearestRow.domain false) (Rows.fnNearestSpec.post enc Try.prog Try.f7 false true false false) := by
  refine returnsInHanded_of_change (C := Try.checked) own started (by kernel_rfl) Try.func7
    (ChangeSpec.witness6 (enc := enc) (C := Try.checked) false ⟨#[], #[.slice none 0 0], []⟩ 8 (by kernel_rfl) (by kernel_rfl) (by kernel_rfl) (by kernel_rfl)) ?_
  intro W base args ds gs before hval0 hW hcnd _
  have hval : ∀ (j : Nat) t v, Try.f7.params[j]? = some t → args[j]? = some v → Value.okWide Try.prog W .any base t v := hval0
  have hW' := hW
  obtain ⟨p, q, hA0, hV, rfl, hfz, hnd⟩ := hW
  have hA : DataW.TrodAll enc Try.prog W 0 (fun _ => true) true Try.f7.params.toList args.toList ds p := hA0
  rw [Try.params7] at hA hval
  obtain ⟨v0, vs0, d0, ds0, p0, q0, hargs, rfl, rfl, h0, r0⟩ := trodAll_cons hA
  obtain ⟨rfl, rfl, rfl⟩ := trodAll_nil r0
  obtain rfl : args = #[v0] := by cases args; simp_all
  obtain ⟨rfl, rfl⟩ := trodVars_none hV
  obtain ⟨a0, len0, cap0, rfl⟩ := okWide_slice Try.underlying22 (hval 0 22 v0 rfl rfl)
  have k0 := h0
  have lt0 : ∀ x ∈ p0, x.block < W.heap.size := by obtain ⟨m, hm⟩ := k0; exact DataW.trod_lt m _ _ _ hm
  have w0 : Code W W.heap.size a0 len0 cap0 := by
    obtain ⟨fuel, hf⟩ := h0
    rcases open_ints Try.underlying22 Try.underlying5 (by kernel_rfl) hf with ⟨hcs, _⟩ | ⟨x, l, c, zs, hcs, _, hl, hm, hz, _, hcell, hwz⟩
    · simp [Value.cells] at hcs
      obtain ⟨rfl, rfl, rfl⟩ := hcs
      exact code_nil _
    · simp [Value.cells] at hcs
      obtain ⟨rfl, rfl, rfl⟩ := hcs
      exact code_row hl hm (by simpa using hz) hcell hwz
  clear hA0 hval0
  refine (walk a0 len0 cap0 W w0).mono fun e W' ⟨he, bel0⟩ => ?_
  have bel := bel0.below
  subst he
  exact ⟨_, rfl, _, _, _, [], _, [], hW', trodAll_mk1 (shut_bool Try.underlying4 _), (trodAll_cons_mk (Below.trod laidOut (by kernel_rfl) (of_decide_eq_true (by kernel_rfl)) k0 bel lt0) trodAll_mk0), rfl, bel.frame _, fun h => by cases h⟩

theorem over : Rows.fnNearestRow.holds Try.pinned (OpenSpec.ofChange Rows.fnNearestSpec) :=
  OpenClaim.holds_of_wide 7 Try.f7 rfl rfl rfl rfl rfl rfl rfl ⟨rfl, rfl, rfl, rfl, rfl⟩ rfl rfl rfl rfl rfl (by kernel_rfl) Try.func7 (by kernel_rfl)
    (of_decide_eq_true (by kernel_rfl)) (by unfold Func.isWrapper; first | (rw [if_pos (by decide +kernel)]; kernel_rfl) | (rw [if_neg (by decide +kernel)]; exact ⟨rfl, rfl⟩))
    (fun os started H enc _ => lifted os started H enc)

theorem proved : Rows.FnNearestSaid := over
#print axioms proved

end lawNearest
end Go.Proofs.Ytkglmhhihpofiaa
