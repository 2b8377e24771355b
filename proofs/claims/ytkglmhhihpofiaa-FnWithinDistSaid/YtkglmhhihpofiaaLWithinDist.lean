/- FnWithinDist: near enough is near enough. No condition. -/
import Derived.Test.YtkglmhhihpofiaaLift
import Derived.Test.YtkglmhhihpofiaaDrawN
import Derived.Test.YtkglmhhihpofiaaNearK
import Derived.Test.YtkglmhhihpofiaaEqH
import Derived.Test.YtkglmhhihpofiaaHitsJ
import Derived.Test.YtkglmhhihpofiaaKeys
import Derived.Test.YtkglmhhihpofiaaEqI
import Derived.Deep.RegionHeld3
import Derived.Deep.RegionWith
import Derived.Deep.DeepCutAuto
namespace Go.Proofs.Ytkglmhhihpofiaa
open Go.ChangeShapes Go.WideShapes Go.ChangeAt Go.RowKit Go.Shelf
set_option linter.unusedVariables false
set_option linter.unusedSimpArgs false
namespace lawWithinDist
set_option maxRecDepth 100000 in
set_option maxHeartbeats 8000000 in
theorem walk (A : Option Addr) (n c : Nat) (w : World) (hC : Code w w.heap.size A n c) : Calls Try.prog 8 #[.slice A n c] w fun e w' => e = .returned (.bool true) ∧ Chg No w w' := by
  have hn1 := hC.1
  have hn2 := hC.2.1
  by_cases hbig : 1048576 < n
  · skip
    go_enter Try.func8, Try.ntmps8
    go_wp2
    go_ret
    exact ⟨rfl, Chg.refl _ _⟩
  · skip
    have hbig' : n ≤ 1048576 := by omega
    go_enter Try.func8, Try.ntmps8
    (go_wp2_with fail; (with_reducible refine (drawWithinDist A n c _ hC).mono ?_); rintro e w1 ⟨v1, xs, kind, AV, nv, cv, at_, k, rfl, ho1, hl1, hrv, hnv, hkd, hk9, hc1⟩)
    obtain ⟨A1, c1, rfl, hr1⟩ := OItems.read ho1
    have hm1 := hr1.cap; have hk1 := hr1.le; have hm2 := hrv.cap; have hk2 := hrv.le
    have HX := hid hr1; have HY := hid hrv
    have hkd0 := hkd.1; have hkd5 := hkd.2; have hk0 := hk9.1; have hk17 := hk9.2
    have s1 := hc1.size
    clear ho1 hr1 hrv hkd hk9
    obtain ⟨L, hL⟩ : ∃ L, WithinF xs kind at_ k = L := ⟨_, rfl⟩
    have KS := hid (fun W (h : Chg No w1 W) => sWithinDist _ _ _ _ _ xs _ _ _ _ _ at_ kind k W (HX.out.no h) (HY.out.no h))
    have KI := hid (fun W (h : Chg No w1 W) => iWithinDist _ _ _ _ _ xs _ _ _ _ _ at_ kind k W (HX.out.no h) (HY.out.no h))
    rw [hL] at KS KI
    have HL := hid hL
    clear hL
    (go_wp2_with fail; (with_reducible refine (KI.out _ (Chg.refl _ _)).mono ?_); rintro e w2 ⟨v2, rfl, ho2, hc2⟩)
    obtain ⟨A2, c2, rfl, hr2⟩ := OHits.read ho2
    have hp2 := hr2.cap; have hl2 := hr2.le
    have R2 := hid hr2
    have s2 := hc2.size
    clear ho2 hr2
    (go_wp2_with fail; (with_reducible refine (KS.out _ hc2).mono ?_); rintro e w3 ⟨v3, rfl, ho3, hc3⟩)
    obtain ⟨A3, c3, rfl, hr3⟩ := OHits.read ho3
    have hp3 := hr3.cap; have hl3 := hr3.le
    have R3 := hid hr3
    have s3 := hc3.size
    clear ho3 hr3
    have q3 : Chg No w1 w3 := hc2.no hc3
    (go_wp2_with fail; (with_reducible refine (equalHits _ _ _ _ _ _ _ _ _ L _ (R2.out.no hc3) R3.out).mono ?_); rintro e w4 ⟨rfl, hc4⟩)
    have q4 : Chg No w1 w4 := q3.no hc4
    have r4 : Chg No w2 w4 := hc3.no hc4
    have s4 := hc4.size
    clear R3
    have KO := hid (fun W (h : Chg No w1 W) => iNEAREST _ _ _ _ _ xs _ _ _ _ _ at_ kind 1 W (HX.out.no h) (HY.out.no h))
    obtain ⟨M, hM⟩ : ∃ M, NearestF xs kind at_ 1 = M := ⟨_, rfl⟩
    rw [hM] at KO
    have HM := hid hM
    clear hM
    (go_wp2_with fail; (with_reducible refine (KO.out _ q4).mono ?_); rintro e w5 ⟨v5, rfl, ho5, hc5⟩)
    obtain ⟨A5, c5, rfl, hr5⟩ := OHits.read ho5
    have hp5 := hr5.cap; have hl5 := hr5.le
    have R5 := hid hr5
    have s5 := hc5.size
    clear ho5 hr5
    have q5 := q4.no hc5
    have r5 := r4.no hc5
    by_cases hM0 : M.length = 0
    · have e0 : ((M.length : Int) == 0) = true := by simp; exact List.eq_nil_of_length_eq_zero hM0
      clear hM0
      (go_wp2_with fail; (with_reducible refine (KS.out _ q5).mono ?_); rintro e w8 ⟨v8, rfl, ho8, hc8⟩)
      obtain ⟨A8, c8, rfl, hr8⟩ := OHits.read ho8
      have hp8 := hr8.cap; have hl8 := hr8.le
      have R8 := hid hr8
      have s8 := hc8.size
      clear ho8 hr8
      (go_wp2_with fail; (with_reducible refine (equalHits _ _ _ _ _ _ _ _ _ L _ (R2.out.no (r5.no hc8)) R8.out).mono ?_); rintro e w9 ⟨rfl, hc9⟩)
      go_wp2
      go_ret
      exact ⟨rfl, hc1.no ((q5.no hc8).no hc9)⟩
    · have e0 : ((M.length : Int) == 0) = false := by simp; intro h; subst h; simp at hM0
      have hMpos : 0 < M.length := by omega
      clear hM0
      by_cases hk00 : k < 0
      · have e1 : decide (k < 0) = true := decide_eq_true hk00
        (go_wp2_with fail; (with_reducible refine (KS.out _ q5).mono ?_); rintro e w8 ⟨v8, rfl, ho8, hc8⟩)
        obtain ⟨A8, c8, rfl, hr8⟩ := OHits.read ho8
        have hp8 := hr8.cap; have hl8 := hr8.le
        have R8 := hid hr8
        have s8 := hc8.size
        clear ho8 hr8
        (go_wp2_with fail; (with_reducible refine (equalHits _ _ _ _ _ _ _ _ _ L _ (R2.out.no (r5.no hc8)) R8.out).mono ?_); rintro e w9 ⟨rfl, hc9⟩)
        go_wp2
        go_ret
        exact ⟨rfl, hc1.no ((q5.no hc8).no hc9)⟩
      · have e1 : decide (k < 0) = false := decide_eq_false hk00
        have hq : queryB xs kind at_ = true := by
          cases h : queryB xs kind at_ with
          | true => rfl
          | false => have h9 := HM.out; rw [NearestF_no (by rw [canB_one]; exact h)] at h9; rw [← h9] at hMpos; simp at hMpos
        have HCN := hid (queryB_can hq)
        have HLn := hid (show withinL xs kind at_ k = L from by rw [← WithinF_ok (by rw [hq, decide_eq_true (by omega)]; rfl)]; exact HL.out)
        have hok : HitsOk L := by rw [← HLn.out]; exact within_ok HCN.out.store HCN.out.vec
        have hL16 : L.length ≤ 16 := hok.len
        have hx16 : xs.length ≤ 16 := storeB_len HCN.out.store
        have KV := hid (fun W (h : RHits W w1.heap.size w2.heap.size A2 L.length c2 L) => iVALIDHits _ _ _ _ _ L W h)
        rw [hok.b] at KV
        have HIN := hid (fun z (hz : z ∈ xs) => within_in (kind := kind) (most := k) (at_ := at_) HCN.out.store hz)
        rw [HLn.out] at HIN
        obtain ⟨T, hT⟩ : ∃ T, L.map Prod.fst = T := ⟨_, rfl⟩
        rw [hT] at HIN
        have KK0 := hid (fun W (h : Chg No w5 W) => keysL _ _ _ _ _ L W (R2.out.no (r5.no h)) (by omega))
        rw [hT] at KK0
        have HDY := hid (fun W (h : Chg No w1 W) => HY.out.no h)
        clear hq HLn hT hok KI KS HL HM
        go_wp2
        go_loopw [8] (fun i wr => ∃ j : Nat, j ≤ xs.length ∧ i = .int .i64 j ∧ Chg No w5 wr) (fun i _ => xs.length - (intOf i).toNat)
        case atStart => exact ⟨0, Nat.zero_le _, rfl, Chg.refl _ _⟩
        case round =>
          obtain ⟨j, hj, rfl, hc⟩ := hrel
          obtain ⟨wo, rfl⟩ : ∃ W : World, W = wr := ⟨_, rfl⟩
          by_cases hlt : j < xs.length
          · obtain ⟨b, o, z, rfl, _, _, hzk, hE⟩ := (HX.out.no (q5.no hc)).at_ hlt
            obtain ⟨zk, zv, zt⟩ := z
            obtain ⟨hE1, ⟨A9, n9, c9, hE2, hv⟩, hE3⟩ := hE
            have f1 : wo.cell? ⟨b, o + j * 3, none⟩ = some (.int .i64 zk) := hE1
            have f2 : wo.cell? ⟨b, o + j * 3 + 1, none⟩ = some (.slice A9 n9 c9) := hE2
            have hzm := List.mem_of_getElem? hzk
            have HZV := hid (HCN.out.each _ hzm)
            have hIN := HIN.out _ hzm
            simp only [] at hIN
            have HV := hid hv
            have KK := hid (fun W (h : Chg No wo W) => KK0.out W (hc.no h))
            have KD := hid (fun W (h : Chg No wo W) => iDISTANCE _ _ _ _ _ _ _ _ _ _ zv at_ kind W (HV.out.no h) (HDY.out W ((q5.no hc).no h)) HZV.out HCN.out.vec HCN.out.kind1 HCN.out.kind4)
            obtain ⟨dd, hdd⟩ : ∃ dd, distF kind zv at_ = dd := ⟨_, rfl⟩
            rw [hdd] at KD hIN
            clear hdd hE1 hE2 hE3 hv hzk hzm
            by_cases a1 : dd ≤ k
            · have d1 : decide (dd ≤ k) = true := decide_eq_true a1
              have hbb : decide (zk ∈ T) = true := decide_eq_true (hIN.2 a1)
              clear hIN
              go_wp2_with fail
              first | (go_region_with (first | (go_at_call 33; (with_reducible refine (KK.out _ (by (repeat (first | (with_reducible exact Chg.refl _ _) | ((with_reducible refine Chg.setNew ?_ _ ?_); rotate_left; first | (dsimp only; omega) | (simp; done) | (simp; omega)) | (with_reducible refine Chg.alloc ?_ _) | (with_reducible refine Chg.drew ?_) | (with_reducible refine Chg.drewN ?_ _) | (with_reducible refine Chg.no ?_ (by assumption)) | (with_reducible refine Chg.and_ ?_ (by assumption)) | ((with_reducible refine Chg.at_ ?_ (by assumption) ?_); rotate_left; (try simp only [World.size_alloc]); omega))))).mono ?_); rintro e w6 ⟨v6, rfl, ho6, hc6⟩; obtain ⟨A6, c6, rfl, hr6⟩ := OInts.read ho6; have hp6 := hr6.cap; have hl6 := hr6.le; have g1 := cell_keep (S := No) (w := wo) (w' := w6) (by (repeat (first | (with_reducible exact Chg.refl _ _) | ((with_reducible refine Chg.setNew ?_ _ ?_); rotate_left; first | (dsimp only; omega) | (simp; done) | (simp; omega)) | (with_reducible refine Chg.alloc ?_ _) | (with_reducible refine Chg.drew ?_) | (with_reducible refine Chg.drewN ?_ _) | (with_reducible refine Chg.no ?_ (by assumption)) | (with_reducible refine Chg.and_ ?_ (by assumption)) | ((with_reducible refine Chg.at_ ?_ (by assumption) ?_); rotate_left; (try simp only [World.size_alloc]); omega)))) f1 (fun e => e); have g2 := cell_keep (S := No) (w := wo) (w' := w6) (by (repeat (first | (with_reducible exact Chg.refl _ _) | ((with_reducible refine Chg.setNew ?_ _ ?_); rotate_left; first | (dsimp only; omega) | (simp; done) | (simp; omega)) | (with_reducible refine Chg.alloc ?_ _) | (with_reducible refine Chg.drew ?_) | (with_reducible refine Chg.drewN ?_ _) | (with_reducible refine Chg.no ?_ (by assumption)) | (with_reducible refine Chg.and_ ?_ (by assumption)) | ((with_reducible refine Chg.at_ ?_ (by assumption) ?_); rotate_left; (try simp only [World.size_alloc]); omega)))) f2 (fun e => e); have KN := hid (fun W (h : Chg No w6 W) => isInL _ _ A6 T.length c6 T zk W (hr6.no h)); rw [hbb] at KN) | (go_at_call 32; (with_reducible refine (KN.out _ (by (repeat (first | (with_reducible exact Chg.refl _ _) | ((with_reducible refine Chg.setNew ?_ _ ?_); rotate_left; first | (dsimp only; omega) | (simp; done) | (simp; omega)) | (with_reducible refine Chg.alloc ?_ _) | (with_reducible refine Chg.drew ?_) | (with_reducible refine Chg.drewN ?_ _) | (with_reducible refine Chg.no ?_ (by assumption)) | (with_reducible refine Chg.and_ ?_ (by assumption)) | ((with_reducible refine Chg.at_ ?_ (by assumption) ?_); rotate_left; (try simp only [World.size_alloc]); omega))))).mono ?_); rintro e w7 ⟨rfl, rfl⟩) | (go_at_call 31; (with_reducible refine (KD.out _ (by (repeat (first | (with_reducible exact Chg.refl _ _) | ((with_reducible refine Chg.setNew ?_ _ ?_); rotate_left; first | (dsimp only; omega) | (simp; done) | (simp; omega)) | (with_reducible refine Chg.alloc ?_ _) | (with_reducible refine Chg.drew ?_) | (with_reducible refine Chg.drewN ?_ _) | (with_reducible refine Chg.no ?_ (by assumption)) | (with_reducible refine Chg.and_ ?_ (by assumption)) | ((with_reducible refine Chg.at_ ?_ (by assumption) ?_); rotate_left; (try simp only [World.size_alloc]); omega))))).mono ?_); rintro e w8 ⟨rfl, hc8⟩; have g3 := cell_keep (S := No) (w := wo) (w' := w8) (by (repeat (first | (with_reducible exact Chg.refl _ _) | ((with_reducible refine Chg.setNew ?_ _ ?_); rotate_left; first | (dsimp only; omega) | (simp; done) | (simp; omega)) | (with_reducible refine Chg.alloc ?_ _) | (with_reducible refine Chg.drew ?_) | (with_reducible refine Chg.drewN ?_ _) | (with_reducible refine Chg.no ?_ (by assumption)) | (with_reducible refine Chg.and_ ?_ (by assumption)) | ((with_reducible refine Chg.at_ ?_ (by assumption) ?_); rotate_left; (try simp only [World.size_alloc]); omega)))) f1 (fun e => e); have g4 := cell_keep (S := No) (w := wo) (w' := w8) (by (repeat (first | (with_reducible exact Chg.refl _ _) | ((with_reducible refine Chg.setNew ?_ _ ?_); rotate_left; first | (dsimp only; omega) | (simp; done) | (simp; omega)) | (with_reducible refine Chg.alloc ?_ _) | (with_reducible refine Chg.drew ?_) | (with_reducible refine Chg.drewN ?_ _) | (with_reducible refine Chg.no ?_ (by assumption)) | (with_reducible refine Chg.and_ ?_ (by assumption)) | ((with_reducible refine Chg.at_ ?_ (by assumption) ?_); rotate_left; (try simp only [World.size_alloc]); omega)))) f2 (fun e => e)))) | fail
              all_goals
                have q9 : Chg No w5 w8 := by (repeat (first | (with_reducible exact Chg.refl _ _) | ((with_reducible refine Chg.setNew ?_ _ ?_); rotate_left; first | (dsimp only; omega) | (simp; done) | (simp; omega)) | (with_reducible refine Chg.alloc ?_ _) | (with_reducible refine Chg.drew ?_) | (with_reducible refine Chg.drewN ?_ _) | (with_reducible refine Chg.no ?_ (by assumption)) | (with_reducible refine Chg.and_ ?_ (by assumption)) | ((with_reducible refine Chg.at_ ?_ (by assumption) ?_); rotate_left; (try simp only [World.size_alloc]); omega)))
                go_wp2
                go_roundw
                case rel => exact ⟨j + 1, by omega, by go_num, q9⟩
                case measure => simp [intOf]; omega
            · have d1 : decide (dd ≤ k) = false := decide_eq_false a1
              have d1' : k < dd := by omega
              have hbb : decide (zk ∈ T) = false := decide_eq_false (fun h => a1 (hIN.1 h))
              clear hIN
              go_wp2_with fail
              first | (go_region_with (first | (go_at_call 33; (with_reducible refine (KK.out _ (by (repeat (first | (with_reducible exact Chg.refl _ _) | ((with_reducible refine Chg.setNew ?_ _ ?_); rotate_left; first | (dsimp only; omega) | (simp; done) | (simp; omega)) | (with_reducible refine Chg.alloc ?_ _) | (with_reducible refine Chg.drew ?_) | (with_reducible refine Chg.drewN ?_ _) | (with_reducible refine Chg.no ?_ (by assumption)) | (with_reducible refine Chg.and_ ?_ (by assumption)) | ((with_reducible refine Chg.at_ ?_ (by assumption) ?_); rotate_left; (try simp only [World.size_alloc]); omega))))).mono ?_); rintro e w6 ⟨v6, rfl, ho6, hc6⟩; obtain ⟨A6, c6, rfl, hr6⟩ := OInts.read ho6; have hp6 := hr6.cap; have hl6 := hr6.le; have g1 := cell_keep (S := No) (w := wo) (w' := w6) (by (repeat (first | (with_reducible exact Chg.refl _ _) | ((with_reducible refine Chg.setNew ?_ _ ?_); rotate_left; first | (dsimp only; omega) | (simp; done) | (simp; omega)) | (with_reducible refine Chg.alloc ?_ _) | (with_reducible refine Chg.drew ?_) | (with_reducible refine Chg.drewN ?_ _) | (with_reducible refine Chg.no ?_ (by assumption)) | (with_reducible refine Chg.and_ ?_ (by assumption)) | ((with_reducible refine Chg.at_ ?_ (by assumption) ?_); rotate_left; (try simp only [World.size_alloc]); omega)))) f1 (fun e => e); have g2 := cell_keep (S := No) (w := wo) (w' := w6) (by (repeat (first | (with_reducible exact Chg.refl _ _) | ((with_reducible refine Chg.setNew ?_ _ ?_); rotate_left; first | (dsimp only; omega) | (simp; done) | (simp; omega)) | (with_reducible refine Chg.alloc ?_ _) | (with_reducible refine Chg.drew ?_) | (with_reducible refine Chg.drewN ?_ _) | (with_reducible refine Chg.no ?_ (by assumption)) | (with_reducible refine Chg.and_ ?_ (by assumption)) | ((with_reducible refine Chg.at_ ?_ (by assumption) ?_); rotate_left; (try simp only [World.size_alloc]); omega)))) f2 (fun e => e); have KN := hid (fun W (h : Chg No w6 W) => isInL _ _ A6 T.length c6 T zk W (hr6.no h)); rw [hbb] at KN) | (go_at_call 32; (with_reducible refine (KN.out _ (by (repeat (first | (with_reducible exact Chg.refl _ _) | ((with_reducible refine Chg.setNew ?_ _ ?_); rotate_left; first | (dsimp only; omega) | (simp; done) | (simp; omega)) | (with_reducible refine Chg.alloc ?_ _) | (with_reducible refine Chg.drew ?_) | (with_reducible refine Chg.drewN ?_ _) | (with_reducible refine Chg.no ?_ (by assumption)) | (with_reducible refine Chg.and_ ?_ (by assumption)) | ((with_reducible refine Chg.at_ ?_ (by assumption) ?_); rotate_left; (try simp only [World.size_alloc]); omega))))).mono ?_); rintro e w7 ⟨rfl, rfl⟩) | (go_at_call 31; (with_reducible refine (KD.out _ (by (repeat (first | (with_reducible exact Chg.refl _ _) | ((with_reducible refine Chg.setNew ?_ _ ?_); rotate_left; first | (dsimp only; omega) | (simp; done) | (simp; omega)) | (with_reducible refine Chg.alloc ?_ _) | (with_reducible refine Chg.drew ?_) | (with_reducible refine Chg.drewN ?_ _) | (with_reducible refine Chg.no ?_ (by assumption)) | (with_reducible refine Chg.and_ ?_ (by assumption)) | ((with_reducible refine Chg.at_ ?_ (by assumption) ?_); rotate_left; (try simp only [World.size_alloc]); omega))))).mono ?_); rintro e w8 ⟨rfl, hc8⟩; have g3 := cell_keep (S := No) (w := wo) (w' := w8) (by (repeat (first | (with_reducible exact Chg.refl _ _) | ((with_reducible refine Chg.setNew ?_ _ ?_); rotate_left; first | (dsimp only; omega) | (simp; done) | (simp; omega)) | (with_reducible refine Chg.alloc ?_ _) | (with_reducible refine Chg.drew ?_) | (with_reducible refine Chg.drewN ?_ _) | (with_reducible refine Chg.no ?_ (by assumption)) | (with_reducible refine Chg.and_ ?_ (by assumption)) | ((with_reducible refine Chg.at_ ?_ (by assumption) ?_); rotate_left; (try simp only [World.size_alloc]); omega)))) f1 (fun e => e); have g4 := cell_keep (S := No) (w := wo) (w' := w8) (by (repeat (first | (with_reducible exact Chg.refl _ _) | ((with_reducible refine Chg.setNew ?_ _ ?_); rotate_left; first | (dsimp only; omega) | (simp; done) | (simp; omega)) | (with_reducible refine Chg.alloc ?_ _) | (with_reducible refine Chg.drew ?_) | (with_reducible refine Chg.drewN ?_ _) | (with_reducible refine Chg.no ?_ (by assumption)) | (with_reducible refine Chg.and_ ?_ (by assumption)) | ((with_reducible refine Chg.at_ ?_ (by assumption) ?_); rotate_left; (try simp only [World.size_alloc]); omega)))) f2 (fun e => e)))) | fail
              all_goals
                have q9 : Chg No w5 w8 := by (repeat (first | (with_reducible exact Chg.refl _ _) | ((with_reducible refine Chg.setNew ?_ _ ?_); rotate_left; first | (dsimp only; omega) | (simp; done) | (simp; omega)) | (with_reducible refine Chg.alloc ?_ _) | (with_reducible refine Chg.drew ?_) | (with_reducible refine Chg.drewN ?_ _) | (with_reducible refine Chg.no ?_ (by assumption)) | (with_reducible refine Chg.and_ ?_ (by assumption)) | ((with_reducible refine Chg.at_ ?_ (by assumption) ?_); rotate_left; (try simp only [World.size_alloc]); omega)))
                go_wp2
                go_roundw
                case rel => exact ⟨j + 1, by omega, by go_num, q9⟩
                case measure => simp [intOf]; omega
          · (go_wp2_with fail; (with_reducible refine (KV.out _ (R2.out.no (r5.no hc))).mono ?_); rintro e w8 ⟨rfl, hc8⟩)
            go_wp2
            go_ret
            exact ⟨rfl, hc1.no ((q5.no hc).no hc8)⟩

set_option maxRecDepth 100000 in
theorem lifted (os : Os) (started : os.Started) (H : Type) (enc : TypeId × Value → H) :
    ReturnsInHanded {} Try.checked os 8 .any (Rows.fnWithinDistSpec.pre6 enc Try.prog Try.f8 Rows.fnWithinDistRow.domain false) (Rows.fnWithinDistSpec.post enc Try.prog Try.f8 false true false false) := by
  refine returnsInHanded_of_change (C := Try.checked) own started (by kernel_rfl) Try.func8
    (ChangeSpec.witness6 (enc := enc) (C := Try.checked) false ⟨#[], #[.slice none 0 0], []⟩ 8 (by kernel_rfl) (by kernel_rfl) (by kernel_rfl) (by kernel_rfl)) ?_
  intro W base args ds gs before hval0 hW hcnd _
  have hval : ∀ (j : Nat) t v, Try.f8.params[j]? = some t → args[j]? = some v → Value.okWide Try.prog W .any base t v := hval0
  have hW' := hW
  obtain ⟨p, q, hA0, hV, rfl, hfz, hnd⟩ := hW
  have hA : DataW.TrodAll enc Try.prog W 0 (fun _ => true) true Try.f8.params.toList args.toList ds p := hA0
  rw [Try.params8] at hA hval
  obtain ⟨v0, vs0, d0, ds0, p0, q0, hargs, rfl, rfl, h0, r0⟩ := trodAll_cons hA
  obtain ⟨rfl, rfl, rfl⟩ := trodAll_nil r0
  obtain rfl : args = #[v0] := by cases args; simp_all
  obtain ⟨rfl, rfl⟩ := trodVars_none hV
  obtain ⟨a0, len0, cap0, rfl⟩ := okWide_slice Try.underlying22 (hval 0 22 v0 rfl rfl)
  have k0 := h0
  have lt0 : ∀ x ∈ p0, x.block < W.heap.size := by obtain ⟨m, hm⟩ := k0; exact DataW.trod_lt m _ _ _ hm
  have w0 : Code W W.heap.size a0 len0 cap0 := by
    obtain ⟨fuel, hf⟩ := h0
    rcases open_ints Try.underlying22 Try.underlying5 (by kernel_rfl) hf with ⟨hcs, _⟩ | ⟨x, l, c, zs, hcs, _, hl, hm, hz, _, hcell, hwz⟩
    · simp [Value.cells] at hcs
      obtain ⟨rfl, rfl, rfl⟩ := hcs
      exact code_nil _
    · simp [Value.cells] at hcs
      obtain ⟨rfl, rfl, rfl⟩ := hcs
      exact code_row hl hm (by simpa using hz) hcell hwz
  clear hA0 hval0
  refine (walk a0 len0 cap0 W w0).mono fun e W' ⟨he, bel0⟩ => ?_
  have bel := bel0.below
  subst he
  exact ⟨_, rfl, _, _, _, [], _, [], hW', trodAll_mk1 (shut_bool Try.underlying4 _), (trodAll_cons_mk (Below.trod laidOut (by kernel_rfl) (of_decide_eq_true (by kernel_rfl)) k0 bel lt0) trodAll_mk0), rfl, bel.frame _, fun h => by cases h⟩

theorem over : Rows.fnWithinDistRow.holds Try.pinned (OpenSpec.ofChange Rows.fnWithinDistSpec) :=
  OpenClaim.holds_of_wide 8 Try.f8 rfl rfl rfl rfl rfl rfl rfl ⟨rfl, rfl, rfl, rfl, rfl⟩ rfl rfl rfl rfl rfl (by kernel_rfl) Try.func8 (by kernel_rfl)
    (of_decide_eq_true (by kernel_rfl)) (by unfold Func.isWrapper; first | (rw [if_pos (by decide +kernel)]; kernel_rfl) | (rw [if_neg (by decide +kernel)]; exact ⟨rfl, rfl⟩))
    (fun os started H enc _ => lifted os started H enc)

theorem proved : Rows.FnWithinDistSaid := over
#print axioms proved

end lawWithinDist
end Go.Proofs.Ytkglmhhihpofiaa
