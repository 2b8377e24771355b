/- FnFuseRanks: fused ranks have all keys, each once, and the scores do not grow. No condition. -/
import Derived.Test.YtofbjganahbekaaLift
import Derived.Test.YtofbjganahbekaaDraw3
import Derived.Test.YtofbjganahbekaaFuse3
import Derived.Test.YtofbjganahbekaaFuse4
import Derived.Test.YtofbjganahbekaaEqI
import Derived.Test.YtofbjganahbekaaHitsJ
import Derived.Test.YtofbjganahbekaaKeys
import Derived.Deep.RegionHeld3
import Derived.Deep.DeepCutAuto
namespace Go.Proofs.Ytofbjganahbekaa
open Go.ChangeShapes Go.WideShapes Go.ChangeAt Go.RowKit Go.Shelf
set_option linter.unusedVariables false
set_option linter.unusedSimpArgs false
namespace lawFuseRanks
set_option maxRecDepth 100000 in
set_option maxHeartbeats 4000000 in
theorem walk (A : Option Addr) (n c : Nat) (w : World) (hC : Code w w.heap.size A n c) : Calls Try.prog 9 #[.slice A n c] w fun e w' => e = .returned (.bool true) ∧ Chg No w w' := by
  have hn1 := hC.1
  have hn2 := hC.2.1
  by_cases hbig : 1048576 < n
  · skip
    go_enter Try.func9, Try.ntmps9
    go_wp2
    go_ret
    exact ⟨rfl, Chg.refl _ _⟩
  · skip
    have hbig' : n ≤ 1048576 := by omega
    go_enter Try.func9, Try.ntmps9
    (go_wp2_with fail; (with_reducible refine (drawFuseRanks A n c _ hC).mono ?_); rintro e w1 ⟨v1, v2, xs, ys, rfl, ho1, ho2, hl1, hl2, hc1⟩)
    obtain ⟨A1, c1, rfl, hr1⟩ := OHits.read ho1
    obtain ⟨A2, c2, rfl, hr2⟩ := OHits.read ho2
    have hm1 := hr1.cap; have hm2 := hr2.cap; have hk1 := hr1.le; have hk2 := hr2.le
    have HX := hid hr1; have HY := hid hr2
    clear ho1 ho2 hr1 hr2
    obtain ⟨L, hL⟩ : ∃ L, FuseF xs ys = L := ⟨_, rfl⟩
    have KS := hid (fun W (h1' : RHits W w.heap.size w1.heap.size A1 xs.length c1 xs) (h2' : RHits W w.heap.size w1.heap.size A2 ys.length c2 ys) => sFuseRanks _ _ _ _ _ _ _ _ _ _ xs ys W h1' h2')
    have KI := hid (fun W (h1' : RHits W w.heap.size w1.heap.size A1 xs.length c1 xs) (h2' : RHits W w.heap.size w1.heap.size A2 ys.length c2 ys) => iFuseRanks _ _ _ _ _ _ _ _ _ _ xs ys W h1' h2')
    have KV1 := hid (fun W (h1' : RHits W w.heap.size w1.heap.size A1 xs.length c1 xs) => iVALIDHits _ _ _ _ _ xs W h1')
    have KV2 := hid (fun W (h1' : RHits W w.heap.size w1.heap.size A2 ys.length c2 ys) => iVALIDHits _ _ _ _ _ ys W h1')
    rw [hL] at KS KI
    have HL := hid hL
    clear hL
    (go_wp2_with fail; (with_reducible refine (KI.out _ HX.out HY.out).mono ?_); rintro e w2 ⟨v2, rfl, ho2, hc2⟩)
    have q2 := hc2
    obtain ⟨A3, c3, rfl, hr3⟩ := OInts.read ho2
    have hm3 := hr3.cap; have hk3 := hr3.le
    have HO := hid hr3
    have s1 := hc1.size
    have s2 := hc2.size
    clear ho2 hr3
    (go_wp2_with fail; (with_reducible refine (KS.out _ (HX.out.no hc2) (HY.out.no hc2)).mono ?_); rintro e w3 ⟨v3, rfl, ho3, hc3⟩)
    have q3 : Chg No w1 w3 := hc2.no hc3
    obtain ⟨A4, c4, rfl, hr4⟩ := OInts.read ho3
    have hm4 := hr4.cap; have hk4 := hr4.le
    have HS := hid hr4
    have s3 := hc3.size
    clear ho3 hr4
    (go_wp2_with fail; (with_reducible refine (equalInts _ _ _ _ _ _ _ _ _ L _ (HO.out.no hc3) HS.out).mono ?_); rintro e w4 ⟨rfl, hc4⟩)
    have q4 : Chg No w1 w4 := q3.no hc4
    have r4 : Chg No w2 w4 := hc3.no hc4
    have s4 := hc4.size
    cases hb1 : hitsB xs with
    | false =>
      rw [hb1] at KV1
      (go_wp2_with fail; (with_reducible refine (KV1.out _ (HX.out.no q4)).mono ?_); rintro e w5 ⟨rfl, hc5⟩)
      have q5 := q4.no hc5
      have r5 := r4.no hc5
      (go_wp2_with fail; (with_reducible refine (KS.out _ (HX.out.no q5) (HY.out.no q5)).mono ?_); rintro e w8 ⟨v8, rfl, ho8, hc8⟩)
      obtain ⟨A8, c8, rfl, hr8⟩ := OInts.read ho8
      have hm8 := hr8.cap; have hk8 := hr8.le
      have HS8 := hid hr8
      clear ho8 hr8
      (go_wp2_with fail; (with_reducible refine (equalInts _ _ _ _ _ _ _ _ _ L _ (HO.out.no (r5.no hc8)) HS8.out).mono ?_); rintro e w9 ⟨rfl, hc9⟩)
      go_wp2
      go_ret
      exact ⟨rfl, hc1.no ((q5.no hc8).no hc9)⟩
    | true =>
      rw [hb1] at KV1
      (go_wp2_with fail; (with_reducible refine (KV1.out _ (HX.out.no q4)).mono ?_); rintro e w5 ⟨rfl, hc5⟩)
      have q5 := q4.no hc5
      have r5 := r4.no hc5
      cases hb2 : hitsB ys with
      | false =>
        rw [hb2] at KV2
        (go_wp2_with fail; (with_reducible refine (KV2.out _ (HY.out.no q5)).mono ?_); rintro e w6 ⟨rfl, hc6⟩)
        have q6 := q5.no hc6
        have r6 := r5.no hc6
        (go_wp2_with fail; (with_reducible refine (KS.out _ (HX.out.no q6) (HY.out.no q6)).mono ?_); rintro e w8 ⟨v8, rfl, ho8, hc8⟩)
        obtain ⟨A8, c8, rfl, hr8⟩ := OInts.read ho8
        have hm8 := hr8.cap; have hk8 := hr8.le
        have HS8 := hid hr8
        clear ho8 hr8
        (go_wp2_with fail; (with_reducible refine (equalInts _ _ _ _ _ _ _ _ _ L _ (HO.out.no (r6.no hc8)) HS8.out).mono ?_); rintro e w9 ⟨rfl, hc9⟩)
        go_wp2
        go_ret
        exact ⟨rfl, hc1.no ((q6.no hc8).no hc9)⟩
      | true =>
        rw [hb2] at KV2
        (go_wp2_with fail; (with_reducible refine (KV2.out _ (HY.out.no q5)).mono ?_); rintro e w6 ⟨rfl, hc6⟩)
        have q6 := q5.no hc6
        have r6 := r5.no hc6
        have hv1 := hitsB_len hb1; have hv2 := hitsB_len hb2
        have HB1 := hid hb1; have HB2 := hid hb2
        clear hb1 hb2 KV1 KV2 KS HS hc3 hc4 hc5 hc6 q3 q5 r5
        have KR1 := hid (fun key W (h : Chg No w1 W) => iRANKScore _ _ _ _ _ xs key W (HX.out.no h))
        have KR2 := hid (fun key W (h : Chg No w1 W) => iRANKScore _ _ _ _ _ ys key W (HY.out.no h))
        have HLn := hid (show L.length ≤ 34 from by
          rw [← HL.out, FuseF_ok HB1.out HB2.out]
          have h3 := fuseL_len xs ys
          omega)
        have hL34 := HLn.out
        have HS1 := hid (show ∀ z, scoreF xs z = rankF xs z from fun z => by unfold scoreF; rw [HB1.out]; rfl)
        have HS2 := hid (show ∀ z, scoreF ys z = rankF ys z from fun z => by unfold scoreF; rw [HB2.out]; rfl)
        clear KI HLn
        go_wp2
        go_loopw [6] (fun i wr => ∃ j : Nat, j ≤ L.length ∧ i = .int .i64 j ∧ Chg No w6 wr) (fun i _ => L.length - (intOf i).toNat)
        case atStart => exact ⟨0, Nat.zero_le _, rfl, Chg.refl _ _⟩
        case round =>
          obtain ⟨j, hj, rfl, hc⟩ := hrel
          obtain ⟨wo, rfl⟩ : ∃ W : World, W = wr := ⟨_, rfl⟩
          by_cases hlt : j < L.length
          · obtain ⟨b, o, z, rfl, _, _, hzk, hE⟩ := (HO.out.no (r6.no hc)).at_ hlt
            have f1 : ∀ p : NB wo, p.wd.cell? ⟨b, o + j, none⟩ = some (.int .i64 z) := nb_cell (by simpa [EInt] using hE)
            have HZK := hid hzk
            have hE9 := hid hE
            clear hzk hE
            obtain ⟨r1, hr1⟩ : ∃ r1, rankF xs z = r1 := ⟨_, rfl⟩
            obtain ⟨r2, hr2⟩ : ∃ r2, rankF ys z = r2 := ⟨_, rfl⟩
            have hs1 : scoreF xs z = r1 := by rw [HS1.out, hr1]
            have hs2 : scoreF ys z = r2 := by rw [HS2.out, hr2]
            have b1 := rankF_bd xs z
            have b2 := rankF_bd ys z
            rw [hr1] at b1
            rw [hr2] at b2
            have hpos : 1 ≤ r1 + r2 := by
              have h9 := fuse_pos HB1.out HB2.out (k := z) (by rw [HL.out]; exact List.mem_of_getElem? HZK.out)
              rw [hr1, hr2] at h9; exact h9
            have KZ1 := hid (fun W (h : Chg No w1 W) => KR1.out z W h)
            have KZ2 := hid (fun W (h : Chg No w1 W) => KR2.out z W h)
            have qo := q6.no hc
            go_wp2_with fail
            (refine wp_region_nb (by kernel_rfl) (by kernel_rfl) ?_; (repeat (first | go_big_quiet_step ((go_at_call 28; first | (with_reducible exact nb_ofE (KZ1.out _ (qo.no (NB.h _))) (congrArg (Value.int .i64) hs1)) | (with_reducible exact nb_ofE (KZ2.out _ (qo.no (NB.h _))) (congrArg (Value.int .i64) hs2)))) | quiet_step ((go_at_call 28; first | (with_reducible exact nb_ofE (KZ1.out _ (qo.no (NB.h _))) (congrArg (Value.int .i64) hs1)) | (with_reducible exact nb_ofE (KZ2.out _ (qo.no (NB.h _))) (congrArg (Value.int .i64) hs2)))))); (with_reducible refine wpQuiet_nil ?_); intro wq hw1; have hq := nb_out hw1; clear hw1)
            have hqA := hq
            clear hq
            obtain ⟨wA, rfl⟩ : ∃ W : World, W = wq := ⟨_, rfl⟩
            have hcA : Chg No w6 wA := hc.no hqA
            have f2 : ∀ p : NB wA, p.wd.cell? ⟨b, o + j, none⟩ = some (.int .i64 z) := nb_cell (cell_keep hqA (by simpa [EInt] using hE9.out) (fun e => e))
            have KN := hid (fun W (h : Chg No wA W) => isInL _ _ _ j c3 (L.take j) z W (RInts.no (RSl.take (HO.out.no (r6.no hcA)) (k := j) (by omega)) h))
            have hno : decide (z ∈ L.take j) = false := decide_eq_false (by
              have h9 := fuse_new (xs := xs) (ys := ys) (i := j) (k := z) (by rw [HL.out]; exact HZK.out)
              rw [HL.out] at h9; exact h9)
            have hd1 : decide (r1 + r2 < 1) = false := decide_eq_false (by omega)
            have hjc : j ≤ c3 := by omega
            clear f1 hs1 hs2
            go_wp2_with fail
            (refine wp_region_nb (by kernel_rfl) (by kernel_rfl) ?_; (repeat (first | go_big_quiet_step ((go_at_call 29; exact nb_sameE (KN.out _ (NB.h _)) (congrArg Value.bool hno))) | quiet_step ((go_at_call 29; exact nb_sameE (KN.out _ (NB.h _)) (congrArg Value.bool hno))))); (with_reducible refine wpQuiet_nil ?_); intro wq hw1; have hq := nb_out hw1; clear hw1)
            have hqB := hq
            clear hq
            obtain ⟨wB, rfl⟩ : ∃ W : World, W = wq := ⟨_, rfl⟩
            have hcB : Chg No w6 wB := hcA.no hqB
            clear hno f2 KN
            by_cases h0 : j = 0
            · have h0' : decide (0 < j) = false := decide_eq_false (by omega)
              have h0'' : ¬ 0 < j := by omega
              go_wp2
              go_roundw
              case rel => exact ⟨j + 1, by omega, by go_num, hcB⟩
              case measure => simp [intOf]; omega
            · obtain ⟨i, rfl⟩ : ∃ i, j = i + 1 := ⟨j - 1, by omega⟩
              obtain ⟨b', o', y, hA', _, _, hyk, hE'⟩ := (HO.out.no (r6.no hcB)).at_ (k := i) (by omega)
              injection hA' with hA'
              injection hA' with e1 e2 _
              subst e1 e2
              have g1 : ∀ p : NB wB, p.wd.cell? ⟨b, o + i, none⟩ = some (.int .i64 y) := nb_cell (by simpa [EInt] using hE')
              have HYK := hid hyk
              have hE8 := hid hE'
              clear hyk hE'
              obtain ⟨p1, hp1⟩ : ∃ p1, rankF xs y = p1 := ⟨_, rfl⟩
              obtain ⟨p2, hp2⟩ : ∃ p2, rankF ys y = p2 := ⟨_, rfl⟩
              have ht1 : scoreF xs y = p1 := by rw [HS1.out, hp1]
              have ht2 : scoreF ys y = p2 := by rw [HS2.out, hp2]
              have b3 := rankF_bd xs y
              have b4 := rankF_bd ys y
              rw [hp1] at b3
              rw [hp2] at b4
              have hnext : ¬ (p1 + p2 < r1 + r2 ∨ (p1 + p2 = r1 + r2 ∧ z ≤ y)) := by
                have h9 := fuse_next (xs := xs) (ys := ys) (i := i) (k := z) (h := y) (by rw [HL.out]; exact HZK.out) (by rw [HL.out]; exact HYK.out)
                rw [hp1, hp2, hr1, hr2] at h9; exact h9
              have KY1 := hid (fun W (h : Chg No w1 W) => KR1.out y W h)
              have KY2 := hid (fun W (h : Chg No w1 W) => KR2.out y W h)
              have qB := q6.no hcB
              have h0' : decide (0 < i + 1) = true := by simp
              have i1 : ((i : Int) + 1 - 1) = i := by omega
              have i2 : i < L.length := by omega
              go_wp2
              (refine wp_region_nb (by kernel_rfl) (by kernel_rfl) ?_; (repeat (first | go_big_quiet_step ((go_at_call 28; first | (with_reducible exact nb_ofE (KY1.out _ (qB.no (NB.h _))) (congrArg (Value.int .i64) ht1)) | (with_reducible exact nb_ofE (KY2.out _ (qB.no (NB.h _))) (congrArg (Value.int .i64) ht2)))) | quiet_step ((go_at_call 28; first | (with_reducible exact nb_ofE (KY1.out _ (qB.no (NB.h _))) (congrArg (Value.int .i64) ht1)) | (with_reducible exact nb_ofE (KY2.out _ (qB.no (NB.h _))) (congrArg (Value.int .i64) ht2)))))); (with_reducible refine wpQuiet_nil ?_); intro wq hw1; have hq := nb_out hw1; clear hw1)
              have hqC := hq
              clear hq
              obtain ⟨wC, rfl⟩ : ∃ W : World, W = wq := ⟨_, rfl⟩
              have hcC : Chg No w6 wC := hcB.no hqC
              have g2 : ∀ p : NB wC, p.wd.cell? ⟨b, o + i, none⟩ = some (.int .i64 y) := nb_cell (cell_keep hqC (by simpa [EInt] using hE8.out) (fun e => e))
              have g3 : ∀ p : NB wC, p.wd.cell? ⟨b, o + (i + 1), none⟩ = some (.int .i64 z) := nb_cell (cell_keep ((hqA.no hqB).no hqC) (by simpa [EInt] using hE9.out) (fun e => e))
              have hd2 : decide (p1 + p2 < r1 + r2) = false := decide_eq_false (by omega)
              clear g1 ht1 ht2
              cases hd3 : ((p1 + p2) == (r1 + r2)) with
              | false =>
                go_wp2_with fail
                (refine wp_region_nb (by kernel_rfl) (by kernel_rfl) ?_; (repeat (first | go_big_quiet_step (fail) | quiet_step (fail))); (with_reducible refine wpQuiet_nil ?_); intro wq hw1; have hq := nb_out hw1; clear hw1)
                go_wp2
                go_roundw
                case rel => exact ⟨i + 1 + 1, by omega, by go_num, hcC.no hq⟩
                case measure => simp [intOf]; omega
              | true =>
                have hd4 : decide (z ≤ y) = false := decide_eq_false (by
                  have : p1 + p2 = r1 + r2 := by simpa using hd3
                  omega)
                go_wp2_with fail
                (refine wp_region_nb (by kernel_rfl) (by kernel_rfl) ?_; (repeat (first | go_big_quiet_step (fail) | quiet_step (fail))); (with_reducible refine wpQuiet_nil ?_); intro wq hw1; have hq := nb_out hw1; clear hw1)
                go_wp2
                go_roundw
                case rel => exact ⟨i + 1 + 1, by omega, by go_num, hcC.no hq⟩
                case measure => simp [intOf]; omega
          · have hqo := q6.no hc
            have hro := r6.no hc
            have HOo := hid (HO.out.no hro)
            clear HO
            go_wp2
            clear hj hlt
            go_loopw [9] (fun i wr => ∃ j : Nat, j ≤ xs.length ∧ i = .int .i64 j ∧ Chg No wo wr) (fun i _ => xs.length - (intOf i).toNat)
            case atStart => exact ⟨0, Nat.zero_le _, rfl, Chg.refl _ _⟩
            case round =>
              obtain ⟨j, hj, rfl, hc⟩ := hrel
              obtain ⟨wp, rfl⟩ : ∃ W : World, W = wr := ⟨_, rfl⟩
              by_cases hlt : j < xs.length
              · obtain ⟨b, o, z, rfl, _, _, hzk, hE⟩ := (HX.out.no (hqo.no hc)).at_ hlt
                obtain ⟨z1, z2⟩ := z
                have f1 : wp.cell? ⟨b, o + j * 2, none⟩ = some (.int .i64 z1) := hE.1
                have KN := hid (isInL _ _ _ _ c3 L z1 wp (HOo.out.no hc))
                have hin : decide (z1 ∈ L) = true := decide_eq_true (by
                  have h9 := fuse_has HB1.out HB2.out (Or.inl (List.mem_of_getElem? hzk))
                  rw [HL.out] at h9; exact h9)
                rw [hin] at KN
                clear hzk hE hin
                (go_wp2_with fail; (with_reducible refine KN.out.mono ?_); rintro e w9 ⟨rfl, rfl⟩)
                go_wp2
                go_roundw
                case rel => exact ⟨j + 1, by omega, by go_num, hc⟩
                case measure => simp [intOf]; omega
              · skip
                have HOp := hid (HOo.out.no hc)
                have hqp := hqo.no hc
                clear HOo hqo hc
                go_wp2
                clear hj hlt
                go_loopw [10] (fun i wr => ∃ j : Nat, j ≤ ys.length ∧ i = .int .i64 j ∧ Chg No wp wr) (fun i _ => ys.length - (intOf i).toNat)
                case atStart => exact ⟨0, Nat.zero_le _, rfl, Chg.refl _ _⟩
                case round =>
                  obtain ⟨j, hj, rfl, hc⟩ := hrel
                  obtain ⟨wp, rfl⟩ : ∃ W : World, W = wr := ⟨_, rfl⟩
                  by_cases hlt : j < ys.length
                  · obtain ⟨b, o, z, rfl, _, _, hzk, hE⟩ := (HY.out.no (hqp.no hc)).at_ hlt
                    obtain ⟨z1, z2⟩ := z
                    have f1 : wp.cell? ⟨b, o + j * 2, none⟩ = some (.int .i64 z1) := hE.1
                    have KN := hid (isInL _ _ _ _ c3 L z1 wp (HOp.out.no hc))
                    have hin : decide (z1 ∈ L) = true := decide_eq_true (by
                      have h9 := fuse_has HB1.out HB2.out (Or.inr (List.mem_of_getElem? hzk))
                      rw [HL.out] at h9; exact h9)
                    rw [hin] at KN
                    clear hzk hE hin
                    (go_wp2_with fail; (with_reducible refine KN.out.mono ?_); rintro e w9 ⟨rfl, rfl⟩)
                    go_wp2
                    go_roundw
                    case rel => exact ⟨j + 1, by omega, by go_num, hc⟩
                    case measure => simp [intOf]; omega
                  · skip
                    go_wp2
                    go_ret
                    exact ⟨rfl, hc1.no (hqp.no hc)⟩

set_option maxRecDepth 100000 in
theorem lifted (os : Os) (started : os.Started) (H : Type) (enc : TypeId × Value → H) :
    ReturnsInHanded {} Try.checked os 9 .any (Rows.fnFuseRanksSpec.pre6 enc Try.prog Try.f9 Rows.fnFuseRanksRow.domain false) (Rows.fnFuseRanksSpec.post enc Try.prog Try.f9 false true false false) := by
  refine returnsInHanded_of_change (C := Try.checked) own started (by kernel_rfl) Try.func9
    (ChangeSpec.witness6 (enc := enc) (C := Try.checked) false ⟨#[], #[.slice none 0 0], []⟩ 8 (by kernel_rfl) (by kernel_rfl) (by kernel_rfl) (by kernel_rfl)) ?_
  intro W base args ds gs before hval0 hW hcnd _
  have hval : ∀ (j : Nat) t v, Try.f9.params[j]? = some t → args[j]? = some v → Value.okWide Try.prog W .any base t v := hval0
  have hW' := hW
  obtain ⟨p, q, hA0, hV, rfl, hfz, hnd⟩ := hW
  have hA : DataW.TrodAll enc Try.prog W 0 (fun _ => true) true Try.f9.params.toList args.toList ds p := hA0
  rw [Try.params9] at hA hval
  obtain ⟨v0, vs0, d0, ds0, p0, q0, hargs, rfl, rfl, h0, r0⟩ := trodAll_cons hA
  obtain ⟨rfl, rfl, rfl⟩ := trodAll_nil r0
  obtain rfl : args = #[v0] := by cases args; simp_all
  obtain ⟨rfl, rfl⟩ := trodVars_none hV
  obtain ⟨a0, len0, cap0, rfl⟩ := okWide_slice Try.underlying35 (hval 0 35 v0 rfl rfl)
  have k0 := h0
  have lt0 : ∀ x ∈ p0, x.block < W.heap.size := by obtain ⟨m, hm⟩ := k0; exact DataW.trod_lt m _ _ _ hm
  have w0 : Code W W.heap.size a0 len0 cap0 := by
    obtain ⟨fuel, hf⟩ := h0
    rcases open_ints Try.underlying35 Try.underlying5 (by kernel_rfl) hf with ⟨hcs, _⟩ | ⟨x, l, c, zs, hcs, _, hl, hm, hz, _, hcell, hwz⟩
    · simp [Value.cells] at hcs
      obtain ⟨rfl, rfl, rfl⟩ := hcs
      exact code_nil _
    · simp [Value.cells] at hcs
      obtain ⟨rfl, rfl, rfl⟩ := hcs
      exact code_row hl hm (by simpa using hz) hcell hwz
  clear hA0 hval0
  refine (walk a0 len0 cap0 W w0).mono fun e W' ⟨he, bel0⟩ => ?_
  have bel := bel0.below
  subst he
  exact ⟨_, rfl, _, _, _, [], _, [], hW', trodAll_mk1 (shut_bool Try.underlying4 _), (trodAll_cons_mk (Below.trod laidOut (by kernel_rfl) (of_decide_eq_true (by kernel_rfl)) k0 bel lt0) trodAll_mk0), rfl, bel.frame _, fun h => by cases h⟩

theorem over : Rows.fnFuseRanksRow.holds Try.pinned (OpenSpec.ofChange Rows.fnFuseRanksSpec) :=
  OpenClaim.holds_of_wide 9 Try.f9 rfl rfl rfl rfl rfl rfl rfl ⟨rfl, rfl, rfl, rfl, rfl⟩ rfl rfl rfl rfl rfl (by kernel_rfl) Try.func9 (by kernel_rfl)
    (of_decide_eq_true (by kernel_rfl)) (by unfold Func.isWrapper; first | (rw [if_pos (by decide +kernel)]; kernel_rfl) | (rw [if_neg (by decide +kernel)]; exact ⟨rfl, rfl⟩))
    (fun os started H enc _ => lifted os started H enc)

theorem proved : Rows.FnFuseRanksSaid := over
#print axioms proved

end lawFuseRanks
end Go.Proofs.Ytofbjganahbekaa
