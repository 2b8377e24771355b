/- FnWalkTo: a walk goes from neighbour to neighbour, nearer and nearer. No condition. -/
import Derived.Test.YtgidepnlflmclaaLift
import Derived.Test.YtgidepnlflmclaaDrawW
import Derived.Test.YtgidepnlflmclaaWalk
import Derived.Test.YtgidepnlflmclaaWalkS
import Derived.Test.YtgidepnlflmclaaEqI
import Derived.Test.YtgidepnlflmclaaItemOf
import Derived.Deep.RegionHeld3
import Derived.Deep.RegionWith
import Derived.Deep.DeepCutAuto
namespace Go.Proofs.Ytgidepnlflmclaa
open Go.ChangeShapes Go.WideShapes Go.ChangeAt Go.RowKit Go.Shelf
set_option linter.unusedVariables false
set_option linter.unusedSimpArgs false
namespace lawWalkTo
set_option maxRecDepth 100000 in
set_option maxHeartbeats 8000000 in
theorem walk (A : Option Addr) (n c : Nat) (w : World) (hC : Code w w.heap.size A n c) : Calls Try.prog 7 #[.slice A n c] w fun e w' => e = .returned (.bool true) ∧ Chg No w w' := by
  have hn1 := hC.1
  have hn2 := hC.2.1
  by_cases hbig : 1048576 < n
  · skip
    go_enter Try.func7, Try.ntmps7
    go_wp2
    go_ret
    exact ⟨rfl, Chg.refl _ _⟩
  · skip
    have hbig' : n ≤ 1048576 := by omega
    go_enter Try.func7, Try.ntmps7
    (go_wp2_with fail; (with_reducible refine (drawWalkTo A n c _ hC).mono ?_); rintro e w1 ⟨v1, xs, kind, many, key, A0, n0, c0, at_, rfl, ho1, hl1, hr0, hn0, hkd, hmd, hc1⟩)
    obtain ⟨A1, c1, rfl, hr1⟩ := OItems.read ho1
    have hm1 := hr1.cap; have hk1 := hr1.le; have hm0 := hr0.cap; have hk0 := hr0.le
    have HX := hid hr1; have HY := hid hr0
    have hkd0 := hkd.1; have hkd5 := hkd.2; have hmd0 := hmd.1; have hmd6 := hmd.2
    have s1 := hc1.size
    clear ho1 hr1 hr0 hkd hmd
    obtain ⟨L, hL⟩ : ∃ L, WalkF xs kind many key at_ = L := ⟨_, rfl⟩
    obtain ⟨t, ht⟩ : ∃ t, walkB xs kind many key at_ = t := ⟨_, rfl⟩
    have KS := hid (fun W (h : Chg No w1 W) => sWalkTo _ _ _ _ _ xs _ _ _ _ _ at_ kind many key W (HX.out.no h) (HY.out.no h))
    have KI := hid (fun W (h : Chg No w1 W) => iWalkTo _ _ _ _ _ xs _ _ _ _ _ at_ kind many key W (HX.out.no h) (HY.out.no h))
    rw [hL, ht] at KS KI
    have HL := hid hL
    clear hL
    cases t with
    | false =>
      clear ht
      (go_wp2_with fail; (with_reducible refine (KI.out _ (Chg.refl _ _)).mono ?_); rintro e w2 ⟨v2, rfl, ho2, hc2⟩)
      obtain ⟨A2, c2, rfl, hr2⟩ := OInts.read ho2
      have hp2 := hr2.cap; have hl2 := hr2.le
      have R2 := hid hr2
      have s2 := hc2.size
      clear ho2 hr2
      (go_wp2_with fail; (with_reducible refine (KS.out _ hc2).mono ?_); rintro e w3 ⟨v3, rfl, ho3, hc3⟩)
      obtain ⟨A3, c3, rfl, hr3⟩ := OInts.read ho3
      have hp3 := hr3.cap; have hl3 := hr3.le
      have R3 := hid hr3
      have s3 := hc3.size
      clear ho3 hr3
      (go_wp2_with fail; (with_reducible refine (equalInts _ _ _ _ _ _ _ _ _ L _ (R2.out.no hc3) R3.out).mono ?_); rintro e w4 ⟨rfl, hc4⟩)
      (go_wp2_with fail; (with_reducible refine (equalInts _ _ _ _ _ _ _ _ _ L _ (R2.out.no (hc3.no hc4)) (R3.out.no hc4)).mono ?_); rintro e w5 ⟨rfl, hc5⟩)
      go_wp2
      go_ret
      exact ⟨rfl, (((hc1.no hc2).no hc3).no hc4).no hc5⟩
    | true =>
      have hLL : walkL xs kind many at_ key = L := by rw [← WalkF_ok ht]; exact HL.out
      have hwb := ht
      unfold walkB at hwb
      rw [Bool.and_eq_true, Bool.and_eq_true, decide_eq_true_eq] at hwb
      have hlk := hwb.1
      have hok := linkB_ok hwb.1
      have hvb := hwb.2.1
      have hka := keyAt_mem.1 hwb.2.2
      have hx16 : xs.length ≤ 16 := storeB_len hok.store
      have hwl := walk_len (kind := kind) (many := many) (at_ := at_) hka
      rw [hLL] at hwl
      have hL1 : 1 ≤ L.length := hwl.1
      have hL16 : L.length ≤ xs.length := hwl.2
      have e0 : ((L.length : Int) == 0) = false := by simp; intro h; subst h; simp at hL1
      clear hwb hwl ht
      (go_wp2_with fail; (with_reducible refine (KI.out _ (Chg.refl _ _)).mono ?_); rintro e w2 ⟨v2, rfl, ho2, hc2⟩)
      obtain ⟨A2, c2, rfl, hr2⟩ := OInts.read ho2
      have hp2 := hr2.cap; have hl2 := hr2.le
      have R2 := hid hr2
      have s2 := hc2.size
      clear ho2 hr2
      (go_wp2_with fail; (with_reducible refine (KS.out _ hc2).mono ?_); rintro e w3 ⟨v3, rfl, ho3, hc3⟩)
      obtain ⟨A3, c3, rfl, hr3⟩ := OInts.read ho3
      have hp3 := hr3.cap; have hl3 := hr3.le
      have R3 := hid hr3
      have s3 := hc3.size
      clear ho3 hr3
      (go_wp2_with fail; (with_reducible refine (equalInts _ _ _ _ _ _ _ _ _ L _ (R2.out.no hc3) R3.out).mono ?_); rintro e w4 ⟨rfl, hc4⟩)
      have q4 : Chg No w1 w4 := (hc2.no hc3).no hc4
      have r4 : Chg No w2 w4 := hc3.no hc4
      have s4 := hc4.size
      clear R3 KI KS
      have hst := walk_step xs kind many at_ key
      have hdn := (walk_down xs kind many at_ key).1
      have hfi := walk_first xs kind many at_ key
      have hks := walk_keys (kind := kind) (many := many) (at_ := at_) hka
      rw [hLL] at hst hdn hfi hks
      have HST := hid hst; have HDN := hid hdn; have HFI := hid hfi; have HKS := hid hks
      have HOK := hid hok; have HVB := hid hvb
      have KA := hid (fun W (h : Chg No w1 W) => iLinksOf _ _ _ _ _ xs kind many W (HX.out.no h))
      rw [LinksF_ok hlk] at KA
      obtain ⟨M, hM⟩ : ∃ M, linksL xs kind many = M := ⟨_, rfl⟩
      have hMl : M.length = xs.length := by rw [← hM, linksL_len]
      rw [hM] at KA
      have HM := hid hM
      have hMx : M.length ≤ xs.length := by omega
      have hxM : xs.length ≤ M.length := by omega
      have hfld : ∀ (a b c : Value) (W : World), Sem.run Try.prog (Instr.field 48 (.agg #[a, b, c]) 1) W = .ok b W := fun a b c W => by first | rfl | kernel_rfl
      clear hst hdn hfi hks hlk hok hvb hka hLL hM hMl
      (go_wp2_with fail; (with_reducible refine (KA.out _ q4).mono ?_); rintro e w5 ⟨v5, rfl, ho5, hc5⟩)
      obtain ⟨A5, c5, rfl, hr5⟩ := ORows.read ho5
      have hp5 := hr5.cap; have hl5 := hr5.le
      have R5 := hid hr5
      have q5 := q4.no hc5
      have r5 := r4.no hc5
      clear ho5 hr5 KA
      go_wp2
      go_loopw [13] (fun i wr => ∃ j : Nat, 1 ≤ j ∧ j ≤ L.length ∧ i = .int .i64 j ∧ Chg No w5 wr) (fun i _ => L.length - (intOf i).toNat)
      case atStart => exact ⟨1, Nat.le_refl _, hL1, rfl, Chg.refl _ _⟩
      case round =>
        obtain ⟨j, hj1, hj, rfl, hc⟩ := hrel
        obtain ⟨wo, rfl⟩ : ∃ W : World, W = wr := ⟨_, rfl⟩
        by_cases hlt : j < L.length
        · obtain ⟨i, rfl⟩ : ∃ i, j = i + 1 := ⟨j - 1, by omega⟩
          obtain ⟨b, o, z2, rfl, _, _, hz2, hE2⟩ := (R2.out.no (r5.no hc)).at_ hlt
          obtain ⟨b', o', z1, hA', _, _, hz1, hE1⟩ := (R2.out.no (r5.no hc)).at_ (k := i) (by omega)
          injection hA' with hA'
          injection hA' with e1 e2 _
          subst e1 e2
          have f1 : wo.cell? ⟨b, o + i, none⟩ = some (.int .i64 z1) := by simpa [EInt] using hE1
          have f2 : wo.cell? ⟨b, o + (i + 1), none⟩ = some (.int .i64 z2) := by simpa [EInt] using hE2
          have F1 := hid f1; have F2 := hid f2
          have hstep := HST.out i z1 z2 hz1 hz2
          have hdn : nearB (hitK xs kind at_ z2) (hitK xs kind at_ z1) = true := by
            have h1 := List.getElem?_eq_some_iff.1 hz1
            have h2 := List.getElem?_eq_some_iff.1 hz2
            have h3 := (List.pairwise_iff_getElem.1 HDN.out) i (i + 1) h1.1 h2.1 (by omega)
            rw [h1.2, h2.2] at h3
            exact h3
          obtain ⟨q1, x1, hx1, hk1', hq1⟩ := keyAt_some HOK.out.store (HKS.out z1 (List.mem_of_getElem? hz1))
          obtain ⟨q2, x2, hx2, hk2', hq2⟩ := keyAt_some HOK.out.store (HKS.out z2 (List.mem_of_getElem? hz2))
          have hq1n := (List.getElem?_eq_some_iff.1 hx1).1
          have hq2n := (List.getElem?_eq_some_iff.1 hx2).1
          obtain ⟨b3, o3, y1, rfl, _, _, hy1, hE3⟩ := (HX.out.no (q5.no hc)).at_ hq1n
          have e3 : y1 = x1 := by rw [hy1] at hx1; injection hx1
          subst e3
          obtain ⟨b4, o4, y2, hA4, _, _, hy2, hE4⟩ := (HX.out.no (q5.no hc)).at_ hq2n
          injection hA4 with hA4
          injection hA4 with e1 e2 _
          subst e1 e2
          have e4 : y2 = x2 := by rw [hy2] at hx2; injection hx2
          subst e4
          obtain ⟨hE31, ⟨A6, n6, c6, hE32, hv6⟩, hE33⟩ := hE3
          obtain ⟨hE41, ⟨A7, n7, c7, hE42, hv7⟩, hE43⟩ := hE4
          have hD1 := hitK_eq HOK.out.store kind at_ hx1
          have hD2 := hitK_eq HOK.out.store kind at_ hx2
          have K1 := hid (fun W (h : Chg No wo W) => itemOf _ _ b3 o3 _ _ xs q1 y1 A6 n6 c6 W (HX.out.no ((q5.no hc).no h)) hx1 (fun j y hj hy e => by have := storeB_lt HOK.out.store hy hx1 hj; omega) (cell_keep h hE32 (fun e => e)))
          have K2 := hid (fun W (h : Chg No wo W) => itemOf _ _ b3 o3 _ _ xs q2 y2 A7 n7 c7 W (HX.out.no ((q5.no hc).no h)) hx2 (fun j y hj hy e => by have := storeB_lt HOK.out.store hy hx2 hj; omega) (cell_keep h hE42 (fun e => e)))
          have KD1 := hid (fun W (h : Chg No wo W) => iDISTANCE _ _ _ _ A6 _ n6 c6 _ _ y1.vec at_ kind W (RInts.no hv6 h) (HY.out.no ((q5.no hc).no h)) (storeB_vec HOK.out.store (List.mem_of_getElem? hx1)) HVB.out HOK.out.kind1 HOK.out.kind4)
          have KD2 := hid (fun W (h : Chg No wo W) => iDISTANCE _ _ _ _ A7 _ n7 c7 _ _ y2.vec at_ kind W (RInts.no hv7 h) (HY.out.no ((q5.no hc).no h)) (storeB_vec HOK.out.store (List.mem_of_getElem? hx2)) HVB.out HOK.out.kind1 HOK.out.kind4)
          obtain ⟨d1, hd1⟩ : ∃ d, distF kind y1.vec at_ = d := ⟨_, rfl⟩
          obtain ⟨d2, hd2⟩ : ∃ d, distF kind y2.vec at_ = d := ⟨_, rfl⟩
          rw [hd1] at hD1 KD1
          rw [hd2] at hD2 KD2
          rw [hk1'] at hD1 K1
          rw [hk2'] at hD2 K2
          rw [hD1, hD2, nearB_iff] at hdn
          simp only [] at hdn
          have hq1M : q1 < M.length := by omega
          have HIN := hid (show ∀ r, M[q1]? = some r → z2 ∈ r from fun r hr => by
            have h9 := linksL_at (l := xs) (kind := kind) (many := many) hq1n
            rw [HM.out, hr] at h9
            injection h9 with h9
            rw [h9]
            unfold gOf at hstep
            rw [hq1] at hstep
            exact hstep)
          have HNE := hid (show ∀ (m : Nat) (y : It), xs[m]? = some y → m ≠ q1 → y.key ≠ z1 from fun m y hy hm e => hm (by
            have h9 := keyAt_store HOK.out.store hy
            rw [e, hq1] at h9
            omega))
          have HX1 := hid hx1; have HK1 := hid hk1'
          obtain ⟨t1, ht1⟩ : ∃ t, y1.tags = t := ⟨_, rfl⟩
          obtain ⟨t2, ht2⟩ : ∃ t, y2.tags = t := ⟨_, rfl⟩
          rw [ht1] at K1
          rw [ht2] at K2
          have i1 : ((i : Int) + 1 - 1) = (i : Int) := by omega
          have i2 : i < L.length := by omega
          have i3 : ((i : Int) + 1).toNat = i + 1 := by omega
          have dA : decide (d1 < d2) = false := decide_eq_false (by omega)
          have dB : d2 = d1 → decide (z1 ≤ z2) = false := fun e => decide_eq_false (by omega)
          have HDB := hid dB
          clear hz1 hz2 hE1 hE2 hstep hdn hx1 hx2 hk1' hk2' hq1 hq2 hE31 hE32 hE33 hE41 hE42 hE43 hv6 hv7 hD1 hD2 hd1 hd2 ht1 ht2 hy1 hy2 dB
          (go_wp2_with fail; (with_reducible refine (K1.out _ (Chg.refl _ _)).mono ?_); rintro e wa ⟨rfl, hca⟩)
          (go_wp2_with fail; (with_reducible refine (KD1.out _ hca).mono ?_); rintro e wb ⟨rfl, hcb⟩)
          have hcb2 : Chg No wo wb := hca.no hcb
          have g2 : wb.cell? ⟨b, o + (i + 1), none⟩ = some (.int .i64 z2) := cell_keep hcb2 F2.out (fun e => e)
          (go_wp2_with fail; (with_reducible refine (K2.out _ hcb2).mono ?_); rintro e wc ⟨rfl, hcc⟩)
          (go_wp2_with fail; (with_reducible refine (KD2.out _ (hcb2.no hcc)).mono ?_); rintro e wd ⟨rfl, hcd⟩)
          have hod : Chg No wo wd := (hcb2.no hcc).no hcd
          clear K1 K2 KD1 KD2
          go_wp2
          go_loopw [16, 17] (fun s k wr => ∃ (m : Nat) (t : Bool), m ≤ xs.length ∧ k = .int .i64 m ∧ s = .bool t ∧ Hid (t = decide (q1 < m)) ∧ Chg No wd wr) (fun _ k _ => xs.length - (intOf k).toNat)
          case atStart => exact ⟨0, false, Nat.zero_le _, rfl, rfl, (by show false = _; simp), Chg.refl _ _⟩
          case round =>
            obtain ⟨m, t, hm, rfl, rfl, HT, hcm⟩ := hrel
            obtain ⟨wi, rfl⟩ : ∃ W : World, W = wr := ⟨_, rfl⟩
            have hoi : Chg No wo wi := hod.no hcm
            have p1 : ∀ p : NB wi, p.wd.cell? ⟨b, o + i, none⟩ = some (.int .i64 z1) := nb_cell (cell_keep hoi F1.out (fun e => e))
            have p2 : ∀ p : NB wi, p.wd.cell? ⟨b, o + (i + 1), none⟩ = some (.int .i64 z2) := nb_cell (cell_keep hoi F2.out (fun e => e))
            by_cases hlm : m < xs.length
            · have dM : decide (m < M.length) = true := decide_eq_true (by omega)
              have dM2 : decide ((m : Int) < (M.length : Int)) = true := decide_eq_true (by omega)
              have dX2 : decide ((m : Int) < (xs.length : Int)) = true := decide_eq_true (by omega)
              have hmM : m < M.length := by omega
              cases t with
              | true =>
                have HT2 := hid (show true = decide (q1 < m + 1) from by
                  have h9 := of_decide_eq_true HT.out.symm
                  rw [decide_eq_true (by omega)])
                go_wp2_with fail
                (refine wp_region_nb (by kernel_rfl) (by kernel_rfl) ?_; (repeat (first | go_big_quiet_step (fail) | quiet_step (fail))); (with_reducible refine wpQuiet_nil ?_); intro wq hw1; have hq := nb_out hw1; clear hw1)
                go_wp2
                go_roundw
                case rel => exact ⟨m + 1, true, by omega, by go_num, rfl, HT2, hcm.no hq⟩
                case measure => simp [intOf]; omega
              | false =>
                have hnt : ¬ q1 < m := of_decide_eq_false HT.out.symm
                obtain ⟨b5, o5, y, hA5, _, _, hy, hE5⟩ := (HX.out.no ((q5.no hc).no hoi)).at_ hlm
                injection hA5 with hA5
                injection hA5 with e1 e2 _
                subst e1 e2
                have p3 : ∀ p : NB wi, p.wd.cell? ⟨b3, o3 + m * 3, none⟩ = some (.int .i64 y.key) := nb_cell hE5.1
                by_cases hmq : m = q1
                · obtain ⟨bR, oR, r, Ar, nr, cr, rfl, _, _, hr, fR, hvr⟩ := (R5.out.no (hc.no hoi)).at_ hmM
                  have hin : decide (z2 ∈ r) = true := decide_eq_true (HIN.out r (by rw [← hmq]; exact hr))
                  have KN := hid (fun W (h : Chg No wi W) => isInL _ _ Ar nr cr r z2 W (hvr.no h))
                  rw [hin] at KN
                  have p4 : ∀ p : NB wi, p.wd.cell? ⟨bR, oR + m, none⟩ = some (.slice Ar nr cr) := nb_cell fR
                  have hkk : y.key = z1 := by
                    have h9 := HX1.out
                    rw [← hmq, hy] at h9
                    injection h9 with h9
                    rw [h9]; exact HK1.out
                  have e5 : (y.key == z1) = true := by simp [hkk]
                  have HT2 := hid (show true = decide (q1 < m + 1) from by rw [decide_eq_true (by omega)])
                  clear hy hE5 hr fR hvr hin hkk hmq hnt
                  go_wp2_with fail
                  (refine wp_region_nb (by kernel_rfl) (by kernel_rfl) ?_; (repeat (first | go_big_quiet_step ((go_at_call 24; exact nb_same (KN.out _ (NB.h _)))) | quiet_step ((go_at_call 24; exact nb_same (KN.out _ (NB.h _)))))); (with_reducible refine wpQuiet_nil ?_); intro wq hw1; have hq := nb_out hw1; clear hw1)
                  go_wp2
                  go_roundw
                  case rel => exact ⟨m + 1, true, by omega, by go_num, rfl, HT2, hcm.no hq⟩
                  case measure => simp [intOf]; omega
                · have hkk := HNE.out m y hy hmq
                  have e5 : (y.key == z1) = false := by simp [hkk]
                  have HT2 := hid (show false = decide (q1 < m + 1) from by rw [decide_eq_false (by omega)])
                  clear hy hE5 hkk hmq hnt
                  go_wp2_with fail
                  (refine wp_region_nb (by kernel_rfl) (by kernel_rfl) ?_; (repeat (first | go_big_quiet_step (fail) | quiet_step (fail))); (with_reducible refine wpQuiet_nil ?_); intro wq hw1; have hq := nb_out hw1; clear hw1)
                  go_wp2
                  go_roundw
                  case rel => exact ⟨m + 1, false, by omega, by go_num, rfl, HT2, hcm.no hq⟩
                  case measure => simp [intOf]; omega
            · have dX2 : decide ((m : Int) < (xs.length : Int)) = false := decide_eq_false (by omega)
              have ht : t = true := by rw [HT.out, decide_eq_true (by omega)]
              clear HT
              subst ht
              by_cases hdd : d2 = d1
              · have dC := HDB.out hdd
                have e6 : (d2 == d1) = true := by simp [hdd]
                clear hdd
                go_wp2_with fail
                (refine wp_region_nb (by kernel_rfl) (by kernel_rfl) ?_; (repeat (first | go_big_quiet_step (fail) | quiet_step (fail))); (with_reducible refine wpQuiet_nil ?_); intro wq hw1; have hq := nb_out hw1; clear hw1)
                go_wp2
                go_roundw
                case rel => exact ⟨i + 1 + 1, by omega, by omega, by go_num, hc.no (hoi.no hq)⟩
                case measure => simp [intOf]; omega
              · have e6 : (d2 == d1) = false := by simp [hdd]
                clear hdd
                go_wp2_with fail
                (refine wp_region_nb (by kernel_rfl) (by kernel_rfl) ?_; (repeat (first | go_big_quiet_step (fail) | quiet_step (fail))); (with_reducible refine wpQuiet_nil ?_); intro wq hw1; have hq := nb_out hw1; clear hw1)
                go_wp2
                go_roundw
                case rel => exact ⟨i + 1 + 1, by omega, by omega, by go_num, hc.no (hoi.no hq)⟩
                case measure => simp [intOf]; omega
        · obtain ⟨b, o, z, rfl, _, _, hz, hE⟩ := (R2.out.no (r5.no hc)).at_ (k := 0) (by omega)
          have hzk : z = key := by
            have h9 := HFI.out
            rw [hz] at h9
            injection h9
          have f1 : wo.cell? ⟨b, o, none⟩ = some (.int .i64 z) := by simpa [EInt] using hE
          have e7 : (z == key) = true := by simp [hzk]
          clear hz hE hzk
          go_wp2
          go_ret
          exact ⟨rfl, hc1.no (q5.no hc)⟩

set_option maxRecDepth 100000 in
theorem lifted (os : Os) (started : os.Started) (H : Type) (enc : TypeId × Value → H) :
    ReturnsInHanded {} Try.checked os 7 .any (Rows.fnWalkToSpec.pre6 enc Try.prog Try.f7 Rows.fnWalkToRow.domain false) (Rows.fnWalkToSpec.post enc Try.prog Try.f7 false true false false) := by
  refine returnsInHanded_of_change (C := Try.checked) own started (by kernel_rfl) Try.func7
    (ChangeSpec.witness6 (enc := enc) (C := Try.checked) false ⟨#[], #[.slice none 0 0], []⟩ 8 (by kernel_rfl) (by kernel_rfl) (by kernel_rfl) (by kernel_rfl)) ?_
  intro W base args ds gs before hval0 hW hcnd _
  have hval : ∀ (j : Nat) t v, Try.f7.params[j]? = some t → args[j]? = some v → Value.okWide Try.prog W .any base t v := hval0
  have hW' := hW
  obtain ⟨p, q, hA0, hV, rfl, hfz, hnd⟩ := hW
  have hA : DataW.TrodAll enc Try.prog W 0 (fun _ => true) true Try.f7.params.toList args.toList ds p := hA0
  rw [Try.params7] at hA hval
  obtain ⟨v0, vs0, d0, ds0, p0, q0, hargs, rfl, rfl, h0, r0⟩ := trodAll_cons hA
  obtain ⟨rfl, rfl, rfl⟩ := trodAll_nil r0
  obtain rfl : args = #[v0] := by cases args; simp_all
  obtain ⟨rfl, rfl⟩ := trodVars_none hV
  obtain ⟨a0, len0, cap0, rfl⟩ := okWide_slice Try.underlying35 (hval 0 35 v0 rfl rfl)
  have k0 := h0
  have lt0 : ∀ x ∈ p0, x.block < W.heap.size := by obtain ⟨m, hm⟩ := k0; exact DataW.trod_lt m _ _ _ hm
  have w0 : Code W W.heap.size a0 len0 cap0 := by
    obtain ⟨fuel, hf⟩ := h0
    rcases open_ints Try.underlying35 Try.underlying5 (by kernel_rfl) hf with ⟨hcs, _⟩ | ⟨x, l, c, zs, hcs, _, hl, hm, hz, _, hcell, hwz⟩
    · simp [Value.cells] at hcs
      obtain ⟨rfl, rfl, rfl⟩ := hcs
      exact code_nil _
    · simp [Value.cells] at hcs
      obtain ⟨rfl, rfl, rfl⟩ := hcs
      exact code_row hl hm (by simpa using hz) hcell hwz
  clear hA0 hval0
  refine (walk a0 len0 cap0 W w0).mono fun e W' ⟨he, bel0⟩ => ?_
  have bel := bel0.below
  subst he
  exact ⟨_, rfl, _, _, _, [], _, [], hW', trodAll_mk1 (shut_bool Try.underlying4 _), (trodAll_cons_mk (Below.trod laidOut (by kernel_rfl) (of_decide_eq_true (by kernel_rfl)) k0 bel lt0) trodAll_mk0), rfl, bel.frame _, fun h => by cases h⟩

theorem over : Rows.fnWalkToRow.holds Try.pinned (OpenSpec.ofChange Rows.fnWalkToSpec) :=
  OpenClaim.holds_of_wide 7 Try.f7 rfl rfl rfl rfl rfl rfl rfl ⟨rfl, rfl, rfl, rfl, rfl⟩ rfl rfl rfl rfl rfl (by kernel_rfl) Try.func7 (by kernel_rfl)
    (of_decide_eq_true (by kernel_rfl)) (by unfold Func.isWrapper; first | (rw [if_pos (by decide +kernel)]; kernel_rfl) | (rw [if_neg (by decide +kernel)]; exact ⟨rfl, rfl⟩))
    (fun os started H enc _ => lifted os started H enc)

theorem proved : Rows.FnWalkToSaid := over
#print axioms proved

end lawWalkTo
end Go.Proofs.Ytgidepnlflmclaa
