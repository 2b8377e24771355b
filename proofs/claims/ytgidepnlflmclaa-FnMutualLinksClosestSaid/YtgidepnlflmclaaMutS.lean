/- MutualLinks: the reference's. -/
import Derived.Test.YtgidepnlflmclaaMut
import Derived.Deep.RegionLaw
import Derived.Deep.DeepCutAuto
namespace Go.Proofs.Ytgidepnlflmclaa
open Go.RowKit Go.Sort Go.Shelf
set_option linter.unusedVariables false
set_option linter.unusedSimpArgs false
theorem linkB_q (l : List It) (kind many : Int) : linkB l kind many = (storeB l && (kindB kind && inB many 1 5)) := rfl
set_option maxRecDepth 100000 in
set_option maxHeartbeats 8000000 in
theorem sMutualLinks (l0 h0 : Nat) (A : Option Addr) (n c : Nat) (xs : List It) (kind many : Int) (w : World) (hx : RItems w l0 h0 A n c xs) :
    Calls Try.prog 29 #[.slice A n c, .int .i64 kind, .int .i64 many] w (RetRows (MutF xs kind many) w) := by
  have hnc := hx.le; have hcm := hx.cap
  have HX := hid hx
  have K1 := hid (fun W (h : RItems W l0 h0 A n c xs) => sValidStore l0 h0 A n c xs W h)
  have K2 := hid (fun W => sValidKind kind W)
  have K3 := hid (fun W => inRange many 1 5 W)
  have hcq := linkB_q xs kind many
  have hw0 : Chg No w (w.alloc (.cells #[] 23)) := (Chg.refl _ w).alloc _
  cases h1 : storeB xs with
  | false =>
    rw [h1] at K1 hcq
    have HF := hid (MutF_no hcq)
    clear h1 hcq hx
    go_enter Try.func29, Try.ntmps29
    (go_wp2_with fail; (with_reducible refine (K1.out _ (HX.out.no hw0)).mono ?_); rintro e w1 ⟨rfl, hc1⟩)
    go_wp2
    go_ret
    exact ⟨_, rfl, by rw [HF.out]; exact ORows.nil_ _ _, by (repeat (first | (with_reducible exact Chg.refl _ _) | ((with_reducible refine Chg.setNew ?_ _ ?_); rotate_left; first | (dsimp only; omega) | (simp; done) | (simp; omega)) | (with_reducible refine Chg.alloc ?_ _) | (with_reducible refine Chg.drew ?_) | (with_reducible refine Chg.drewN ?_ _) | (with_reducible refine Chg.no ?_ (by assumption)) | (with_reducible refine Chg.and_ ?_ (by assumption)) | ((with_reducible refine Chg.at_ ?_ (by assumption) ?_); rotate_left; (try simp only [World.size_alloc]); omega)))⟩
  | true =>
    cases h2 : kindB kind with
    | false =>
      rw [h1, h2] at hcq
      rw [h1] at K1
      rw [h2] at K2
      have HF := hid (MutF_no hcq)
      clear h1 h2 hcq hx
      go_enter Try.func29, Try.ntmps29
      (go_wp2_with fail; (with_reducible refine (K1.out _ (HX.out.no hw0)).mono ?_); rintro e w1 ⟨rfl, hc1⟩)
      (go_wp2_with fail; (with_reducible refine (K2.out _).mono ?_); rintro e w2 ⟨rfl, rfl⟩)
      go_wp2
      go_ret
      exact ⟨_, rfl, by rw [HF.out]; exact ORows.nil_ _ _, by (repeat (first | (with_reducible exact Chg.refl _ _) | ((with_reducible refine Chg.setNew ?_ _ ?_); rotate_left; first | (dsimp only; omega) | (simp; done) | (simp; omega)) | (with_reducible refine Chg.alloc ?_ _) | (with_reducible refine Chg.drew ?_) | (with_reducible refine Chg.drewN ?_ _) | (with_reducible refine Chg.no ?_ (by assumption)) | (with_reducible refine Chg.and_ ?_ (by assumption)) | ((with_reducible refine Chg.at_ ?_ (by assumption) ?_); rotate_left; (try simp only [World.size_alloc]); omega)))⟩
    | true =>
      cases h3 : inB many 1 5 with
      | false =>
        rw [h1, h2, h3] at hcq
        rw [h1] at K1
        rw [h2] at K2
        rw [h3] at K3
        have HF := hid (MutF_no hcq)
        clear h1 h2 h3 hcq hx
        go_enter Try.func29, Try.ntmps29
        (go_wp2_with fail; (with_reducible refine (K1.out _ (HX.out.no hw0)).mono ?_); rintro e w1 ⟨rfl, hc1⟩)
        (go_wp2_with fail; (with_reducible refine (K2.out _).mono ?_); rintro e w2 ⟨rfl, rfl⟩)
        (go_wp2_with fail; (with_reducible refine (K3.out _).mono ?_); rintro e w2 ⟨rfl, rfl⟩)
        go_wp2
        go_ret
        exact ⟨_, rfl, by rw [HF.out]; exact ORows.nil_ _ _, by (repeat (first | (with_reducible exact Chg.refl _ _) | ((with_reducible refine Chg.setNew ?_ _ ?_); rotate_left; first | (dsimp only; omega) | (simp; done) | (simp; omega)) | (with_reducible refine Chg.alloc ?_ _) | (with_reducible refine Chg.drew ?_) | (with_reducible refine Chg.drewN ?_ _) | (with_reducible refine Chg.no ?_ (by assumption)) | (with_reducible refine Chg.and_ ?_ (by assumption)) | ((with_reducible refine Chg.at_ ?_ (by assumption) ?_); rotate_left; (try simp only [World.size_alloc]); omega)))⟩
      | true =>
        rw [h1, h2, h3] at hcq
        have hok := linkB_ok hcq
        rw [h1] at K1
        rw [h2] at K2
        rw [h3] at K3
        have HF := hid (MutF_ok hcq)
        have hxl : xs.length = n := hx.len
        have hn16 : n ≤ 16 := by have := storeB_len hok.store; omega
        have K4 := hid (fun W (h : RItems W l0 h0 A n c xs) => sLinksL l0 h0 A n c xs kind many W h hok)
        obtain ⟨L, hL⟩ : ∃ L, linksL xs kind many = L := ⟨_, rfl⟩
        have hLl : L.length = xs.length := by rw [← hL, linksL_len]
        rw [hL] at K4
        have HLL := hid hL
        have HXL := hid hxl
        have hLn : n ≤ L.length := by omega
        have hLn2 : L.length ≤ n := by omega
        have hxn : n ≤ xs.length := by omega
        have hxn2 : xs.length ≤ n := by omega
        have HO00 := hid (show ORows (w.alloc (.cells #[] 23)) w.heap.size (.slice (some ⟨w.heap.size, 0, none⟩) 0 0) (mutTo xs kind many 0) from
          ⟨[], rfl, OSl.lit (enc := cRow) (n := 0) [] [] (fun _ => rfl) rfl rfl (by omega) (Nat.le_refl _) (heap_top rfl), (fun p hp => by cases hp), List.Pairwise.nil⟩)
        have s0 : w.heap.size + 1 ≤ (w.alloc (.cells #[] 23)).heap.size := by simp
        clear hcq hx hok hL hLl hxl h1 h2 h3
        go_enter Try.func29, Try.ntmps29
        (go_wp2_with fail; (with_reducible refine (K1.out _ (HX.out.no hw0)).mono ?_); rintro e w1 ⟨rfl, hc1⟩)
        (go_wp2_with fail; (with_reducible refine (K2.out _).mono ?_); rintro e w2 ⟨rfl, rfl⟩)
        (go_wp2_with fail; (with_reducible refine (K3.out _).mono ?_); rintro e w2 ⟨rfl, rfl⟩)
        (go_wp2_with fail; (with_reducible refine (K4.out _ (HX.out.no (hw0.no hc1))).mono ?_); rintro e w4 ⟨v4, rfl, ho4, hc4⟩)
        obtain ⟨A4, c4, rfl, hr4⟩ := ORows.read ho4
        have hp4 := hr4.cap; have hq4 := hr4.le
        have R4 := hid hr4
        have q4 : Chg No w w4 := (hw0.no hc1).no hc4
        have s1 := hc1.size
        have s4 := q4.size
        have HO0 := hid (ORows.no HO00.out (hc1.no hc4))
        have HW0 := hid (show ∀ g, (Value.slice (some ⟨w.heap.size, 0, none⟩) 0 0).ownBlock = some g → g = w.heap.size ∨ w4.heap.size ≤ g from fun g hg => by injection hg with hg; exact Or.inl hg.symm)
        have s14 : w.heap.size + 1 ≤ w1.heap.size := by omega
        clear ho4 hr4 hc1 hc4 K1 K2 K3 K4 hw0 HO00 s0 s1
        go_wp2
        go_loopw [7, 9] (fun v i wr => ∃ k : Nat, k ≤ n ∧ i = .int .i64 k ∧ Chg (fun b => b = w.heap.size) w4 wr ∧ Hid (ORows wr w.heap.size v (mutTo xs kind many k)) ∧ Hid (∀ g, v.ownBlock = some g → g = w.heap.size ∨ w4.heap.size ≤ g)) (fun _ i _ => n - (intOf i).toNat)
        case atStart => exact ⟨0, Nat.zero_le _, rfl, Chg.refl _ _, HO0, HW0⟩
        case round =>
          clear HO0 HW0
          obtain ⟨i, hi, rfl, hc, HO, HWO⟩ := hrel
          obtain ⟨wo, rfl⟩ : ∃ W : World, W = wr := ⟨_, rfl⟩
          have so := hc.size
          have qo : Chg No w wo := q4.trans hc (fun j hj (h : j = _) => by omega)
          by_cases hlt : i < n
          · have HO1 := hid (show ORows wo w.heap.size u7 (mutTo xs kind many i ++ mutRow xs kind many i (i + 1)) from by rw [mutRow_start, List.append_nil]; exact HO.out)
            go_wp2
            go_loopw [7, 10] (fun v i' wr => ∃ k : Nat, i + 1 ≤ k ∧ k ≤ n ∧ i' = .int .i64 k ∧ Chg (fun b => b = w.heap.size) w4 wr ∧ Hid (ORows wr w.heap.size v (mutTo xs kind many i ++ mutRow xs kind many i k)) ∧ Hid (∀ g, v.ownBlock = some g → g = w.heap.size ∨ w4.heap.size ≤ g)) (fun _ i' _ => n - (intOf i').toNat)
            case atStart => exact ⟨i + 1, Nat.le_refl _, by omega, by go_num, hc, HO1, HWO⟩
            case round =>
              clear HO1 HWO qo so hc
              obtain ⟨k, hk1, hk, rfl, hck, HO, HWO⟩ := hrel
              obtain ⟨wi, rfl⟩ : ∃ W : World, W = wr := ⟨_, rfl⟩
              have si := hck.size
              have qk : Chg No w wi := q4.trans hck (fun j hj (h : j = _) => by omega)
              by_cases hlk : k < n
              · have RK := hid (R4.out.keep hck (fun b h1 h2 (h3 : b = _) => by omega))
                obtain ⟨b, o, z, rfl, _, _, hzk, hE⟩ := (HX.out.no qk).at_ hlt
                obtain ⟨zk, zv, zt⟩ := z
                have HZ := hid hzk
                have f4 : ∀ p : NB wi, p.wd.cell? ⟨b, o + i * 3, none⟩ = some (.int .i64 zk) := nb_cell hE.1
                have F4 := hid hE.1
                clear hzk hE
                obtain ⟨bL, oL, ri, Ai, ni, ci, rfl, _, _, hri, fi', hvi⟩ := RK.out.at_ (k := i) (by omega)
                obtain ⟨bL', oL', rk, Ak, nk, ck, hAL, _, _, hrk, fk', hvk⟩ := RK.out.at_ (k := k) (by omega)
                injection hAL with hAL
                injection hAL with e1 e2 _
                subst e1 e2
                obtain rfl : ni = ri.length := hvi.len.symm
                obtain rfl : nk = rk.length := hvk.len.symm
                have hri2 : ri = linkAt xs kind many i := by
                  have h9 := linksL_at (l := xs) (kind := kind) (many := many) (i := i) (by omega)
                  rw [HLL.out, hri] at h9
                  injection h9
                have hrk2 : rk = linkAt xs kind many k := by
                  have h9 := linksL_at (l := xs) (kind := kind) (many := many) (i := k) (by omega)
                  rw [HLL.out, hrk] at h9
                  injection h9
                obtain ⟨b2, o2, y, hA2, _, _, hyk, hE2⟩ := (HX.out.no qk).at_ (k := k) (by omega)
                injection hA2 with hA2
                injection hA2 with e1 e2 _
                subst e1 e2
                obtain ⟨yk, yv, yt⟩ := y
                have hki : keyI xs i = zk := keyI_eq HZ.out
                have hkk : keyI xs k = yk := keyI_eq hyk
                have HMB := hid (show mutB xs kind many i k = (decide (yk ∈ ri) && decide (zk ∈ rk)) from by unfold mutB; rw [hki, hkk, ← hri2, ← hrk2])
                have HMS := hid (mutRow_snoc (l := xs) (kind := kind) (many := many) (i := i) (k := k) (by omega))
                have HKI := hid hki; have HKK := hid hkk
                have f1 : ∀ p : NB wi, p.wd.cell? ⟨bL, oL + i, none⟩ = some (.slice Ai ri.length ci) := nb_cell fi'
                have f2 : ∀ p : NB wi, p.wd.cell? ⟨bL, oL + k, none⟩ = some (.slice Ak rk.length ck) := nb_cell fk'
                have f3 : ∀ p : NB wi, p.wd.cell? ⟨b, o + k * 3, none⟩ = some (.int .i64 yk) := nb_cell hE2.1
                have F3 := hid hE2.1
                have KC1 := hid (fun W (h : Chg No wi W) => sIsIn _ _ Ai ri.length ci ri yk W (hvi.no h))
                have KC2 := hid (fun W (h : Chg No wi W) => sIsIn _ _ Ak rk.length ck rk zk W (hvk.no h))
                have hlr := hvi.le; have hpr := hvi.cap; have hlr2 := hvk.le; have hpr2 := hvk.cap
                clear hri hri2 hrk hrk2 fi' fk' hvi hvk hyk hE2 hki hkk
                by_cases hin1 : yk ∈ ri
                · have hb1 : decide (yk ∈ ri) = true := decide_eq_true hin1
                  clear hin1
                  by_cases hin2 : zk ∈ rk
                  · have hb2 : decide (zk ∈ rk) = true := decide_eq_true hin2
                    clear hin2
                    go_wp2_with fail
                    (refine wp_region_nb (by kernel_rfl) (by kernel_rfl) ?_; (repeat (first | go_big_quiet_step ((go_at_call 64; first | (with_reducible exact nb_sameE (KC1.out _ (NB.h _)) (congrArg Value.bool hb1)) | (with_reducible exact nb_sameE (KC2.out _ (NB.h _)) (congrArg Value.bool hb2)))) | quiet_step ((go_at_call 64; first | (with_reducible exact nb_sameE (KC1.out _ (NB.h _)) (congrArg Value.bool hb1)) | (with_reducible exact nb_sameE (KC2.out _ (NB.h _)) (congrArg Value.bool hb2)))))); (with_reducible refine wpQuiet_nil ?_); intro wq hw1; have hq := nb_out hw1; clear hw1)
                    obtain ⟨wB, rfl⟩ : ∃ W : World, W = wq := ⟨_, rfl⟩
                    have hcB : Chg No w wB := qk.no hq
                    have hcB4 : Chg (fun b => b = w.heap.size) w4 wB := hck.no hq
                    have sB := hcB.size
                    obtain ⟨ps, hps, hoo, hii, haa⟩ := HO.out.no hq
                    have hpl : ps.length ≤ 1000 := by
                      have h9 := congrArg List.length hps
                      rw [List.length_map, List.length_append] at h9
                      have h8 := mutTo_len xs kind many i
                      have h7 := mutRow_len xs kind many i k
                      have h6 : i * xs.length ≤ 16 * 16 := Nat.mul_le_mul (by omega) (by omega)
                      omega
                    have HPS := hid hps; have HOO := hid hoo; have HII := hid hii; have HAA := hid haa
                    have g3 : wB.cell? ⟨b, o + k * 3, none⟩ = some (.int .i64 yk) := cell_keep hq F3.out (fun e => e)
                    have g4 : wB.cell? ⟨b, o + i * 3, none⟩ = some (.int .i64 zk) := cell_keep hq F4.out (fun e => e)
                    clear hps hoo hii haa
                    go_wp2_with fail
                    go_region_law ((refine step_push _ rfl (.tmp 65) (.tmp 77) 44 rfl 23 1 24 (.slice none 0 0) cRow Try.underlying44 infoRow rfl (by omega) (by omega) (fun _ => rfl) oneRow w.heap.size _ ps rfl ?_ _ 1 1 [⟨[zk, yk], some ⟨wB.heap.size, 0, none⟩, 2, 2⟩] rfl ?_ ?_ ?_ ?_); (refine OSl.no HOO.out ?_); (repeat (first | (with_reducible exact Chg.refl _ _) | ((with_reducible refine Chg.setNew ?_ _ ?_); rotate_left; first | (dsimp only; omega) | (simp; done) | (simp; omega)) | (with_reducible refine Chg.alloc ?_ _) | (with_reducible refine Chg.drew ?_) | (with_reducible refine Chg.drewN ?_ _) | (with_reducible refine Chg.no ?_ (by assumption)) | (with_reducible refine Chg.and_ ?_ (by assumption)) | ((with_reducible refine Chg.at_ ?_ (by assumption) ?_); rotate_left; (try simp only [World.size_alloc]); omega))); (first | exact Src.one (Box.new _ 23 rfl) rfl | exact Src.one (Box.new _ 23 (by simp)) rfl); (simp; omega); (simp; omega); intro v4 w8 ho8 hg8 hb8; have HP := hid (pair_push HPS.out HOO.out HII.out HAA.out sB (by (repeat (first | (with_reducible exact Chg.refl _ _) | ((with_reducible refine Chg.setNew ?_ _ ?_); rotate_left; first | (dsimp only; omega) | (simp; done) | (simp; omega)) | (with_reducible refine Chg.alloc ?_ _) | (with_reducible refine Chg.drew ?_) | (with_reducible refine Chg.drewN ?_ _) | (with_reducible refine Chg.no ?_ (by assumption)) | (with_reducible refine Chg.and_ ?_ (by assumption)) | ((with_reducible refine Chg.at_ ?_ (by assumption) ?_); rotate_left; (try simp only [World.size_alloc]); omega)))) (by first | exact heap_under1 rfl | exact heap_under rfl | exact heap_under1 (by simp) | exact heap_under (by simp)) (Nat.le_refl _) hg8 ho8); have hc8 : Chg (fun b => b = w.heap.size) w4 w8 := Chg.grown (by repeat (first | (with_reducible exact hcB4) | (with_reducible refine Chg.alloc ?_ _) | (with_reducible refine Chg.drew ?_))) hg8 (fun j hj hlt => (HWO.out j hj).resolve_right (by omega)); have HWO2 := hid (show ∀ g, v4.ownBlock = some g → g = w.heap.size ∨ w4.heap.size ≤ g from fun g hg => Or.elim (hb8 g hg) (fun h => HWO.out g h) (fun h => Or.inr (by (have s8 := hcB4.size; (try simp at h); omega)))))
                    all_goals
                      have HO2 : Hid (ORows w8 w.heap.size v4 (mutTo xs kind many i ++ mutRow xs kind many i (k + 1))) := by
                        show ORows _ _ _ _
                        rw [HMS.out, if_pos (by rw [HMB.out, hb1, hb2]; rfl), HKI.out, HKK.out, ← List.append_assoc]
                        exact HP.out
                      skip
                      clear ho8 hg8 hb8 HP
                      go_wp2
                      go_roundw
                      case rel => exact ⟨k + 1, by omega, by omega, by go_num, hc8, HO2, HWO2⟩
                      case measure => simp [intOf]; omega
                  · have hb2 : decide (zk ∈ rk) = false := decide_eq_false hin2
                    clear hin2
                    go_wp2_with fail
                    (refine wp_region_nb (by kernel_rfl) (by kernel_rfl) ?_; (repeat (first | go_big_quiet_step ((go_at_call 64; first | (with_reducible exact nb_sameE (KC1.out _ (NB.h _)) (congrArg Value.bool hb1)) | (with_reducible exact nb_sameE (KC2.out _ (NB.h _)) (congrArg Value.bool hb2)))) | quiet_step ((go_at_call 64; first | (with_reducible exact nb_sameE (KC1.out _ (NB.h _)) (congrArg Value.bool hb1)) | (with_reducible exact nb_sameE (KC2.out _ (NB.h _)) (congrArg Value.bool hb2)))))); (with_reducible refine wpQuiet_nil ?_); intro wq hw1; have hq := nb_out hw1; clear hw1)
                    have HO2 : Hid (ORows wq w.heap.size u7 (mutTo xs kind many i ++ mutRow xs kind many i (k + 1))) := by
                      show ORows _ _ _ _
                      rw [HMS.out, if_neg (by rw [HMB.out, hb2]; simp), List.append_nil]
                      exact HO.out.no hq
                    skip
                    go_wp2
                    go_roundw
                    case rel => exact ⟨k + 1, by omega, by omega, by go_num, hck.no hq, HO2, HWO⟩
                    case measure => simp [intOf]; omega
                · have hb1 : decide (yk ∈ ri) = false := decide_eq_false hin1
                  clear hin1
                  have hb2 : (Value.bool true) = Value.bool true := rfl
                  go_wp2_with fail
                  (refine wp_region_nb (by kernel_rfl) (by kernel_rfl) ?_; (repeat (first | go_big_quiet_step ((go_at_call 64; first | (with_reducible exact nb_sameE (KC1.out _ (NB.h _)) (congrArg Value.bool hb1)) | (with_reducible exact nb_sameE (KC2.out _ (NB.h _)) (congrArg Value.bool hb2)))) | quiet_step ((go_at_call 64; first | (with_reducible exact nb_sameE (KC1.out _ (NB.h _)) (congrArg Value.bool hb1)) | (with_reducible exact nb_sameE (KC2.out _ (NB.h _)) (congrArg Value.bool hb2)))))); (with_reducible refine wpQuiet_nil ?_); intro wq hw1; have hq := nb_out hw1; clear hw1)
                  have HO2 : Hid (ORows wq w.heap.size u7 (mutTo xs kind many i ++ mutRow xs kind many i (k + 1))) := by
                    show ORows _ _ _ _
                    rw [HMS.out, if_neg (by rw [HMB.out, hb1]; simp), List.append_nil]
                    exact HO.out.no hq
                  skip
                  go_wp2
                  go_roundw
                  case rel => exact ⟨k + 1, by omega, by omega, by go_num, hck.no hq, HO2, HWO⟩
                  case measure => simp [intOf]; omega
              · have hkn : k = n := by omega
                have HO2 := hid (show ORows wi w.heap.size u7 (mutTo xs kind many (i + 1)) from by rw [mutTo_snoc, HXL.out, ← hkn]; exact HO.out)
                clear hkn
                go_wp2
                go_roundw
                case rel => exact ⟨i + 1, by omega, by go_num, hck, HO2, HWO⟩
                case measure => simp [intOf]; omega
          · have hin : i = n := by omega
            have h9 := HO.out
            rw [show mutTo xs kind many i = mutL xs kind many from by unfold mutL; rw [HXL.out, hin]] at h9
            have HO5 := hid h9
            clear HO h9 hin
            go_wp2
            go_ret
            exact ⟨_, rfl, by rw [HF.out]; exact HO5.out, qo⟩
end Go.Proofs.Ytgidepnlflmclaa
