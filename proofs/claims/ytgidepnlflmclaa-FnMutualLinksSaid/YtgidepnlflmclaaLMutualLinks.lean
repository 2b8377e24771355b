/- FnMutualLinks: mutual links are those of LinksOf. No condition. -/
import Derived.Test.YtgidepnlflmclaaLift
import Derived.Test.YtgidepnlflmclaaLinksJ
import Derived.Test.YtgidepnlflmclaaMutS
import Derived.Test.YtgidepnlflmclaaDrawU
import Derived.Test.YtgidepnlflmclaaEqG
import Derived.Deep.RegionHeld3
import Derived.Deep.RegionWith
import Derived.Deep.DeepCutAuto
namespace Go.Proofs.Ytgidepnlflmclaa
open Go.ChangeShapes Go.WideShapes Go.ChangeAt Go.RowKit Go.Shelf
set_option linter.unusedVariables false
set_option linter.unusedSimpArgs false
namespace lawMutualLinks
set_option maxRecDepth 100000 in
set_option maxHeartbeats 8000000 in
theorem walk (A : Option Addr) (n c : Nat) (w : World) (hC : Code w w.heap.size A n c) : Calls Try.prog 10 #[.slice A n c] w fun e w' => e = .returned (.bool true) ∧ Chg No w w' := by
  have hn1 := hC.1
  have hn2 := hC.2.1
  by_cases hbig : 1048576 < n
  · skip
    go_enter Try.func10, Try.ntmps10
    go_wp2
    go_ret
    exact ⟨rfl, Chg.refl _ _⟩
  · skip
    have hbig' : n ≤ 1048576 := by omega
    go_enter Try.func10, Try.ntmps10
    (go_wp2_with fail; (with_reducible refine (drawMutualLinks A n c _ hC).mono ?_); rintro e w1 ⟨v1, xs, kind, many, rfl, ho1, hl1, hkd, hmd, hc1⟩)
    obtain ⟨A1, c1, rfl, hr1⟩ := OItems.read ho1
    have hm1 := hr1.cap; have hk1 := hr1.le
    have HX := hid hr1
    have hkd0 := hkd.1; have hkd5 := hkd.2; have hmd0 := hmd.1; have hmd6 := hmd.2
    have s1 := hc1.size
    clear ho1 hr1 hkd hmd
    obtain ⟨L, hL⟩ : ∃ L, MutF xs kind many = L := ⟨_, rfl⟩
    have KS := hid (fun W (h : Chg No w1 W) => sMutualLinks _ _ _ _ _ xs kind many W (HX.out.no h))
    have KI := hid (fun W (h : Chg No w1 W) => iMutualLinks _ _ _ _ _ xs kind many W (HX.out.no h))
    rw [hL] at KS KI
    have HL := hid hL
    clear hL
    (go_wp2_with fail; (with_reducible refine (KI.out _ (Chg.refl _ _)).mono ?_); rintro e w2 ⟨v2, rfl, ho2, hc2⟩)
    obtain ⟨A2, c2, rfl, hr2⟩ := ORows.read ho2
    have hp2 := hr2.cap; have hl2 := hr2.le
    have R2 := hid hr2
    have s2 := hc2.size
    clear ho2 hr2
    (go_wp2_with fail; (with_reducible refine (KS.out _ hc2).mono ?_); rintro e w3 ⟨v3, rfl, ho3, hc3⟩)
    obtain ⟨A3, c3, rfl, hr3⟩ := ORows.read ho3
    have hp3 := hr3.cap; have hl3 := hr3.le
    have R3 := hid hr3
    have s3 := hc3.size
    clear ho3 hr3
    have q3 : Chg No w1 w3 := hc2.no hc3
    (go_wp2_with fail; (with_reducible refine (equalLists _ _ _ _ _ _ _ _ _ L _ (R2.out.no hc3) R3.out).mono ?_); rintro e w4 ⟨rfl, hc4⟩)
    have q4 : Chg No w1 w4 := q3.no hc4
    have r4 : Chg No w2 w4 := hc3.no hc4
    have s4 := hc4.size
    clear R3
    by_cases hL0 : L.length = 0
    · have e0 : ((L.length : Int) == 0) = true := by simp; exact List.eq_nil_of_length_eq_zero hL0
      clear hL0
      (go_wp2_with fail; (with_reducible refine (KS.out _ q4).mono ?_); rintro e w8 ⟨v8, rfl, ho8, hc8⟩)
      obtain ⟨A8, c8, rfl, hr8⟩ := ORows.read ho8
      have hp8 := hr8.cap; have hl8 := hr8.le
      have R8 := hid hr8
      have s8 := hc8.size
      clear ho8 hr8
      (go_wp2_with fail; (with_reducible refine (equalLists _ _ _ _ _ _ _ _ _ L _ (R2.out.no (r4.no hc8)) R8.out).mono ?_); rintro e w9 ⟨rfl, hc9⟩)
      go_wp2
      go_ret
      exact ⟨rfl, hc1.no ((q4.no hc8).no hc9)⟩
    · have e0 : ((L.length : Int) == 0) = false := by simp; intro h; subst h; simp at hL0
      have hLpos : 0 < L.length := by omega
      clear hL0
      have hlk : linkB xs kind many = true := by
        cases h : linkB xs kind many with
        | true => rfl
        | false => have h9 := HL.out; rw [MutF_no h] at h9; rw [← h9] at hLpos; simp at hLpos
      have hok := linkB_ok hlk
      have hLL : mutL xs kind many = L := by rw [← MutF_ok hlk]; exact HL.out
      have hx16 : xs.length ≤ 16 := storeB_len hok.store
      have hL256 : L.length ≤ 256 := by
        have h1 := mutL_len xs kind many
        rw [hLL] at h1
        have h2 : xs.length * xs.length ≤ 16 * 16 := Nat.mul_le_mul hx16 hx16
        omega
      have KA := hid (fun W (h : Chg No w1 W) => iLinksOf _ _ _ _ _ xs kind many W (HX.out.no h))
      rw [LinksF_ok hlk] at KA
      obtain ⟨M, hM⟩ : ∃ M, linksL xs kind many = M := ⟨_, rfl⟩
      have hMl : M.length = xs.length := by rw [← hM, linksL_len]
      rw [hM] at KA
      have HM := hid hM
      have HLL := hid hLL
      have HMl := hid hMl
      have hMx : M.length ≤ xs.length := by omega
      have hxM : xs.length ≤ M.length := by omega
      clear hlk hok hLL hM KI KS hMl
      (go_wp2_with fail; (with_reducible refine (KA.out _ q4).mono ?_); rintro e w5 ⟨v5, rfl, ho5, hc5⟩)
      obtain ⟨A5, c5, rfl, hr5⟩ := ORows.read ho5
      have hp5 := hr5.cap; have hl5 := hr5.le
      have R5 := hid hr5
      have s5 := hc5.size
      clear ho5 hr5
      have q5 := q4.no hc5
      have r5 := r4.no hc5
      go_wp2
      go_loopw [8, 9, 10] (fun s i s10 wr => ∃ j : Nat, j ≤ xs.length ∧ i = .int .i64 j ∧ s = .int .i64 (mutTo xs kind many j).length ∧ Chg No w5 wr) (fun _ i _ _ => xs.length - (intOf i).toNat)
      case atStart => exact ⟨0, Nat.zero_le _, rfl, rfl, Chg.refl _ _⟩
      case round =>
        obtain ⟨i, hi, rfl, rfl, hc⟩ := hrel
        obtain ⟨wo, rfl⟩ : ∃ W : World, W = wr := ⟨_, rfl⟩
        by_cases hlt : i < xs.length
        · have d1 : decide (i < M.length) = true := decide_eq_true (by omega)
          have d2 : decide ((i : Int) < (M.length : Int)) = true := decide_eq_true (by omega)
          have d3 : decide ((i : Int) < (xs.length : Int)) = true := decide_eq_true (by omega)
          have hiM : i < M.length := by omega
          have HE0 := hid (show (mutTo xs kind many i).length = (mutTo xs kind many i ++ mutRow xs kind many i (i + 1)).length from by rw [mutRow_start, List.append_nil])
          go_wp2
          go_loopw [8, 10] (fun s i' wr => ∃ (k m : Nat), i + 1 ≤ k ∧ k ≤ xs.length ∧ i' = .int .i64 k ∧ s = .int .i64 m ∧ Hid (m = (mutTo xs kind many i ++ mutRow xs kind many i k).length) ∧ Chg No wo wr) (fun _ i' _ => xs.length - (intOf i').toNat)
          case atStart => exact ⟨i + 1, _, Nat.le_refl _, by omega, by go_num, rfl, HE0, Chg.refl _ _⟩
          case round =>
            clear HE0
            obtain ⟨k, m, hk1, hk, rfl, rfl, Hm, hck⟩ := hrel
            obtain ⟨wi, rfl⟩ : ∃ W : World, W = wr := ⟨_, rfl⟩
            by_cases hlk : k < xs.length
            · have d4 : decide (k < M.length) = true := decide_eq_true (by omega)
              have d5 : decide ((k : Int) < (M.length : Int)) = true := decide_eq_true (by omega)
              have d6 : decide ((k : Int) < (xs.length : Int)) = true := decide_eq_true (by omega)
              have hkM : k < M.length := by omega
              have hcw : Chg No w5 wi := hc.no hck
              obtain ⟨b, o, z, rfl, _, _, hzk, hE⟩ := (HX.out.no (q5.no hcw)).at_ hlt
              obtain ⟨b', o', y, hAx, _, _, hyk, hE'⟩ := (HX.out.no (q5.no hcw)).at_ hlk
              injection hAx with hAx
              injection hAx with e1 e2 _
              subst e1 e2
              obtain ⟨zk, zv, zt⟩ := z
              obtain ⟨yk, yv, yt⟩ := y
              obtain ⟨bL, oL, ri, Ai, ni, ci, rfl, _, _, hri, fi', hvi⟩ := (R5.out.no hcw).at_ hiM
              obtain ⟨bL', oL', rk, Ak, nk, ck, hAL, _, _, hrk, fk', hvk⟩ := (R5.out.no hcw).at_ hkM
              injection hAL with hAL
              injection hAL with e1 e2 _
              subst e1 e2
              obtain rfl : ni = ri.length := hvi.len.symm
              obtain rfl : nk = rk.length := hvk.len.symm
              have hri2 : ri = linkAt xs kind many i := by
                have h9 := linksL_at (l := xs) (kind := kind) (many := many) hlt
                rw [HM.out, hri] at h9
                injection h9
              have hrk2 : rk = linkAt xs kind many k := by
                have h9 := linksL_at (l := xs) (kind := kind) (many := many) hlk
                rw [HM.out, hrk] at h9
                injection h9
              have hki : keyI xs i = zk := keyI_eq hzk
              have hkk : keyI xs k = yk := keyI_eq hyk
              have HMB := hid (show mutB xs kind many i k = (decide (yk ∈ ri) && decide (zk ∈ rk)) from by unfold mutB; rw [hki, hkk, ← hri2, ← hrk2])
              have HMS := hid (mutRow_snoc (l := xs) (kind := kind) (many := many) (i := i) (k := k) (by omega))
              have HKI := hid hki; have HKK := hid hkk
              have f1 : ∀ p : NB wi, p.wd.cell? ⟨bL, oL + i, none⟩ = some (.slice Ai ri.length ci) := nb_cell fi'
              have f2 : ∀ p : NB wi, p.wd.cell? ⟨bL, oL + k, none⟩ = some (.slice Ak rk.length ck) := nb_cell fk'
              have f3 : ∀ p : NB wi, p.wd.cell? ⟨b, o + k * 3, none⟩ = some (.int .i64 yk) := nb_cell hE'.1
              have f4 : ∀ p : NB wi, p.wd.cell? ⟨b, o + i * 3, none⟩ = some (.int .i64 zk) := nb_cell hE.1
              have F3 := hid hE'.1; have F4 := hid hE.1
              have KC1 := hid (fun W (h : Chg No wi W) => isInL _ _ Ai ri.length ci ri yk W (hvi.no h))
              have KC2 := hid (fun W (h : Chg No wi W) => isInL _ _ Ak rk.length ck rk zk W (hvk.no h))
              have hlr := hvi.le; have hpr := hvi.cap; have hlr2 := hvk.le; have hpr2 := hvk.cap
              clear hri hri2 hrk hrk2 fi' fk' hvi hvk hzk hyk hE hE' hki hkk
              by_cases hin1 : yk ∈ ri
              · have hb1 : decide (yk ∈ ri) = true := decide_eq_true hin1
                clear hin1
                by_cases hin2 : zk ∈ rk
                · have hb2 : decide (zk ∈ rk) = true := decide_eq_true hin2
                  clear hin2
                  have HPR := hid (show (mutTo xs kind many i ++ mutRow xs kind many i k ++ [[zk, yk]]) <+: L from by
                    have h9 := mut_pre (kind := kind) (many := many) hlt (k := k + 1) (by omega)
                    rw [HMS.out, if_pos (by rw [HMB.out, hb1, hb2]; rfl), HKI.out, HKK.out, ← List.append_assoc, HLL.out] at h9
                    exact h9)
                  have hmL : m < L.length := by rw [Hm.out]; exact pre_len HPR.out
                  have HLm := hid (show L[m]? = some [zk, yk] from by rw [Hm.out]; exact pre_at HPR.out)
                  have Hm2 := hid (show m + 1 = (mutTo xs kind many i ++ mutRow xs kind many i (k + 1)).length from by
                    rw [HMS.out, if_pos (by rw [HMB.out, hb1, hb2]; rfl), ← List.append_assoc, List.length_append, ← Hm.out]; rfl)
                  clear HPR
                  go_wp2_with fail
                  (refine wp_region_nb (by kernel_rfl) (by kernel_rfl) ?_; (repeat (first | go_big_quiet_step ((go_at_call 24; first | (with_reducible exact nb_sameE (KC1.out _ (NB.h _)) (congrArg Value.bool hb1)) | (with_reducible exact nb_sameE (KC2.out _ (NB.h _)) (congrArg Value.bool hb2)))) | quiet_step ((go_at_call 24; first | (with_reducible exact nb_sameE (KC1.out _ (NB.h _)) (congrArg Value.bool hb1)) | (with_reducible exact nb_sameE (KC2.out _ (NB.h _)) (congrArg Value.bool hb2)))))); (with_reducible refine wpQuiet_nil ?_); intro wq hw1; have hq := nb_out hw1; clear hw1)
                  obtain ⟨wB, rfl⟩ : ∃ W : World, W = wq := ⟨_, rfl⟩
                  obtain ⟨b6, o6, r6, A6, n6, c6, rfl, _, _, hr6, f6', hv6⟩ := (R2.out.no ((r5.no hcw).no hq)).at_ hmL
                  have h96 := HLm.out
                  rw [hr6] at h96
                  injection h96 with h96
                  subst h96
                  obtain rfl : n6 = 2 := hv6.len.symm
                  have f6 : wB.cell? ⟨b6, o6 + m, none⟩ = some (.slice A6 2 c6) := f6'
                  have g3 : wB.cell? ⟨b, o + k * 3, none⟩ = some (.int .i64 yk) := cell_keep hq F3.out (fun e => e)
                  have g4 : wB.cell? ⟨b, o + i * 3, none⟩ = some (.int .i64 zk) := cell_keep hq F4.out (fun e => e)
                  have t6 := cell_lt f6; have t3 := cell_lt g3
                  have hl6 := hv6.le; have hp6 := hv6.cap
                  have KE := hid (fun W (h : Chg No wB W) (g : Nat) (hg : W.heap[g]? = some (.cells #[.int .i64 zk, .int .i64 yk] 3 (0, 0))) => equalInts _ _ _ _ A6 (some ⟨g, 0, none⟩) 2 c6 2 [zk, yk] W (hv6.no h) (RInts.lit (n := 2) hg [zk, yk] rfl rfl (by omega)))
                  have d7 : decide (L.length ≤ m) = false := decide_eq_false (by omega)
                  have d8 : decide ((L.length : Int) ≤ (m : Int)) = false := decide_eq_false (by omega)
                  clear hr6 f6' hv6
                  go_wp2_with fail
                  go_cut [116] (fun s wx => s = .bool false ∧ Chg No wB wx)
                  case first =>
                    go_region_held3 (fun w' => w'.cell? ⟨b6, o6 + m, none⟩ = some (.slice A6 2 c6) ∧ w'.cell? ⟨b, o + k * 3, none⟩ = some (.int .i64 yk) ∧ w'.cell? ⟨b, o + i * 3, none⟩ = some (.int .i64 zk))
                            (first | go_keep | (go_split_ands; refine ⟨?_, ?_, ?_⟩ <;> exact cell_keep (by assumption) (by assumption) (fun e => e)))
                      (first | (go_at_call 23; (with_reducible refine (KE.out _ (by (repeat (first | (with_reducible exact Chg.refl _ _) | ((with_reducible refine Chg.setNew ?_ _ ?_); rotate_left; first | (dsimp only; omega) | (simp; done) | (simp; omega)) | (with_reducible refine Chg.alloc ?_ _) | (with_reducible refine Chg.drew ?_) | (with_reducible refine Chg.drewN ?_ _) | (with_reducible refine Chg.no ?_ (by assumption)) | (with_reducible refine Chg.and_ ?_ (by assumption)) | ((with_reducible refine Chg.at_ ?_ (by assumption) ?_); rotate_left; (try simp only [World.size_alloc]); omega)))) _ (heap_top1 rfl)).mono ?_); rintro e w8 ⟨rfl, hc8⟩) | (go_at_call 23; (with_reducible refine (KE.out _ (by (repeat (first | (with_reducible exact Chg.refl _ _) | ((with_reducible refine Chg.setNew ?_ _ ?_); rotate_left; first | (dsimp only; omega) | (simp; done) | (simp; omega)) | (with_reducible refine Chg.alloc ?_ _) | (with_reducible refine Chg.drew ?_) | (with_reducible refine Chg.drewN ?_ _) | (with_reducible refine Chg.no ?_ (by assumption)) | (with_reducible refine Chg.and_ ?_ (by assumption)) | ((with_reducible refine Chg.at_ ?_ (by assumption) ?_); rotate_left; (try simp only [World.size_alloc]); omega)))) _ (heap_top rfl)).mono ?_); rintro e w8 ⟨rfl, hc8⟩))
                    all_goals
                      go_wp2_with fail
                      go_meet
                      exact ⟨rfl, by (repeat (first | (with_reducible exact Chg.refl _ _) | ((with_reducible refine Chg.setNew ?_ _ ?_); rotate_left; first | (dsimp only; omega) | (simp; done) | (simp; omega)) | (with_reducible refine Chg.alloc ?_ _) | (with_reducible refine Chg.drew ?_) | (with_reducible refine Chg.drewN ?_ _) | (with_reducible refine Chg.no ?_ (by assumption)) | (with_reducible refine Chg.and_ ?_ (by assumption)) | ((with_reducible refine Chg.at_ ?_ (by assumption) ?_); rotate_left; (try simp only [World.size_alloc]); omega)))⟩
                  case rest =>
                    obtain ⟨rfl, hcc⟩ := hcut
                    have q9 : Chg No wo wc := hck.no (hq.no hcc)
                    go_wp2
                    go_roundw
                    case rel => exact ⟨k + 1, m + 1, by omega, by omega, by go_num, by go_num, Hm2, q9⟩
                    case measure => simp [intOf]; omega
                · have hb2 : decide (zk ∈ rk) = false := decide_eq_false hin2
                  clear hin2
                  have Hm2 := hid (show m = (mutTo xs kind many i ++ mutRow xs kind many i (k + 1)).length from by
                    rw [HMS.out, if_neg (by rw [HMB.out, hb2]; simp), List.append_nil, ← Hm.out])
                  go_wp2_with fail
                  (refine wp_region_nb (by kernel_rfl) (by kernel_rfl) ?_; (repeat (first | go_big_quiet_step ((go_at_call 24; first | (with_reducible exact nb_sameE (KC1.out _ (NB.h _)) (congrArg Value.bool hb1)) | (with_reducible exact nb_sameE (KC2.out _ (NB.h _)) (congrArg Value.bool hb2)))) | quiet_step ((go_at_call 24; first | (with_reducible exact nb_sameE (KC1.out _ (NB.h _)) (congrArg Value.bool hb1)) | (with_reducible exact nb_sameE (KC2.out _ (NB.h _)) (congrArg Value.bool hb2)))))); (with_reducible refine wpQuiet_nil ?_); intro wq hw1; have hq := nb_out hw1; clear hw1)
                  go_wp2
                  go_roundw
                  case rel => exact ⟨k + 1, m, by omega, by omega, by go_num, rfl, Hm2, hck.no hq⟩
                  case measure => simp [intOf]; omega
              · have hb1 : decide (yk ∈ ri) = false := decide_eq_false hin1
                clear hin1
                have Hm2 := hid (show m = (mutTo xs kind many i ++ mutRow xs kind many i (k + 1)).length from by
                  rw [HMS.out, if_neg (by rw [HMB.out, hb1]; simp), List.append_nil, ← Hm.out])
                go_wp2_with fail
                (refine wp_region_nb (by kernel_rfl) (by kernel_rfl) ?_; (repeat (first | go_big_quiet_step ((go_at_call 24; exact nb_sameE (KC1.out _ (NB.h _)) (congrArg Value.bool hb1))) | quiet_step ((go_at_call 24; exact nb_sameE (KC1.out _ (NB.h _)) (congrArg Value.bool hb1))))); (with_reducible refine wpQuiet_nil ?_); intro wq hw1; have hq := nb_out hw1; clear hw1)
                go_wp2
                go_roundw
                case rel => exact ⟨k + 1, m, by omega, by omega, by go_num, rfl, Hm2, hck.no hq⟩
                case measure => simp [intOf]; omega
            · have d4 : decide (k < M.length) = false := decide_eq_false (by omega)
              have d5 : decide ((k : Int) < (M.length : Int)) = false := decide_eq_false (by omega)
              have hkn : k = xs.length := by omega
              have Hm2 := hid (show m = (mutTo xs kind many (i + 1)).length from by rw [mutTo_snoc, ← hkn]; exact Hm.out)
              clear hkn
              go_wp2
              go_roundw
              case rel => exact ⟨i + 1, by omega, by go_num, by rw [← Hm2.out], hc.no hck⟩
              case measure => simp [intOf]; omega
        · have d1 : decide (i < M.length) = false := decide_eq_false (by omega)
          have d2 : decide ((i : Int) < (M.length : Int)) = false := decide_eq_false (by omega)
          have hin : (mutTo xs kind many i).length = L.length := by rw [show i = xs.length from by omega]; exact congrArg List.length HLL.out
          rw [hin]
          have d9 : ((L.length : Int) == (L.length : Int)) = true := by simp
          clear hin
          go_wp2
          go_ret
          exact ⟨rfl, hc1.no (q5.no hc)⟩

set_option maxRecDepth 100000 in
theorem lifted (os : Os) (started : os.Started) (H : Type) (enc : TypeId × Value → H) :
    ReturnsInHanded {} Try.checked os 10 .any (Rows.fnMutualLinksSpec.pre6 enc Try.prog Try.f10 Rows.fnMutualLinksRow.domain false) (Rows.fnMutualLinksSpec.post enc Try.prog Try.f10 false true false false) := by
  refine returnsInHanded_of_change (C := Try.checked) own started (by kernel_rfl) Try.func10
    (ChangeSpec.witness6 (enc := enc) (C := Try.checked) false ⟨#[], #[.slice none 0 0], []⟩ 8 (by kernel_rfl) (by kernel_rfl) (by kernel_rfl) (by kernel_rfl)) ?_
  intro W base args ds gs before hval0 hW hcnd _
  have hval : ∀ (j : Nat) t v, Try.f10.params[j]? = some t → args[j]? = some v → Value.okWide Try.prog W .any base t v := hval0
  have hW' := hW
  obtain ⟨p, q, hA0, hV, rfl, hfz, hnd⟩ := hW
  have hA : DataW.TrodAll enc Try.prog W 0 (fun _ => true) true Try.f10.params.toList args.toList ds p := hA0
  rw [Try.params10] at hA hval
  obtain ⟨v0, vs0, d0, ds0, p0, q0, hargs, rfl, rfl, h0, r0⟩ := trodAll_cons hA
  obtain ⟨rfl, rfl, rfl⟩ := trodAll_nil r0
  obtain rfl : args = #[v0] := by cases args; simp_all
  obtain ⟨rfl, rfl⟩ := trodVars_none hV
  obtain ⟨a0, len0, cap0, rfl⟩ := okWide_slice Try.underlying35 (hval 0 35 v0 rfl rfl)
  have k0 := h0
  have lt0 : ∀ x ∈ p0, x.block < W.heap.size := by obtain ⟨m, hm⟩ := k0; exact DataW.trod_lt m _ _ _ hm
  have w0 : Code W W.heap.size a0 len0 cap0 := by
    obtain ⟨fuel, hf⟩ := h0
    rcases open_ints Try.underlying35 Try.underlying5 (by kernel_rfl) hf with ⟨hcs, _⟩ | ⟨x, l, c, zs, hcs, _, hl, hm, hz, _, hcell, hwz⟩
    · simp [Value.cells] at hcs
      obtain ⟨rfl, rfl, rfl⟩ := hcs
      exact code_nil _
    · simp [Value.cells] at hcs
      obtain ⟨rfl, rfl, rfl⟩ := hcs
      exact code_row hl hm (by simpa using hz) hcell hwz
  clear hA0 hval0
  refine (walk a0 len0 cap0 W w0).mono fun e W' ⟨he, bel0⟩ => ?_
  have bel := bel0.below
  subst he
  exact ⟨_, rfl, _, _, _, [], _, [], hW', trodAll_mk1 (shut_bool Try.underlying4 _), (trodAll_cons_mk (Below.trod laidOut (by kernel_rfl) (of_decide_eq_true (by kernel_rfl)) k0 bel lt0) trodAll_mk0), rfl, bel.frame _, fun h => by cases h⟩

theorem over : Rows.fnMutualLinksRow.holds Try.pinned (OpenSpec.ofChange Rows.fnMutualLinksSpec) :=
  OpenClaim.holds_of_wide 10 Try.f10 rfl rfl rfl rfl rfl rfl rfl ⟨rfl, rfl, rfl, rfl, rfl⟩ rfl rfl rfl rfl rfl (by kernel_rfl) Try.func10 (by kernel_rfl)
    (of_decide_eq_true (by kernel_rfl)) (by unfold Func.isWrapper; first | (rw [if_pos (by decide +kernel)]; kernel_rfl) | (rw [if_neg (by decide +kernel)]; exact ⟨rfl, rfl⟩))
    (fun os started H enc _ => lifted os started H enc)

theorem proved : Rows.FnMutualLinksSaid := over
#print axioms proved

end lawMutualLinks
end Go.Proofs.Ytgidepnlflmclaa
