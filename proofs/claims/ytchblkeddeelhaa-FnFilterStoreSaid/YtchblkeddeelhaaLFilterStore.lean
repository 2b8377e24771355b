/- FnFilterStore: filtered items pass, each in its turn. No condition. -/
import Derived.Test.YtchblkeddeelhaaLift
import Derived.Test.YtchblkeddeelhaaDraw8
import Derived.Test.YtchblkeddeelhaaStoreG
import Derived.Test.YtchblkeddeelhaaEqI
import Derived.Test.YtchblkeddeelhaaPFilt3
import Derived.Deep.RegionWith
namespace Go.Proofs.Ytchblkeddeelhaa
open Go.ChangeShapes Go.WideShapes Go.ChangeAt Go.RowKit
set_option linter.unusedVariables false
set_option linter.unusedSimpArgs false
namespace lawFilterStore
theorem filt_ne {xs : List It} {a b c : Int} (h : 0 < (filtF xs a b c).length) : storeB xs = true ∧ filterB a b c = true := by
  unfold filtF at h
  cases h1 : storeB xs <;> cases h2 : filterB a b c <;> simp [h1, h2] at h
  exact ⟨rfl, rfl⟩
set_option maxHeartbeats 4000000 in
theorem walk (A : Option Addr) (n c : Nat) (w : World) (hC : Code w w.heap.size A n c) : Calls Try.prog 5 #[.slice A n c] w fun e w' => e = .returned (.bool true) ∧ Chg No w w' := by
  have hn1 := hC.1
  have hn2 := hC.2.1
  by_cases hbig : 1048576 < n
  · go_enter Try.func5, Try.ntmps5
    go_wp2
    go_ret
    exact ⟨rfl, Chg.refl _ _⟩
  · have hbig' : n ≤ 1048576 := by omega
    go_enter Try.func5, Try.ntmps5
    (go_wp2_with fail; (with_reducible refine (drawFilterStore A n c _ hC).mono ?_); rintro e w1 ⟨v1, xs, fa, fb, fc, rfl, ho1, hl1, hc1⟩)
    obtain ⟨A1, c1, rfl, hr1⟩ := OItems.read ho1
    have hm1 := hr1.cap; have hk1 := hr1.le
    have HX := hid hr1
    clear ho1 hr1
    obtain ⟨L, hL⟩ : ∃ L, filtF xs fa fb fc = L := ⟨_, rfl⟩
    have HB := hid (Box.new (w := w1) [.int .i64 fa, .int .i64 fb, .int .i64 fc] 29 rfl)
    have KI := hid (fun W (h : RItems W w.heap.size w1.heap.size A1 xs.length c1 xs) => iFilterStore _ _ _ _ _ xs fa fb fc W h)
    have KS := hid (fun W (h : RItems W w.heap.size w1.heap.size A1 xs.length c1 xs) => sFilterStore _ _ _ _ _ xs fa fb fc W h)
    rw [hL] at KI KS
    have HL := hid hL
    clear hL
    (go_wp2_with fail; (with_reducible refine (KI.out _ (HX.out.no (by (repeat (first | (with_reducible exact Chg.refl _ _) | ((with_reducible refine Chg.setNew ?_ _ ?_); rotate_left; first | (dsimp only; omega) | (simp; done) | (simp; omega)) | (with_reducible refine Chg.alloc ?_ _) | (with_reducible refine Chg.drew ?_) | (with_reducible refine Chg.drewN ?_ _) | (with_reducible refine Chg.no ?_ (by assumption)) | (with_reducible refine Chg.and_ ?_ (by assumption)) | ((with_reducible refine Chg.at_ ?_ (by assumption) ?_); rotate_left; (try simp only [World.size_alloc]); omega)))))).mono ?_); rintro e w2 ⟨v2, rfl, ho2, hc2⟩)
    obtain ⟨A2, c2, rfl, hr2⟩ := OItems.read ho2
    have hm2 := hr2.cap; have hk2 := hr2.le
    have HY := hid hr2
    have b2 := (HB.out.no hc2).f3
    clear ho2 hr2
    (go_wp2_with fail; (with_reducible refine (KS.out _ (HX.out.no (by (repeat (first | (with_reducible exact Chg.refl _ _) | ((with_reducible refine Chg.setNew ?_ _ ?_); rotate_left; first | (dsimp only; omega) | (simp; done) | (simp; omega)) | (with_reducible refine Chg.alloc ?_ _) | (with_reducible refine Chg.drew ?_) | (with_reducible refine Chg.drewN ?_ _) | (with_reducible refine Chg.no ?_ (by assumption)) | (with_reducible refine Chg.and_ ?_ (by assumption)) | ((with_reducible refine Chg.at_ ?_ (by assumption) ?_); rotate_left; (try simp only [World.size_alloc]); omega)))))).mono ?_); rintro e w3 ⟨v3, rfl, ho3, hc3⟩)
    obtain ⟨A3, c3, rfl, hr3⟩ := OItems.read ho3
    have hm3 := hr3.cap; have hk3 := hr3.le
    have b3 := (HB.out.no (hc2.no hc3)).f3
    have HZ := hid hr3
    clear ho3 hr3
    (go_wp2_with fail; (with_reducible refine (equalItems _ _ _ _ _ _ _ _ _ L _ (HY.out.no hc3) HZ.out).mono ?_); rintro e w4 ⟨rfl, hc4⟩)
    have b4 := (HB.out.no ((hc2.no hc3).no hc4)).f3
    by_cases hL0 : L.length = 0
    · have e0 : ((L.length : Int) == 0) = true := by simp; exact List.eq_nil_of_length_eq_zero hL0
      clear hL0
      (go_wp2_with fail; (with_reducible refine (KS.out _ (HX.out.no (by (repeat (first | (with_reducible exact Chg.refl _ _) | ((with_reducible refine Chg.setNew ?_ _ ?_); rotate_left; first | (dsimp only; omega) | (simp; done) | (simp; omega)) | (with_reducible refine Chg.alloc ?_ _) | (with_reducible refine Chg.drew ?_) | (with_reducible refine Chg.drewN ?_ _) | (with_reducible refine Chg.no ?_ (by assumption)) | (with_reducible refine Chg.and_ ?_ (by assumption)) | ((with_reducible refine Chg.at_ ?_ (by assumption) ?_); rotate_left; (try simp only [World.size_alloc]); omega)))))).mono ?_); rintro e w7 ⟨v7, rfl, ho7, hc7⟩)
      obtain ⟨A7, c7, rfl, hr7⟩ := OItems.read ho7
      have hm7 := hr7.cap; have hk7 := hr7.le
      (go_wp2_with fail; (with_reducible refine (equalItems _ _ _ _ _ _ _ _ _ L _ (HY.out.no (by (repeat (first | (with_reducible exact Chg.refl _ _) | ((with_reducible refine Chg.setNew ?_ _ ?_); rotate_left; first | (dsimp only; omega) | (simp; done) | (simp; omega)) | (with_reducible refine Chg.alloc ?_ _) | (with_reducible refine Chg.drew ?_) | (with_reducible refine Chg.drewN ?_ _) | (with_reducible refine Chg.no ?_ (by assumption)) | (with_reducible refine Chg.and_ ?_ (by assumption)) | ((with_reducible refine Chg.at_ ?_ (by assumption) ?_); rotate_left; (try simp only [World.size_alloc]); omega))))) hr7).mono ?_); rintro e w8 ⟨rfl, hc8⟩)
      go_wp2
      go_ret
      exact ⟨rfl, by (repeat (first | (with_reducible exact Chg.refl _ _) | ((with_reducible refine Chg.setNew ?_ _ ?_); rotate_left; first | (dsimp only; omega) | (simp; done) | (simp; omega)) | (with_reducible refine Chg.alloc ?_ _) | (with_reducible refine Chg.drew ?_) | (with_reducible refine Chg.drewN ?_ _) | (with_reducible refine Chg.no ?_ (by assumption)) | (with_reducible refine Chg.and_ ?_ (by assumption)) | ((with_reducible refine Chg.at_ ?_ (by assumption) ?_); rotate_left; (try simp only [World.size_alloc]); omega)))⟩
    · have e0 : ((L.length : Int) == 0) = false := by simp; intro h; subst h; simp at hL0
      have hst := filt_ne (xs := xs) (a := fa) (b := fb) (c := fc) (by rw [HL.out]; omega)
      have HF := hid (show L = xs.filter (fun x => passB fa fb fc x.tags) from by rw [← HL.out, filtF_ok hst.1 hst.2])
      have HS := hid hst.1
      have HG := hid hst.2
      have hL16 : L.length ≤ 17 := by
        rw [HF.out]
        exact Nat.le_trans (List.length_filter_le _ _) hl1
      have hc14 : Chg No (w1.alloc (.cells #[.int .i64 fa, .int .i64 fb, .int .i64 fc] 29)) w4 := (hc2.no hc3).no hc4
      have hcw4 : Chg No w w4 := by (repeat (first | (with_reducible exact Chg.refl _ _) | ((with_reducible refine Chg.setNew ?_ _ ?_); rotate_left; first | (dsimp only; omega) | (simp; done) | (simp; omega)) | (with_reducible refine Chg.alloc ?_ _) | (with_reducible refine Chg.drew ?_) | (with_reducible refine Chg.drewN ?_ _) | (with_reducible refine Chg.no ?_ (by assumption)) | (with_reducible refine Chg.and_ ?_ (by assumption)) | ((with_reducible refine Chg.at_ ?_ (by assumption) ?_); rotate_left; (try simp only [World.size_alloc]); omega)))
      have HX4 := hid (HX.out.no (Chg.no ((Chg.refl No w1).alloc _) hc14))
      have HY4 := hid (HY.out.no (hc3.no hc4))
      clear hst hL0 b2 b3 KI KS HZ hc2 hc3 hc4
      have B4 := hid (HB.out.no hc14)
      go_wp2
      go_loopw [6, 7] (fun q i wr => ∃ k : Nat, k ≤ xs.length ∧ i = .int .i64 k ∧ q = .int .i64 (((xs.take k).filter (fun x => passB fa fb fc x.tags)).length : Nat) ∧ Chg No w4 wr) (fun _ i _ => xs.length - (intOf i).toNat)
      case atStart => exact ⟨0, Nat.zero_le _, rfl, rfl, Chg.refl _ _⟩
      case round =>
        obtain ⟨k, hk, rfl, rfl, hc⟩ := hrel
        obtain ⟨wo, rfl⟩ : ∃ W : World, W = wr := ⟨_, rfl⟩
        by_cases hlt : k < xs.length
        · obtain ⟨b, o, z, rfl, _, _, hzk, hE⟩ := (HX4.out.no hc).at_ hlt
          obtain ⟨zk, zv, zt⟩ := z
          obtain ⟨hE1, ⟨A5, n5, c5, hE2, hv⟩, hE3⟩ := hE
          have f1 : ∀ p : NB wo, p.wd.cell? ⟨b, o + k * 3 + 2, none⟩ = some (.int .i64 zt) := nb_cell hE3
          have B9 := B4.out.no hc
          have f2 : ∀ p : NB wo, p.wd.cell? ⟨w1.heap.size, 0, none⟩ = some (.int .i64 fa) := nb_cell (B9.cell 0)
          have f3 : ∀ p : NB wo, p.wd.cell? ⟨w1.heap.size, 1, none⟩ = some (.int .i64 fb) := nb_cell (B9.cell 1)
          have f4 : ∀ p : NB wo, p.wd.cell? ⟨w1.heap.size, 2, none⟩ = some (.int .i64 fc) := nb_cell (B9.cell 2)
          have ht := tags_of (storeB_mem HS.out (List.mem_of_getElem? hzk))
          simp only [] at ht
          obtain ⟨pb, hpb⟩ : ∃ pb, passB fa fb fc zt = pb := ⟨_, rfl⟩
          have HPB := hid (show PassB fa fb fc zt = pb from by unfold PassB; rw [HG.out, ht, hpb]; simp)
          have hcnt := filter_count (fun x : It => passB fa fb fc x.tags) hzk
          have hle := filter_count_le (fun x : It => passB fa fb fc x.tags) xs k
          have hle1 := filter_count_le (fun x : It => passB fa fb fc x.tags) xs (k + 1)
          have hplc := fun hp => filter_place (fun x : It => passB fa fb fc x.tags) xs k ⟨zk, zv, zt⟩ hzk hp
          rw [← HF.out] at hle hle1 hplc
          simp only [hpb] at hcnt hplc
          have HE := hid (show _ ∧ _ ∧ _ from ⟨hE1, hE2, hE3⟩)
          have HV := hid hv
          have hk17 : k ≤ 17 := by omega
          clear hE1 hE2 hE3 hv ht hpb hzk B9
          generalize hm : ((xs.take k).filter (fun x : It => passB fa fb fc x.tags)).length = m at *
          clear hm
          cases pb with
          | false =>
            have HC := hid hcnt
            clear hcnt hplc
            go_wp2_with fail
            (refine wp_region_nb (by kernel_rfl) (by kernel_rfl) ?_; (repeat (first | go_big_quiet_step ((go_at_call 24; exact nb_ofE (iPasses _ _ _ _ _) (congrArg Value.bool HPB.out))) | quiet_step ((go_at_call 24; exact nb_ofE (iPasses _ _ _ _ _) (congrArg Value.bool HPB.out))))); (with_reducible refine wpQuiet_nil ?_); intro wq hw1; have hq := nb_out hw1; clear hw1)
            go_wp2
            go_roundw
            case rel => exact ⟨k + 1, by omega, by go_num, by rw [HC.out]; simp, by (repeat (first | (with_reducible exact Chg.refl _ _) | ((with_reducible refine Chg.setNew ?_ _ ?_); rotate_left; first | (dsimp only; omega) | (simp; done) | (simp; omega)) | (with_reducible refine Chg.alloc ?_ _) | (with_reducible refine Chg.drew ?_) | (with_reducible refine Chg.drewN ?_ _) | (with_reducible refine Chg.no ?_ (by assumption)) | (with_reducible refine Chg.and_ ?_ (by assumption)) | ((with_reducible refine Chg.at_ ?_ (by assumption) ?_); rotate_left; (try simp only [World.size_alloc]); omega)))⟩
            case measure => simp [intOf]; omega
          | true =>
            have HC := hid hcnt
            have hpl := hplc rfl
            have hmL : m < L.length := (List.getElem?_eq_some_iff.1 hpl).1
            obtain ⟨b6, o6, z6, rfl, _, _, hz6, hE6⟩ := (HY4.out.no hc).at_ hmL
            rw [hpl] at hz6
            injection hz6 with hz6
            subst hz6
            obtain ⟨h61, ⟨A7, n7, c7, h62, hv7⟩, h63⟩ := hE6
            obtain rfl : n5 = n7 := by have h8 : zv.length = n5 := HV.out.len; have h9 : zv.length = n7 := hv7.len; omega
            have g1 : ∀ p : NB wo, p.wd.cell? ⟨b, o + k * 3, none⟩ = some (.int .i64 zk) := nb_cell HE.out.1
            have g2 : ∀ p : NB wo, p.wd.cell? ⟨b, o + k * 3 + 1, none⟩ = some (.slice A5 n5 c5) := nb_cell HE.out.2.1
            have g3 : ∀ p : NB wo, p.wd.cell? ⟨b6, o6 + m * 3, none⟩ = some (.int .i64 zk) := nb_cell h61
            have g4 : ∀ p : NB wo, p.wd.cell? ⟨b6, o6 + m * 3 + 1, none⟩ = some (.slice A7 n5 c7) := nb_cell h62
            have g5 : ∀ p : NB wo, p.wd.cell? ⟨b6, o6 + m * 3 + 2, none⟩ = some (.int .i64 zt) := nb_cell h63
            have HV7 := hid hv7
            have j1 : decide (L.length ≤ m) = false := decide_eq_false (by omega)
            have G := hid (show _ ∧ _ ∧ _ ∧ _ ∧ _ ∧ _ from ⟨f1, g1, g2, g3, g4, g5⟩)
            clear hcnt hplc hpl h61 h62 h63 hv7 g1 g2 g3 g4 g5
            go_wp2_with fail
            (refine wp_region_nb (by kernel_rfl) (by kernel_rfl) ?_; (repeat (first | go_big_quiet_step ((go_at_call 24; exact nb_ofE (iPasses _ _ _ _ _) (congrArg Value.bool HPB.out))) | quiet_step ((go_at_call 24; exact nb_ofE (iPasses _ _ _ _ _) (congrArg Value.bool HPB.out))))); (with_reducible refine wpQuiet_nil ?_); intro wq hw1; have hq := nb_out hw1; clear hw1)
            obtain ⟨g0, g1, g2, g3, g4, g5⟩ := G.out
            clear f1 f2 f3 f4
            have p0 : ∀ p : NB wq, p.wd.cell? ⟨b, o + k * 3 + 2, none⟩ = some (.int .i64 zt) := fun p => g0 ⟨p.wd, hq.no p.h⟩
            have p1 : ∀ p : NB wq, p.wd.cell? ⟨b, o + k * 3, none⟩ = some (.int .i64 zk) := fun p => g1 ⟨p.wd, hq.no p.h⟩
            have p2 : ∀ p : NB wq, p.wd.cell? ⟨b, o + k * 3 + 1, none⟩ = some (.slice A5 n5 c5) := fun p => g2 ⟨p.wd, hq.no p.h⟩
            have p3 : ∀ p : NB wq, p.wd.cell? ⟨b6, o6 + m * 3, none⟩ = some (.int .i64 zk) := fun p => g3 ⟨p.wd, hq.no p.h⟩
            have p4 : ∀ p : NB wq, p.wd.cell? ⟨b6, o6 + m * 3 + 1, none⟩ = some (.slice A7 n5 c7) := fun p => g4 ⟨p.wd, hq.no p.h⟩
            have p5 : ∀ p : NB wq, p.wd.cell? ⟨b6, o6 + m * 3 + 2, none⟩ = some (.int .i64 zt) := fun p => g5 ⟨p.wd, hq.no p.h⟩
            clear g0 g1 g2 g3 g4 g5 G
            obtain ⟨wz, rfl⟩ : ∃ W : World, W = wq := ⟨_, rfl⟩
            have hqz := hq
            clear hq
            go_wp2_with fail
            (refine wp_region_nb (by kernel_rfl) (by kernel_rfl) ?_; (repeat (first | go_big_quiet_step ((go_at_call 25; exact nb_of (equalItem _ _ _ _ _ _ _ _ _ _ _ zv _ ((HV7.out.no hqz).no (NB.h _)) ((HV.out.no hqz).no (NB.h _))))) | quiet_step ((go_at_call 25; exact nb_of (equalItem _ _ _ _ _ _ _ _ _ _ _ zv _ ((HV7.out.no hqz).no (NB.h _)) ((HV.out.no hqz).no (NB.h _))))))); (with_reducible refine wpQuiet_nil ?_); intro wq hw1; have hq := nb_out hw1; clear hw1)
            go_wp2
            go_roundw
            case rel => exact ⟨k + 1, by omega, by go_num, by rw [HC.out]; simp, (hc.no hqz).no hq⟩
            case measure => simp [intOf]; omega
        · have hkn : k = xs.length := by omega
          have HQ : Hid (((xs.take k).filter (fun x : It => passB fa fb fc x.tags)).length = L.length) := by
            show _ = _
            rw [hkn, List.take_length, HF.out]
          rw [HQ.out]
          have KV := hid (fun W lo hi (h : RItems W lo hi A2 L.length c2 L) => iValidStore lo hi _ _ _ L W h)
          have HVL := hid (show storeB L = true from by rw [HF.out]; exact storeB_filter HS.out _)
          rw [HVL.out] at KV
          have e5 : ((L.length : Int) == (L.length : Int)) = true := by simp
          subst hkn
          (go_wp2_with fail; (with_reducible refine (KV.out _ _ _ (HY4.out.no hc)).mono ?_); rintro e w9 ⟨rfl, hc9⟩)
          go_wp2
          go_ret
          exact ⟨rfl, by (repeat (first | (with_reducible exact Chg.refl _ _) | ((with_reducible refine Chg.setNew ?_ _ ?_); rotate_left; first | (dsimp only; omega) | (simp; done) | (simp; omega)) | (with_reducible refine Chg.alloc ?_ _) | (with_reducible refine Chg.drew ?_) | (with_reducible refine Chg.drewN ?_ _) | (with_reducible refine Chg.no ?_ (by assumption)) | (with_reducible refine Chg.and_ ?_ (by assumption)) | ((with_reducible refine Chg.at_ ?_ (by assumption) ?_); rotate_left; (try simp only [World.size_alloc]); omega)))⟩

set_option maxRecDepth 100000 in
theorem lifted (os : Os) (started : os.Started) (H : Type) (enc : TypeId × Value → H) :
    ReturnsInHanded {} Try.checked os 5 .any (Rows.fnFilterStoreSpec.pre6 enc Try.prog Try.f5 Rows.fnFilterStoreRow.domain false) (Rows.fnFilterStoreSpec.post enc Try.prog Try.f5 false true false false) := by
  refine returnsInHanded_of_change (C := Try.checked) own started (by kernel_rfl) Try.func5
    (ChangeSpec.witness6 (enc := enc) (C := Try.checked) false ⟨#[], #[.slice none 0 0], []⟩ 8 (by kernel_rfl) (by kernel_rfl) (by kernel_rfl) (by kernel_rfl)) ?_
  intro W base args ds gs before hval0 hW hcnd _
  have hval : ∀ (j : Nat) t v, Try.f5.params[j]? = some t → args[j]? = some v → Value.okWide Try.prog W .any base t v := hval0
  have hW' := hW
  obtain ⟨p, q, hA0, hV, rfl, hfz, hnd⟩ := hW
  have hA : DataW.TrodAll enc Try.prog W 0 (fun _ => true) true Try.f5.params.toList args.toList ds p := hA0
  rw [Try.params5] at hA hval
  obtain ⟨v0, vs0, d0, ds0, p0, q0, hargs, rfl, rfl, h0, r0⟩ := trodAll_cons hA
  obtain ⟨rfl, rfl, rfl⟩ := trodAll_nil r0
  obtain rfl : args = #[v0] := by cases args; simp_all
  obtain ⟨rfl, rfl⟩ := trodVars_none hV
  obtain ⟨a0, len0, cap0, rfl⟩ := okWide_slice Try.underlying34 (hval 0 34 v0 rfl rfl)
  have k0 := h0
  have lt0 : ∀ x ∈ p0, x.block < W.heap.size := by obtain ⟨m, hm⟩ := k0; exact DataW.trod_lt m _ _ _ hm
  have w0 : Code W W.heap.size a0 len0 cap0 := by
    obtain ⟨fuel, hf⟩ := h0
    rcases open_ints Try.underlying34 Try.underlying5 (by kernel_rfl) hf with ⟨hcs, _⟩ | ⟨x, l, c, zs, hcs, _, hl, hm, hz, _, hcell, hwz⟩
    · simp [Value.cells] at hcs
      obtain ⟨rfl, rfl, rfl⟩ := hcs
      exact code_nil _
    · simp [Value.cells] at hcs
      obtain ⟨rfl, rfl, rfl⟩ := hcs
      exact code_row hl hm (by simpa using hz) hcell hwz
  clear hA0 hval0
  refine (walk a0 len0 cap0 W w0).mono fun e W' ⟨he, bel0⟩ => ?_
  have bel := bel0.below
  subst he
  exact ⟨_, rfl, _, _, _, [], _, [], hW', trodAll_mk1 (shut_bool Try.underlying4 _), (trodAll_cons_mk (Below.trod laidOut (by kernel_rfl) (of_decide_eq_true (by kernel_rfl)) k0 bel lt0) trodAll_mk0), rfl, bel.frame _, fun h => by cases h⟩

theorem over : Rows.fnFilterStoreRow.holds Try.pinned (OpenSpec.ofChange Rows.fnFilterStoreSpec) :=
  OpenClaim.holds_of_wide 5 Try.f5 rfl rfl rfl rfl rfl rfl rfl ⟨rfl, rfl, rfl, rfl, rfl⟩ rfl rfl rfl rfl rfl (by kernel_rfl) Try.func5 (by kernel_rfl)
    (of_decide_eq_true (by kernel_rfl)) (by unfold Func.isWrapper; first | (rw [if_pos (by decide +kernel)]; kernel_rfl) | (rw [if_neg (by decide +kernel)]; exact ⟨rfl, rfl⟩))
    (fun os started H enc _ => lifted os started H enc)

theorem proved : Rows.FnFilterStoreSaid := over
#print axioms proved

end lawFilterStore
end Go.Proofs.Ytchblkeddeelhaa
