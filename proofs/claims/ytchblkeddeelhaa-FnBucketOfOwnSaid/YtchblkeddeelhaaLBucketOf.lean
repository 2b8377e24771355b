/- FnBucketOf, FnBucketOfMore, FnBucketOfOwn: buckets have near hashes, more bits find more, items are in their own buckets. No condition. -/
import Derived.Test.YtchblkeddeelhaaLift
import Derived.Test.YtchblkeddeelhaaDrawP
import Derived.Test.YtchblkeddeelhaaHash3
import Derived.Test.YtchblkeddeelhaaEqI
import Derived.Deep.RegionWith
namespace Go.Proofs.Ytchblkeddeelhaa
open Go.ChangeShapes Go.WideShapes Go.ChangeAt Go.RowKit
set_option linter.unusedVariables false
set_option linter.unusedSimpArgs false
theorem bucket_ne {ps : List (List Int)} {xs : List It} {at_ : List Int} {bt : Int} (h : 0 < (bucketF ps xs at_ bt).length) : bucketOk ps xs at_ bt = true := by
  unfold bucketF at h
  cases h1 : bucketOk ps xs at_ bt <;> simp [h1] at h
  rfl
theorem bucketOk_parts {ps : List (List Int)} {xs : List It} {at_ : List Int} {bt : Int} (h : bucketOk ps xs at_ bt = true) : planesB ps = true ∧ storeB xs = true ∧ vecB at_ = true ∧ 0 ≤ bt ∧ bt ≤ 6 := by
  unfold bucketOk at h
  simp only [Bool.and_eq_true, decide_eq_true_eq] at h
  exact ⟨h.1, h.2.1, h.2.2.1, h.2.2.2.1, h.2.2.2.2⟩
theorem bucketOk_of {ps : List (List Int)} {xs : List It} {at_ : List Int} {bt : Int} (h1 : planesB ps = true) (h2 : storeB xs = true) (h3 : vecB at_ = true) (h4 : 0 ≤ bt) (h5 : bt ≤ 6) : bucketOk ps xs at_ bt = true := by
  unfold bucketOk; rw [h1, h2, h3, decide_eq_true ⟨h4, h5⟩]; rfl
namespace lawBucketOfMore
set_option maxHeartbeats 4000000 in
theorem walk (A : Option Addr) (n c : Nat) (w : World) (hC : Code w w.heap.size A n c) : Calls Try.prog 9 #[.slice A n c] w fun e w' => e = .returned (.bool true) ∧ Chg No w w' := by
  have hn1 := hC.1
  have hn2 := hC.2.1
  by_cases hbig : 1048576 < n
  · go_enter Try.func9, Try.ntmps9
    go_wp2
    go_ret
    exact ⟨rfl, Chg.refl _ _⟩
  have hbig' : n ≤ 1048576 := by omega
  clear hbig
  go_enter Try.func9, Try.ntmps9
  (go_wp2_with fail; (with_reducible refine (drawBucketOf A n c _ hC).mono ?_); rintro e w1 ⟨v1, ps, v2, xs, A3, n3, c3, at_, bt, rfl, ho1, hl1, ho2, hl2, ht3, hn3, hbt, hc1⟩)
  obtain ⟨A1, c1, rfl, hr1⟩ := ORows.read ho1
  obtain ⟨A2, c2, rfl, hr2⟩ := OItems.read ho2
  have hm1 := hr1.cap; have hk1 := hr1.le; have hm2 := hr2.cap; have hk2 := hr2.le; have hm3 := ht3.1.cap; have hk3 := ht3.1.le
  have HP := hid hr1; have HX := hid hr2; have HY := hid ht3.1
  have hbt1 := hbt.1; have hbt2 := hbt.2
  clear ho1 hr1 ho2 hr2 ht3 hbt
  obtain ⟨L, hL⟩ : ∃ L, bucketF ps xs at_ bt = L := ⟨_, rfl⟩
  have KI := hid (fun W (h : Chg No w1 W) => iBucketOf _ _ _ _ _ ps _ _ _ _ _ xs _ _ _ _ _ at_ bt W (HP.out.no h) (HX.out.no h) (HY.out.no h))
  have KS := hid (fun W (h : Chg No w1 W) => sBucketOf _ _ _ _ _ ps _ _ _ _ _ xs _ _ _ _ _ at_ bt W (HP.out.no h) (HX.out.no h) (HY.out.no h))
  rw [hL] at KI KS
  have HL := hid hL
  clear hL
  (go_wp2_with fail; (with_reducible refine (KI.out _ (Chg.refl _ _)).mono ?_); rintro e w2 ⟨v4, rfl, ho4, hc2⟩)
  obtain ⟨A4, c4, rfl, hr4⟩ := OInts.read ho4
  have hm4 := hr4.cap; have hk4 := hr4.le
  have HO := hid hr4
  clear ho4 hr4
  (go_wp2_with fail; (with_reducible refine (KS.out _ hc2).mono ?_); rintro e w3 ⟨v5, rfl, ho5, hc3⟩)
  obtain ⟨A5, c5, rfl, hr5⟩ := OInts.read ho5
  have hm5 := hr5.cap; have hk5 := hr5.le
  have d3 := hc2.no hc3
  (go_wp2_with fail; (with_reducible refine (equalInts _ _ _ _ _ _ _ _ _ L _ (HO.out.no hc3) hr5).mono ?_); rintro e w4 ⟨rfl, hc4⟩)
  have d4 := d3.no hc4
  clear ho5 hr5
  by_cases hL0 : L.length = 0
  · have e0 : ((L.length : Int) == 0) = true := by simp; exact List.eq_nil_of_length_eq_zero hL0
    clear hL0
    (go_wp2_with fail; (with_reducible refine (KS.out _ d4).mono ?_); rintro e w5 ⟨v6, rfl, ho6, hc5⟩)
    obtain ⟨A6, c6, rfl, hr6⟩ := OInts.read ho6
    have hm6 := hr6.cap; have hk6 := hr6.le
    have d5 := d4.no hc5
    (go_wp2_with fail; (with_reducible refine (equalInts _ _ _ _ _ _ _ _ _ L _ (HO.out.no ((hc3.no hc4).no hc5)) hr6).mono ?_); rintro e w6 ⟨rfl, hc6⟩)
    go_wp2
    go_ret
    exact ⟨rfl, (hc1.no d5).no hc6⟩
  · have e0 : ((L.length : Int) == 0) = false := by simp; intro h; subst h; simp at hL0
    have hok := bucket_ne (ps := ps) (xs := xs) (at_ := at_) (bt := bt) (by rw [HL.out]; omega)
    have hpt := bucketOk_parts hok
    by_cases h6 : bt = 6
    · have e6 : (bt == 6) = true := by simp [h6]
      clear hL0 hok hpt h6
      (go_wp2_with fail; (with_reducible refine (KS.out _ d4).mono ?_); rintro e w5 ⟨v6, rfl, ho6, hc5⟩)
      obtain ⟨A6, c6, rfl, hr6⟩ := OInts.read ho6
      have hm6 := hr6.cap; have hk6 := hr6.le
      have d5 := d4.no hc5
      (go_wp2_with fail; (with_reducible refine (equalInts _ _ _ _ _ _ _ _ _ L _ (HO.out.no ((hc3.no hc4).no hc5)) hr6).mono ?_); rintro e w6 ⟨rfl, hc6⟩)
      go_wp2
      go_ret
      exact ⟨rfl, (hc1.no d5).no hc6⟩
    · have e6 : (bt == 6) = false := by simp [h6]
      have hb6 : bt + 1 ≤ 6 := by omega
      have hb0 : 0 ≤ bt := hpt.2.2.2.1
      have hok2 := bucketOk_of (bt := bt + 1) hpt.1 hpt.2.1 hpt.2.2.1 (by omega) hb6
      have hok6 := bucketOk_of (bt := 6) hpt.1 hpt.2.1 hpt.2.2.1 (by omega) (by omega)
      have HSUB := hid (show ∀ x ∈ L, x ∈ bucketF ps xs at_ (bt + 1) from fun x hx => by
        rw [← HL.out, bucketF_ok hok] at hx
        obtain ⟨y, hy, rfl⟩ := List.mem_map.1 hx
        unfold bucketL at hy
        rw [List.mem_filter] at hy
        exact (bucket_mem hok2 hy.1).2 (nearHB_more hy.2))
      have HALL := hid (show (bucketF ps xs at_ 6).length = xs.length from by
        rw [bucketF_ok hok6, List.length_map]
        unfold bucketL
        rw [List.filter_eq_self.2 (fun x _ => nearHB_all ((planesB_iff ps).1 hpt.1).1.2 at_ x)])
      have K2 := hid (fun W (h : Chg No w1 W) => iBucketOf _ _ _ _ _ ps _ _ _ _ _ xs _ _ _ _ _ at_ (bt + 1) W (HP.out.no h) (HX.out.no h) (HY.out.no h))
      have K6 := hid (fun W (h : Chg No w1 W) => iBucketOf _ _ _ _ _ ps _ _ _ _ _ xs _ _ _ _ _ at_ 6 W (HP.out.no h) (HX.out.no h) (HY.out.no h))
      generalize bucketF ps xs at_ (bt + 1) = M at *
      generalize bucketF ps xs at_ 6 = Z at *
      clear hL0 hok hpt hok2 hok6 h6
      (go_wp2_with fail; (with_reducible refine (K2.out _ d4).mono ?_); rintro e w5 ⟨v6, rfl, ho6, hc5⟩)
      obtain ⟨A6, c6, rfl, hr6⟩ := OInts.read ho6
      have hm6 := hr6.cap; have hk6 := hr6.le
      have HM := hid hr6
      have d5 := d4.no hc5
      have d25 := (hc3.no hc4).no hc5
      have hl17 : L.length ≤ c4 := hk4
      clear ho6 hr6
      go_wp2
      go_loop [9] (fun i => ∃ k : Nat, k ≤ L.length ∧ i = .int .i64 k) (fun i => L.length - (intOf i).toNat)
      case atStart => exact ⟨0, Nat.zero_le _, rfl⟩
      case round =>
        obtain ⟨k, hk, rfl⟩ := hrel
        by_cases hlt : k < L.length
        · obtain ⟨b, o, x, hA4, _, _, hxk, hE⟩ := (HO.out.no d25).at_ hlt
          subst hA4
          have hE1 : w5.cell? ⟨b, o + k, none⟩ = some (.int .i64 x) := by simpa [EInt] using hE
          have K := hid (isInL _ _ A6 M.length c6 M x w5 HM.out)
          rw [decide_eq_true (HSUB.out x (List.mem_of_getElem? hxk))] at K
          clear hxk hE
          (go_wp2_with fail; (with_reducible refine (K.out).mono ?_); rintro e w6 ⟨rfl, rfl⟩)
          go_wp2
          go_round
          case rel => exact ⟨k + 1, by omega, by go_num⟩
          case measure => simp [intOf]; omega
        · (go_wp2_with fail; (with_reducible refine (K6.out _ d5).mono ?_); rintro e w6 ⟨v7, rfl, ho7, hc6⟩)
          obtain ⟨A7, c7, rfl, hr7⟩ := OInts.read ho7
          have hm7 := hr7.cap; have hk7 := hr7.le
          have e9 : ((Z.length : Int) == (xs.length : Int)) = true := by rw [HALL.out]; simp
          clear ho7 hr7
          go_wp2
          go_ret
          exact ⟨rfl, (hc1.no d5).no hc6⟩

set_option maxRecDepth 100000 in
theorem lifted (os : Os) (started : os.Started) (H : Type) (enc : TypeId × Value → H) :
    ReturnsInHanded {} Try.checked os 9 .any (Rows.fnBucketOfMoreSpec.pre6 enc Try.prog Try.f9 Rows.fnBucketOfMoreRow.domain false) (Rows.fnBucketOfMoreSpec.post enc Try.prog Try.f9 false true false false) := by
  refine returnsInHanded_of_change (C := Try.checked) own started (by kernel_rfl) Try.func9
    (ChangeSpec.witness6 (enc := enc) (C := Try.checked) false ⟨#[], #[.slice none 0 0], []⟩ 8 (by kernel_rfl) (by kernel_rfl) (by kernel_rfl) (by kernel_rfl)) ?_
  intro W base args ds gs before hval0 hW hcnd _
  have hval : ∀ (j : Nat) t v, Try.f9.params[j]? = some t → args[j]? = some v → Value.okWide Try.prog W .any base t v := hval0
  have hW' := hW
  obtain ⟨p, q, hA0, hV, rfl, hfz, hnd⟩ := hW
  have hA : DataW.TrodAll enc Try.prog W 0 (fun _ => true) true Try.f9.params.toList args.toList ds p := hA0
  rw [Try.params9] at hA hval
  obtain ⟨v0, vs0, d0, ds0, p0, q0, hargs, rfl, rfl, h0, r0⟩ := trodAll_cons hA
  obtain ⟨rfl, rfl, rfl⟩ := trodAll_nil r0
  obtain rfl : args = #[v0] := by cases args; simp_all
  obtain ⟨rfl, rfl⟩ := trodVars_none hV
  obtain ⟨a0, len0, cap0, rfl⟩ := okWide_slice Try.underlying34 (hval 0 34 v0 rfl rfl)
  have k0 := h0
  have lt0 : ∀ x ∈ p0, x.block < W.heap.size := by obtain ⟨m, hm⟩ := k0; exact DataW.trod_lt m _ _ _ hm
  have w0 : Code W W.heap.size a0 len0 cap0 := by
    obtain ⟨fuel, hf⟩ := h0
    rcases open_ints Try.underlying34 Try.underlying5 (by kernel_rfl) hf with ⟨hcs, _⟩ | ⟨x, l, c, zs, hcs, _, hl, hm, hz, _, hcell, hwz⟩
    · simp [Value.cells] at hcs
      obtain ⟨rfl, rfl, rfl⟩ := hcs
      exact code_nil _
    · simp [Value.cells] at hcs
      obtain ⟨rfl, rfl, rfl⟩ := hcs
      exact code_row hl hm (by simpa using hz) hcell hwz
  clear hA0 hval0
  refine (walk a0 len0 cap0 W w0).mono fun e W' ⟨he, bel0⟩ => ?_
  have bel := bel0.below
  subst he
  exact ⟨_, rfl, _, _, _, [], _, [], hW', trodAll_mk1 (shut_bool Try.underlying4 _), (trodAll_cons_mk (Below.trod laidOut (by kernel_rfl) (of_decide_eq_true (by kernel_rfl)) k0 bel lt0) trodAll_mk0), rfl, bel.frame _, fun h => by cases h⟩

theorem over : Rows.fnBucketOfMoreRow.holds Try.pinned (OpenSpec.ofChange Rows.fnBucketOfMoreSpec) :=
  OpenClaim.holds_of_wide 9 Try.f9 rfl rfl rfl rfl rfl rfl rfl ⟨rfl, rfl, rfl, rfl, rfl⟩ rfl rfl rfl rfl rfl (by kernel_rfl) Try.func9 (by kernel_rfl)
    (of_decide_eq_true (by kernel_rfl)) (by unfold Func.isWrapper; first | (rw [if_pos (by decide +kernel)]; kernel_rfl) | (rw [if_neg (by decide +kernel)]; exact ⟨rfl, rfl⟩))
    (fun os started H enc _ => lifted os started H enc)

theorem proved : Rows.FnBucketOfMoreSaid := over
#print axioms proved

end lawBucketOfMore
namespace lawBucketOfOwn
set_option maxHeartbeats 4000000 in
theorem walk (A : Option Addr) (n c : Nat) (w : World) (hC : Code w w.heap.size A n c) : Calls Try.prog 10 #[.slice A n c] w fun e w' => e = .returned (.bool true) ∧ Chg No w w' := by
  have hn1 := hC.1
  have hn2 := hC.2.1
  by_cases hbig : 1048576 < n
  · go_enter Try.func10, Try.ntmps10
    go_wp2
    go_ret
    exact ⟨rfl, Chg.refl _ _⟩
  have hbig' : n ≤ 1048576 := by omega
  clear hbig
  go_enter Try.func10, Try.ntmps10
  (go_wp2_with fail; (with_reducible refine (drawBucketOf A n c _ hC).mono ?_); rintro e w1 ⟨v1, ps, v2, xs, A3, n3, c3, at_, bt, rfl, ho1, hl1, ho2, hl2, ht3, hn3, hbt, hc1⟩)
  obtain ⟨A1, c1, rfl, hr1⟩ := ORows.read ho1
  obtain ⟨A2, c2, rfl, hr2⟩ := OItems.read ho2
  have hm1 := hr1.cap; have hk1 := hr1.le; have hm2 := hr2.cap; have hk2 := hr2.le; have hm3 := ht3.1.cap; have hk3 := ht3.1.le
  have HP := hid hr1; have HX := hid hr2; have HY := hid ht3.1
  have hbt1 := hbt.1; have hbt2 := hbt.2
  clear ho1 hr1 ho2 hr2 ht3 hbt
  obtain ⟨L, hL⟩ : ∃ L, bucketF ps xs at_ bt = L := ⟨_, rfl⟩
  have KI := hid (fun W (h : Chg No w1 W) => iBucketOf _ _ _ _ _ ps _ _ _ _ _ xs _ _ _ _ _ at_ bt W (HP.out.no h) (HX.out.no h) (HY.out.no h))
  have KS := hid (fun W (h : Chg No w1 W) => sBucketOf _ _ _ _ _ ps _ _ _ _ _ xs _ _ _ _ _ at_ bt W (HP.out.no h) (HX.out.no h) (HY.out.no h))
  rw [hL] at KI KS
  have HL := hid hL
  clear hL
  (go_wp2_with fail; (with_reducible refine (KI.out _ (Chg.refl _ _)).mono ?_); rintro e w2 ⟨v4, rfl, ho4, hc2⟩)
  obtain ⟨A4, c4, rfl, hr4⟩ := OInts.read ho4
  have hm4 := hr4.cap; have hk4 := hr4.le
  have HO := hid hr4
  clear ho4 hr4
  (go_wp2_with fail; (with_reducible refine (KS.out _ hc2).mono ?_); rintro e w3 ⟨v5, rfl, ho5, hc3⟩)
  obtain ⟨A5, c5, rfl, hr5⟩ := OInts.read ho5
  have hm5 := hr5.cap; have hk5 := hr5.le
  have d3 := hc2.no hc3
  (go_wp2_with fail; (with_reducible refine (equalInts _ _ _ _ _ _ _ _ _ L _ (HO.out.no hc3) hr5).mono ?_); rintro e w4 ⟨rfl, hc4⟩)
  have d4 := d3.no hc4
  clear ho5 hr5
  by_cases hL0 : L.length = 0
  · have e0 : ((L.length : Int) == 0) = true := by simp; exact List.eq_nil_of_length_eq_zero hL0
    clear hL0
    (go_wp2_with fail; (with_reducible refine (KS.out _ d4).mono ?_); rintro e w5 ⟨v6, rfl, ho6, hc5⟩)
    obtain ⟨A6, c6, rfl, hr6⟩ := OInts.read ho6
    have hm6 := hr6.cap; have hk6 := hr6.le
    have d5 := d4.no hc5
    (go_wp2_with fail; (with_reducible refine (equalInts _ _ _ _ _ _ _ _ _ L _ (HO.out.no ((hc3.no hc4).no hc5)) hr6).mono ?_); rintro e w6 ⟨rfl, hc6⟩)
    go_wp2
    go_ret
    exact ⟨rfl, (hc1.no d5).no hc6⟩
  · have e0 : ((L.length : Int) == 0) = false := by simp; intro h; subst h; simp at hL0
    have hok := bucket_ne (ps := ps) (xs := xs) (at_ := at_) (bt := bt) (by rw [HL.out]; omega)
    have HPT := hid (bucketOk_parts hok)
    have HX4 := hid (HX.out.no d4)
    clear hL0 hok
    go_wp2
    go_loopw [8] (fun i wr => ∃ k : Nat, k ≤ xs.length ∧ i = .int .i64 k ∧ Chg No w4 wr) (fun i _ => xs.length - (intOf i).toNat)
    case atStart => exact ⟨0, Nat.zero_le _, rfl, Chg.refl _ _⟩
    case round =>
      obtain ⟨k, hk, rfl, hc⟩ := hrel
      obtain ⟨wo, rfl⟩ : ∃ W : World, W = wr := ⟨_, rfl⟩
      by_cases hlt : k < xs.length
      · obtain ⟨b, o, z, hA2, _, _, hzk, hE⟩ := (HX4.out.no hc).at_ hlt
        obtain ⟨zk, zv, zt⟩ := z
        obtain ⟨hE1, ⟨A8, n8, c8, hE2, hv⟩, hE3⟩ := hE
        subst hA2
        have hmem := List.mem_of_getElem? hzk
        have hpt := HPT.out
        have hzb := ((itemB_iff _).1 (storeB_item hpt.2.1 hzk)).2.1
        simp only [] at hzb
        have hok2 := bucketOk_of (bt := 0) hpt.1 hpt.2.1 hzb (by omega) (by omega)
        have HIN := hid ((bucket_mem hok2 hmem).2 (nearHB_own ((planesB_iff ps).1 hpt.1).1.2 ⟨zk, zv, zt⟩))
        have f1 : wo.cell? ⟨b, o + k * 3, none⟩ = some (.int .i64 zk) := hE1
        have f2 : wo.cell? ⟨b, o + k * 3 + 1, none⟩ = some (.slice A8 n8 c8) := hE2
        have HV := hid hv
        have KB := hid (fun W (h : Chg No wo W) => iBucketOf _ _ _ _ _ ps _ _ _ _ _ xs _ _ _ _ _ zv 0 W (HP.out.no ((d4.no hc).no h)) (HX.out.no ((d4.no hc).no h)) (HV.out.no h))
        generalize bucketF ps xs zv 0 = M at *
        clear hzk hE1 hE2 hE3 hv hmem hpt hzb hok2
        go_wp2_with fail
        first | (go_region_with (first | (go_at_call 35; (with_reducible refine (KB.out _ (by (repeat (first | (with_reducible exact Chg.refl _ _) | ((with_reducible refine Chg.setNew ?_ _ ?_); rotate_left; first | (dsimp only; omega) | (simp; done) | (simp; omega)) | (with_reducible refine Chg.alloc ?_ _) | (with_reducible refine Chg.drew ?_) | (with_reducible refine Chg.drewN ?_ _) | (with_reducible refine Chg.no ?_ (by assumption)) | (with_reducible refine Chg.and_ ?_ (by assumption)) | ((with_reducible refine Chg.at_ ?_ (by assumption) ?_); rotate_left; (try simp only [World.size_alloc]); omega))))).mono ?_); rintro e w6 ⟨v6, rfl, ho6, hc6⟩; obtain ⟨A6, c6, rfl, hr6⟩ := OInts.read ho6; have g1 := cell_keep (S := No) (w := wo) (w' := w6) (by (repeat (first | (with_reducible exact Chg.refl _ _) | ((with_reducible refine Chg.setNew ?_ _ ?_); rotate_left; first | (dsimp only; omega) | (simp; done) | (simp; omega)) | (with_reducible refine Chg.alloc ?_ _) | (with_reducible refine Chg.drew ?_) | (with_reducible refine Chg.drewN ?_ _) | (with_reducible refine Chg.no ?_ (by assumption)) | (with_reducible refine Chg.and_ ?_ (by assumption)) | ((with_reducible refine Chg.at_ ?_ (by assumption) ?_); rotate_left; (try simp only [World.size_alloc]); omega)))) f1 (fun e => e); have g2 := cell_keep (S := No) (w := wo) (w' := w6) (by (repeat (first | (with_reducible exact Chg.refl _ _) | ((with_reducible refine Chg.setNew ?_ _ ?_); rotate_left; first | (dsimp only; omega) | (simp; done) | (simp; omega)) | (with_reducible refine Chg.alloc ?_ _) | (with_reducible refine Chg.drew ?_) | (with_reducible refine Chg.drewN ?_ _) | (with_reducible refine Chg.no ?_ (by assumption)) | (with_reducible refine Chg.and_ ?_ (by assumption)) | ((with_reducible refine Chg.at_ ?_ (by assumption) ?_); rotate_left; (try simp only [World.size_alloc]); omega)))) f2 (fun e => e); have K9 := hid (fun W (h : Chg No w6 W) => isInL _ _ A6 M.length c6 M zk W (hr6.no h)); rw [decide_eq_true HIN.out] at K9) | (go_at_call 43; (with_reducible refine (K9.out _ (by (repeat (first | (with_reducible exact Chg.refl _ _) | ((with_reducible refine Chg.setNew ?_ _ ?_); rotate_left; first | (dsimp only; omega) | (simp; done) | (simp; omega)) | (with_reducible refine Chg.alloc ?_ _) | (with_reducible refine Chg.drew ?_) | (with_reducible refine Chg.drewN ?_ _) | (with_reducible refine Chg.no ?_ (by assumption)) | (with_reducible refine Chg.and_ ?_ (by assumption)) | ((with_reducible refine Chg.at_ ?_ (by assumption) ?_); rotate_left; (try simp only [World.size_alloc]); omega))))).mono ?_); rintro e w7 ⟨rfl, rfl⟩))) | fail
        all_goals
          go_wp2
          go_roundw
          case rel => exact ⟨k + 1, by omega, by go_num, hc.no (by (repeat (first | (with_reducible exact Chg.refl _ _) | ((with_reducible refine Chg.setNew ?_ _ ?_); rotate_left; first | (dsimp only; omega) | (simp; done) | (simp; omega)) | (with_reducible refine Chg.alloc ?_ _) | (with_reducible refine Chg.drew ?_) | (with_reducible refine Chg.drewN ?_ _) | (with_reducible refine Chg.no ?_ (by assumption)) | (with_reducible refine Chg.and_ ?_ (by assumption)) | ((with_reducible refine Chg.at_ ?_ (by assumption) ?_); rotate_left; (try simp only [World.size_alloc]); omega))))⟩
          case measure => simp [intOf]; omega
      · go_wp2
        go_ret
        exact ⟨rfl, (hc1.no d4).no hc⟩

set_option maxRecDepth 100000 in
theorem lifted (os : Os) (started : os.Started) (H : Type) (enc : TypeId × Value → H) :
    ReturnsInHanded {} Try.checked os 10 .any (Rows.fnBucketOfOwnSpec.pre6 enc Try.prog Try.f10 Rows.fnBucketOfOwnRow.domain false) (Rows.fnBucketOfOwnSpec.post enc Try.prog Try.f10 false true false false) := by
  refine returnsInHanded_of_change (C := Try.checked) own started (by kernel_rfl) Try.func10
    (ChangeSpec.witness6 (enc := enc) (C := Try.checked) false ⟨#[], #[.slice none 0 0], []⟩ 8 (by kernel_rfl) (by kernel_rfl) (by kernel_rfl) (by kernel_rfl)) ?_
  intro W base args ds gs before hval0 hW hcnd _
  have hval : ∀ (j : Nat) t v, Try.f10.params[j]? = some t → args[j]? = some v → Value.okWide Try.prog W .any base t v := hval0
  have hW' := hW
  obtain ⟨p, q, hA0, hV, rfl, hfz, hnd⟩ := hW
  have hA : DataW.TrodAll enc Try.prog W 0 (fun _ => true) true Try.f10.params.toList args.toList ds p := hA0
  rw [Try.params10] at hA hval
  obtain ⟨v0, vs0, d0, ds0, p0, q0, hargs, rfl, rfl, h0, r0⟩ := trodAll_cons hA
  obtain ⟨rfl, rfl, rfl⟩ := trodAll_nil r0
  obtain rfl : args = #[v0] := by cases args; simp_all
  obtain ⟨rfl, rfl⟩ := trodVars_none hV
  obtain ⟨a0, len0, cap0, rfl⟩ := okWide_slice Try.underlying34 (hval 0 34 v0 rfl rfl)
  have k0 := h0
  have lt0 : ∀ x ∈ p0, x.block < W.heap.size := by obtain ⟨m, hm⟩ := k0; exact DataW.trod_lt m _ _ _ hm
  have w0 : Code W W.heap.size a0 len0 cap0 := by
    obtain ⟨fuel, hf⟩ := h0
    rcases open_ints Try.underlying34 Try.underlying5 (by kernel_rfl) hf with ⟨hcs, _⟩ | ⟨x, l, c, zs, hcs, _, hl, hm, hz, _, hcell, hwz⟩
    · simp [Value.cells] at hcs
      obtain ⟨rfl, rfl, rfl⟩ := hcs
      exact code_nil _
    · simp [Value.cells] at hcs
      obtain ⟨rfl, rfl, rfl⟩ := hcs
      exact code_row hl hm (by simpa using hz) hcell hwz
  clear hA0 hval0
  refine (walk a0 len0 cap0 W w0).mono fun e W' ⟨he, bel0⟩ => ?_
  have bel := bel0.below
  subst he
  exact ⟨_, rfl, _, _, _, [], _, [], hW', trodAll_mk1 (shut_bool Try.underlying4 _), (trodAll_cons_mk (Below.trod laidOut (by kernel_rfl) (of_decide_eq_true (by kernel_rfl)) k0 bel lt0) trodAll_mk0), rfl, bel.frame _, fun h => by cases h⟩

theorem over : Rows.fnBucketOfOwnRow.holds Try.pinned (OpenSpec.ofChange Rows.fnBucketOfOwnSpec) :=
  OpenClaim.holds_of_wide 10 Try.f10 rfl rfl rfl rfl rfl rfl rfl ⟨rfl, rfl, rfl, rfl, rfl⟩ rfl rfl rfl rfl rfl (by kernel_rfl) Try.func10 (by kernel_rfl)
    (of_decide_eq_true (by kernel_rfl)) (by unfold Func.isWrapper; first | (rw [if_pos (by decide +kernel)]; kernel_rfl) | (rw [if_neg (by decide +kernel)]; exact ⟨rfl, rfl⟩))
    (fun os started H enc _ => lifted os started H enc)

theorem proved : Rows.FnBucketOfOwnSaid := over
#print axioms proved

end lawBucketOfOwn
namespace lawBucketOf
set_option maxHeartbeats 4000000 in
theorem walk (A : Option Addr) (n c : Nat) (w : World) (hC : Code w w.heap.size A n c) : Calls Try.prog 11 #[.slice A n c] w fun e w' => e = .returned (.bool true) ∧ Chg No w w' := by
  have hn1 := hC.1
  have hn2 := hC.2.1
  by_cases hbig : 1048576 < n
  · go_enter Try.func11, Try.ntmps11
    go_wp2
    go_ret
    exact ⟨rfl, Chg.refl _ _⟩
  have hbig' : n ≤ 1048576 := by omega
  clear hbig
  go_enter Try.func11, Try.ntmps11
  (go_wp2_with fail; (with_reducible refine (drawBucketOf A n c _ hC).mono ?_); rintro e w1 ⟨v1, ps, v2, xs, A3, n3, c3, at_, bt, rfl, ho1, hl1, ho2, hl2, ht3, hn3, hbt, hc1⟩)
  obtain ⟨A1, c1, rfl, hr1⟩ := ORows.read ho1
  obtain ⟨A2, c2, rfl, hr2⟩ := OItems.read ho2
  have hm1 := hr1.cap; have hk1 := hr1.le; have hm2 := hr2.cap; have hk2 := hr2.le; have hm3 := ht3.1.cap; have hk3 := ht3.1.le
  have HP := hid hr1; have HX := hid hr2; have HY := hid ht3.1
  have hbt1 := hbt.1; have hbt2 := hbt.2
  clear ho1 hr1 ho2 hr2 ht3 hbt
  obtain ⟨L, hL⟩ : ∃ L, bucketF ps xs at_ bt = L := ⟨_, rfl⟩
  have KI := hid (fun W (h : Chg No w1 W) => iBucketOf _ _ _ _ _ ps _ _ _ _ _ xs _ _ _ _ _ at_ bt W (HP.out.no h) (HX.out.no h) (HY.out.no h))
  have KS := hid (fun W (h : Chg No w1 W) => sBucketOf _ _ _ _ _ ps _ _ _ _ _ xs _ _ _ _ _ at_ bt W (HP.out.no h) (HX.out.no h) (HY.out.no h))
  rw [hL] at KI KS
  have HL := hid hL
  clear hL
  (go_wp2_with fail; (with_reducible refine (KI.out _ (Chg.refl _ _)).mono ?_); rintro e w2 ⟨v4, rfl, ho4, hc2⟩)
  obtain ⟨A4, c4, rfl, hr4⟩ := OInts.read ho4
  have hm4 := hr4.cap; have hk4 := hr4.le
  have HO := hid hr4
  clear ho4 hr4
  (go_wp2_with fail; (with_reducible refine (KS.out _ hc2).mono ?_); rintro e w3 ⟨v5, rfl, ho5, hc3⟩)
  obtain ⟨A5, c5, rfl, hr5⟩ := OInts.read ho5
  have hm5 := hr5.cap; have hk5 := hr5.le
  have d3 := hc2.no hc3
  (go_wp2_with fail; (with_reducible refine (equalInts _ _ _ _ _ _ _ _ _ L _ (HO.out.no hc3) hr5).mono ?_); rintro e w4 ⟨rfl, hc4⟩)
  have d4 := d3.no hc4
  clear ho5 hr5
  by_cases hL0 : L.length = 0
  · have e0 : ((L.length : Int) == 0) = true := by simp; exact List.eq_nil_of_length_eq_zero hL0
    clear hL0
    (go_wp2_with fail; (with_reducible refine (KS.out _ d4).mono ?_); rintro e w5 ⟨v6, rfl, ho6, hc5⟩)
    obtain ⟨A6, c6, rfl, hr6⟩ := OInts.read ho6
    have hm6 := hr6.cap; have hk6 := hr6.le
    have d5 := d4.no hc5
    (go_wp2_with fail; (with_reducible refine (equalInts _ _ _ _ _ _ _ _ _ L _ (HO.out.no ((hc3.no hc4).no hc5)) hr6).mono ?_); rintro e w6 ⟨rfl, hc6⟩)
    go_wp2
    go_ret
    exact ⟨rfl, (hc1.no d5).no hc6⟩
  · have e0 : ((L.length : Int) == 0) = false := by simp; intro h; subst h; simp at hL0
    have hok := bucket_ne (ps := ps) (xs := xs) (at_ := at_) (bt := bt) (by rw [HL.out]; omega)
    have HPT := hid (bucketOk_parts hok)
    have HOK := hid hok
    have hpt := HPT.out
    have hp6 := ((planesB_iff ps).1 hpt.1).1.2
    have KH := hid (fun W (h : Chg No w1 W) => iHashOf _ _ _ _ _ _ _ _ _ _ ps at_ W (HP.out.no h) (HY.out.no h))
    rw [HashF_ok hpt.1 hpt.2.2.1] at KH
    have hbat := hashF_64 hp6 at_
    have HBD := hid hbat
    have HNB := hid (show ∀ x : It, nearHB ps at_ bt x = decide (apartF (hashF ps x.vec) (hashF ps at_) ≤ bt) from fun _ => rfl)
    generalize hashF ps at_ = hv9 at *
    clear hL0 hok hpt hbat
    (go_wp2_with fail; (with_reducible refine (KH.out _ d4).mono ?_); rintro e w5 ⟨rfl, hc5⟩)
    have d5 := d4.no hc5
    have HX5 := hid (HX.out.no d5)
    have HO5 := hid (HO.out.no ((hc3.no hc4).no hc5))
    go_wp2
    go_loopw [9] (fun i wr => ∃ k : Nat, k ≤ xs.length ∧ i = .int .i64 k ∧ Chg No w5 wr) (fun i _ => xs.length - (intOf i).toNat)
    case atStart => exact ⟨0, Nat.zero_le _, rfl, Chg.refl _ _⟩
    case round =>
      obtain ⟨k, hk, rfl, hc⟩ := hrel
      obtain ⟨wo, rfl⟩ : ∃ W : World, W = wr := ⟨_, rfl⟩
      by_cases hlt : k < xs.length
      · obtain ⟨b, o, z, hA2, _, _, hzk, hE⟩ := (HX5.out.no hc).at_ hlt
        obtain ⟨zk, zv, zt⟩ := z
        obtain ⟨hE1, ⟨A8, n8, c8, hE2, hv⟩, hE3⟩ := hE
        subst hA2
        have hmem := List.mem_of_getElem? hzk
        have hpt := HPT.out
        have hzb := ((itemB_iff _).1 (storeB_item hpt.2.1 hzk)).2.1
        simp only [] at hzb
        have hbm := bucket_mem HOK.out hmem
        rw [HL.out, HNB.out] at hbm
        simp only [decide_eq_true_eq] at hbm
        have f1 : ∀ p : NB wo, p.wd.cell? ⟨b, o + k * 3, none⟩ = some (.int .i64 zk) := nb_cell hE1
        have f2 : ∀ p : NB wo, p.wd.cell? ⟨b, o + k * 3 + 1, none⟩ = some (.slice A8 n8 c8) := nb_cell hE2
        have HV := hid hv
        have KZ := hid (fun W (h : Chg No wo W) => iHashOf _ _ _ _ _ _ _ _ _ _ ps zv W (HP.out.no ((d5.no hc).no h)) (HV.out.no h))
        rw [HashF_ok hpt.1 hzb] at KZ
        have hbz := hashF_64 hp6 zv
        have KB := hid (fun W => iBitsApart (hashF ps zv) hv9 W hbz HBD.out)
        have KN := hid (fun W (h : Chg No wo W) => isInL _ _ A4 L.length c4 L zk W ((HO5.out.no hc).no h))
        generalize hashF ps zv = u at *
        generalize apartF u hv9 = r at *
        clear hzk hE1 hE2 hE3 hv hmem hpt hzb hbz
        by_cases hin : r ≤ bt
        · rw [decide_eq_true (hbm.2 hin)] at KN
          have j1 : decide (r ≤ bt) = true := decide_eq_true hin
          clear hbm
          go_wp2_with fail
          (refine wp_region_nb (by kernel_rfl) (by kernel_rfl) ?_; (repeat (first | go_big_quiet_step ((first | (go_at_call 43; exact nb_same ((KN.out _ (NB.h _)).mono fun e w' h => ⟨h.1, h.2⟩)) | (go_at_call 28; exact nb_of (KZ.out _ (NB.h _))) | (go_at_call 44; exact nb_same (KB.out _)))) | quiet_step ((first | (go_at_call 43; exact nb_same ((KN.out _ (NB.h _)).mono fun e w' h => ⟨h.1, h.2⟩)) | (go_at_call 28; exact nb_of (KZ.out _ (NB.h _))) | (go_at_call 44; exact nb_same (KB.out _)))))); (with_reducible refine wpQuiet_nil ?_); intro wq hw1; have hq := nb_out hw1; clear hw1)
          go_wp2
          go_roundw
          case rel => exact ⟨k + 1, by omega, by go_num, hc.no hq⟩
          case measure => simp [intOf]; omega
        · rw [decide_eq_false (fun h => hin (hbm.1 h))] at KN
          have j1 : decide (r ≤ bt) = false := decide_eq_false hin
          clear hbm
          go_wp2_with fail
          (refine wp_region_nb (by kernel_rfl) (by kernel_rfl) ?_; (repeat (first | go_big_quiet_step ((first | (go_at_call 43; exact nb_same ((KN.out _ (NB.h _)).mono fun e w' h => ⟨h.1, h.2⟩)) | (go_at_call 28; exact nb_of (KZ.out _ (NB.h _))) | (go_at_call 44; exact nb_same (KB.out _)))) | quiet_step ((first | (go_at_call 43; exact nb_same ((KN.out _ (NB.h _)).mono fun e w' h => ⟨h.1, h.2⟩)) | (go_at_call 28; exact nb_of (KZ.out _ (NB.h _))) | (go_at_call 44; exact nb_same (KB.out _)))))); (with_reducible refine wpQuiet_nil ?_); intro wq hw1; have hq := nb_out hw1; clear hw1)
          go_wp2
          go_roundw
          case rel => exact ⟨k + 1, by omega, by go_num, hc.no hq⟩
          case measure => simp [intOf]; omega
      · go_wp2
        go_ret
        exact ⟨rfl, (hc1.no d5).no hc⟩

set_option maxRecDepth 100000 in
theorem lifted (os : Os) (started : os.Started) (H : Type) (enc : TypeId × Value → H) :
    ReturnsInHanded {} Try.checked os 11 .any (Rows.fnBucketOfSpec.pre6 enc Try.prog Try.f11 Rows.fnBucketOfRow.domain false) (Rows.fnBucketOfSpec.post enc Try.prog Try.f11 false true false false) := by
  refine returnsInHanded_of_change (C := Try.checked) own started (by kernel_rfl) Try.func11
    (ChangeSpec.witness6 (enc := enc) (C := Try.checked) false ⟨#[], #[.slice none 0 0], []⟩ 8 (by kernel_rfl) (by kernel_rfl) (by kernel_rfl) (by kernel_rfl)) ?_
  intro W base args ds gs before hval0 hW hcnd _
  have hval : ∀ (j : Nat) t v, Try.f11.params[j]? = some t → args[j]? = some v → Value.okWide Try.prog W .any base t v := hval0
  have hW' := hW
  obtain ⟨p, q, hA0, hV, rfl, hfz, hnd⟩ := hW
  have hA : DataW.TrodAll enc Try.prog W 0 (fun _ => true) true Try.f11.params.toList args.toList ds p := hA0
  rw [Try.params11] at hA hval
  obtain ⟨v0, vs0, d0, ds0, p0, q0, hargs, rfl, rfl, h0, r0⟩ := trodAll_cons hA
  obtain ⟨rfl, rfl, rfl⟩ := trodAll_nil r0
  obtain rfl : args = #[v0] := by cases args; simp_all
  obtain ⟨rfl, rfl⟩ := trodVars_none hV
  obtain ⟨a0, len0, cap0, rfl⟩ := okWide_slice Try.underlying34 (hval 0 34 v0 rfl rfl)
  have k0 := h0
  have lt0 : ∀ x ∈ p0, x.block < W.heap.size := by obtain ⟨m, hm⟩ := k0; exact DataW.trod_lt m _ _ _ hm
  have w0 : Code W W.heap.size a0 len0 cap0 := by
    obtain ⟨fuel, hf⟩ := h0
    rcases open_ints Try.underlying34 Try.underlying5 (by kernel_rfl) hf with ⟨hcs, _⟩ | ⟨x, l, c, zs, hcs, _, hl, hm, hz, _, hcell, hwz⟩
    · simp [Value.cells] at hcs
      obtain ⟨rfl, rfl, rfl⟩ := hcs
      exact code_nil _
    · simp [Value.cells] at hcs
      obtain ⟨rfl, rfl, rfl⟩ := hcs
      exact code_row hl hm (by simpa using hz) hcell hwz
  clear hA0 hval0
  refine (walk a0 len0 cap0 W w0).mono fun e W' ⟨he, bel0⟩ => ?_
  have bel := bel0.below
  subst he
  exact ⟨_, rfl, _, _, _, [], _, [], hW', trodAll_mk1 (shut_bool Try.underlying4 _), (trodAll_cons_mk (Below.trod laidOut (by kernel_rfl) (of_decide_eq_true (by kernel_rfl)) k0 bel lt0) trodAll_mk0), rfl, bel.frame _, fun h => by cases h⟩

theorem over : Rows.fnBucketOfRow.holds Try.pinned (OpenSpec.ofChange Rows.fnBucketOfSpec) :=
  OpenClaim.holds_of_wide 11 Try.f11 rfl rfl rfl rfl rfl rfl rfl ⟨rfl, rfl, rfl, rfl, rfl⟩ rfl rfl rfl rfl rfl (by kernel_rfl) Try.func11 (by kernel_rfl)
    (of_decide_eq_true (by kernel_rfl)) (by unfold Func.isWrapper; first | (rw [if_pos (by decide +kernel)]; kernel_rfl) | (rw [if_neg (by decide +kernel)]; exact ⟨rfl, rfl⟩))
    (fun os started H enc _ => lifted os started H enc)

theorem proved : Rows.FnBucketOfSaid := over
#print axioms proved

end lawBucketOf
end Go.Proofs.Ytchblkeddeelhaa
