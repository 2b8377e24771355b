/- FnHashNearest: the nearest of buckets are in them. No condition. -/
import Derived.Test.YtifdcdpdihfbjaaLift
import Derived.Test.YtifdcdpdihfbjaaDrawQ
import Derived.Test.YtifdcdpdihfbjaaPHashN
import Derived.Test.YtifdcdpdihfbjaaEqH
import Derived.Test.YtifdcdpdihfbjaaItemOf
import Derived.Test.YtifdcdpdihfbjaaIsIn
import Derived.Test.YtifdcdpdihfbjaaKeys
import Derived.Test.YtifdcdpdihfbjaaEqI
import Derived.Deep.RegionHeld3
import Derived.Deep.RegionWith
import Derived.Deep.DeepCutAuto
namespace Go.Proofs.Ytifdcdpdihfbjaa
open Go.ChangeShapes Go.WideShapes Go.ChangeAt Go.RowKit Go.Shelf
set_option linter.unusedVariables false
set_option linter.unusedSimpArgs false
namespace lawHashNearest
set_option maxRecDepth 100000 in
set_option maxHeartbeats 8000000 in
theorem walk (A : Option Addr) (n c : Nat) (w : World) (hC : Code w w.heap.size A n c) : Calls Try.prog 7 #[.slice A n c] w fun e w' => e = .returned (.bool true) ∧ Chg No w w' := by
  have hn1 := hC.1
  have hn2 := hC.2.1
  by_cases hbig : 1048576 < n
  · skip
    go_enter Try.func7, Try.ntmps7
    go_wp2
    go_ret
    exact ⟨rfl, Chg.refl _ _⟩
  · skip
    have hbig' : n ≤ 1048576 := by omega
    go_enter Try.func7, Try.ntmps7
    (go_wp2_with fail; (with_reducible refine (drawHashNearest A n c _ hC).mono ?_); rintro e w1 ⟨v1, ps, v2, xs, AV, nv, cv, at_, bt, k, rfl, ho1, hl1, hi1, hm1, ht1, hn1', hbt, hk9, hc1⟩)
    obtain ⟨A1, c1, rfl, hr1⟩ := ORows.read ho1
    obtain ⟨A0, c0, rfl, hr0⟩ := OItems.read hi1
    have hx1 := hr1.cap; have hk1 := hr1.le; have hx2 := hr0.cap; have hk2 := hr0.le; have hx3 := ht1.1.cap; have hk3 := ht1.1.le
    have HP := hid hr1; have HX := hid hr0; have HY := hid ht1.1
    have hbt1 := hbt.1; have hbt2 := hbt.2; have hkd1 := hk9.1; have hkd2 := hk9.2
    have s1 := hc1.size
    clear ho1 hr1 hi1 hr0 ht1 hbt hk9
    obtain ⟨L, hL⟩ : ∃ L, HnearF ps xs at_ bt k = L := ⟨_, rfl⟩
    have KI := hid (fun W (h : Chg No w1 W) => iHashNearest _ _ _ _ _ ps _ _ _ _ _ xs _ _ _ _ _ at_ bt k W (HP.out.no h) (HX.out.no h) (HY.out.no h))
    have KS := hid (fun W (h : Chg No w1 W) => sHashNearest _ _ _ _ _ ps _ _ _ _ _ xs _ _ _ _ _ at_ bt k W (HP.out.no h) (HX.out.no h) (HY.out.no h))
    rw [hL] at KS KI
    have HL := hid hL
    clear hL
    (go_wp2_with fail; (with_reducible refine (KI.out _ (Chg.refl _ _)).mono ?_); rintro e w2 ⟨v2, rfl, ho2, hc2⟩)
    obtain ⟨A2, c2, rfl, hr2⟩ := OHits.read ho2
    have hp2 := hr2.cap; have hl2 := hr2.le
    have R2 := hid hr2
    have s2 := hc2.size
    clear ho2 hr2
    (go_wp2_with fail; (with_reducible refine (KS.out _ hc2).mono ?_); rintro e w3 ⟨v3, rfl, ho3, hc3⟩)
    obtain ⟨A3, c3, rfl, hr3⟩ := OHits.read ho3
    have hp3 := hr3.cap; have hl3 := hr3.le
    have R3 := hid hr3
    have s3 := hc3.size
    clear ho3 hr3
    have q3 : Chg No w1 w3 := hc2.no hc3
    (go_wp2_with fail; (with_reducible refine (equalHits _ _ _ _ _ _ _ _ _ L _ (R2.out.no hc3) R3.out).mono ?_); rintro e w4 ⟨rfl, hc4⟩)
    have q4 : Chg No w1 w4 := q3.no hc4
    have r4 : Chg No w2 w4 := hc3.no hc4
    have s4 := hc4.size
    clear R3
    by_cases hL0 : L.length = 0
    · have e0 : ((L.length : Int) == 0) = true := by simp; exact List.eq_nil_of_length_eq_zero hL0
      clear hL0
      (go_wp2_with fail; (with_reducible refine (KS.out _ q4).mono ?_); rintro e w8 ⟨v8, rfl, ho8, hc8⟩)
      obtain ⟨A8, c8, rfl, hr8⟩ := OHits.read ho8
      have hp8 := hr8.cap; have hl8 := hr8.le
      have R8 := hid hr8
      have s8 := hc8.size
      clear ho8 hr8
      (go_wp2_with fail; (with_reducible refine (equalHits _ _ _ _ _ _ _ _ _ L _ (R2.out.no (r4.no hc8)) R8.out).mono ?_); rintro e w9 ⟨rfl, hc9⟩)
      go_wp2
      go_ret
      exact ⟨rfl, hc1.no ((q4.no hc8).no hc9)⟩
    · have e0 : ((L.length : Int) == 0) = false := by simp; intro h; subst h; simp at hL0
      have hLpos : 0 < L.length := by omega
      have hok := hnOk_ok (hnear_ne (ps := ps) (l := xs) (at_ := at_) (bt := bt) (k := k) (by rw [HL.out]; exact hLpos))
      have hL16 : L.length ≤ 16 := by
        have h9 := congrArg List.length (HnearF_ok hok.ok)
        rw [HL.out, nearestF_length] at h9
        have := hok.k16
        omega
      clear hL0
      have KF := hid (fun W (h : Chg No w1 W) => iBucketOf _ _ _ _ _ ps _ _ _ _ _ xs _ _ _ _ _ at_ bt W (HP.out.no h) (HX.out.no h) (HY.out.no h))
      have HIN := hid (fun (y : Int × Int) (hy : y ∈ L) => hnear_in hok (y := y) (by rw [HL.out]; exact hy))
      have hTl : (bucketF ps xs at_ bt).length ≤ 16 := by
        rw [bucketF_ok hok.bucket, List.length_map]
        have := (bucketL_sub ps xs at_ bt).length_le
        have := storeB_len hok.can.store
        omega
      have hvb := hok.can.vec
      have hcan := hok.can.can hok.k1 hok.k16
      have KN := hid (fun W (h : Chg No w1 W) => iNEAREST _ _ _ _ _ xs _ _ _ _ _ at_ 3 k W (HX.out.no h) (HY.out.no h))
      rw [NearestF_ok hcan] at KN
      have KM := hid (fun W (h : Chg No w1 W) => iHashNearest _ _ _ _ _ ps _ _ _ _ _ xs _ _ _ _ _ at_ 6 k W (HP.out.no h) (HX.out.no h) (HY.out.no h))
      rw [HnearF_all hok] at KM
      clear hok hcan KI KS HL
      generalize bucketF ps xs at_ bt = T at *
      generalize nearestF xs 3 at_ k = M at *
      (go_wp2_with fail; (with_reducible refine (KF.out _ q4).mono ?_); rintro e w5 ⟨v5, rfl, ho5, hc5⟩)
      obtain ⟨A5, c5, rfl, hr5⟩ := OInts.read ho5
      have hp5 := hr5.cap; have hl5 := hr5.le
      have R5 := hid hr5
      have s5 := hc5.size
      have q5 := q4.no hc5
      have r5 := r4.no hc5
      clear ho5 hr5 KF
      go_wp2
      go_loopw [10] (fun i wr => ∃ j : Nat, j ≤ L.length ∧ i = .int .i64 j ∧ Chg No w5 wr) (fun i _ => L.length - (intOf i).toNat)
      case atStart => exact ⟨0, Nat.zero_le _, rfl, Chg.refl _ _⟩
      case round =>
        obtain ⟨j, hj, rfl, hc⟩ := hrel
        obtain ⟨wo, rfl⟩ : ∃ W : World, W = wr := ⟨_, rfl⟩
        have qo := q5.no hc
        by_cases hlt : j < L.length
        · obtain ⟨b2, o2, y, rfl, _, _, hyk, hE⟩ := (R2.out.no (r5.no hc)).at_ hlt
          obtain ⟨q, z, hzq, hy1, hy2, hzv, hzT, hno⟩ := HIN.out y (List.mem_of_getElem? hyk)
          obtain ⟨y1, y2⟩ := y
          obtain rfl : y1 = z.key := hy1
          have hq1 := (List.getElem?_eq_some_iff.1 hzq).1
          obtain ⟨b, o, z', hA', _, _, hzk', hE'⟩ := (HX.out.no qo).at_ hq1
          subst hA'
          rw [hzq] at hzk'
          injection hzk' with hzk'
          subst hzk'
          obtain ⟨hE1, ⟨A9, n9, c9, hE2, hv⟩, hE3⟩ := hE'
          have HC9 := hid hE2
          have HV := hid hv
          have KIO := hid (fun W (h : Chg No wo W) => itemOf _ _ b o _ _ xs q z A9 n9 c9 W (HX.out.no (qo.no h)) hzq hno (cell_keep h HC9.out (fun e => e)))
          have KD := hid (fun W (h : Chg No wo W) => iDISTANCE _ _ _ _ _ _ _ _ _ _ z.vec at_ 3 W (HV.out.no h) (HY.out.no (qo.no h)) hzv hvb (by omega) (by omega))
          rw [← show y2 = distF 3 z.vec at_ from hy2] at KD
          have KT := hid (fun W (h : Chg No wo W) => isInL _ _ A5 T.length c5 T z.key W (R5.out.no (hc.no h)))
          rw [decide_eq_true hzT] at KT
          have f4 : ∀ p : NB wo, p.wd.cell? ⟨b2, o2 + j * 2, none⟩ = some (.int .i64 z.key) := nb_cell hE.1
          have f5 : ∀ p : NB wo, p.wd.cell? ⟨b2, o2 + j * 2 + 1, none⟩ = some (.int .i64 y2) := nb_cell hE.2
          have e2 : (y2 != y2) = false := by simp
          have hfld : ∀ (a b c : Value) (W : World), Sem.run Try.prog (Instr.field 36 (.agg #[a, b, c]) 1) W = .ok b W := fun a b c W => by first | rfl | kernel_rfl
          clear hE hE1 hE2 hE3 hv hno hzq hyk hy2 hzv hzT
          go_wp2_with fail
          (refine wp_region_nb (by kernel_rfl) (by kernel_rfl) ?_; (repeat (first | go_big_quiet_step ((first | (go_at_call 20; (with_reducible exact nb_same (KT.out _ (NB.h _)))) | (go_at_call 14; (with_reducible exact nb_of (KIO.out _ (NB.h _)))) | (go_at_call 41; (with_reducible exact nb_of (KD.out _ (NB.h _)))))) | quiet_step ((first | (go_at_call 20; (with_reducible exact nb_same (KT.out _ (NB.h _)))) | (go_at_call 14; (with_reducible exact nb_of (KIO.out _ (NB.h _)))) | (go_at_call 41; (with_reducible exact nb_of (KD.out _ (NB.h _)))))))); (with_reducible refine wpQuiet_nil ?_); intro wq hw1; have hq := nb_out hw1; clear hw1)
          go_wp2
          go_roundw
          case rel => exact ⟨j + 1, by omega, by go_num, hc.no hq⟩
          case measure => simp [intOf]; omega
        · (go_wp2_with fail; (with_reducible refine (KM.out _ qo).mono ?_); rintro e w6 ⟨v6, rfl, ho6, hc6⟩)
          obtain ⟨A6, c6, rfl, hr6⟩ := OHits.read ho6
          have hp6 := hr6.cap; have hl6 := hr6.le
          have R6 := hid hr6
          have s6 := hc6.size
          clear ho6 hr6
          (go_wp2_with fail; (with_reducible refine (KN.out _ (qo.no hc6)).mono ?_); rintro e w7 ⟨v7, rfl, ho7, hc7⟩)
          obtain ⟨A7, c7, rfl, hr7⟩ := OHits.read ho7
          have hp7 := hr7.cap; have hl7 := hr7.le
          have R7 := hid hr7
          have s7 := hc7.size
          clear ho7 hr7
          (go_wp2_with fail; (with_reducible refine (equalHits _ _ _ _ _ _ _ _ _ M _ (R6.out.no hc7) R7.out).mono ?_); rintro e w8 ⟨rfl, hc8⟩)
          go_wp2
          go_ret
          exact ⟨rfl, hc1.no (((qo.no hc6).no hc7).no hc8)⟩

set_option maxRecDepth 100000 in
theorem lifted (os : Os) (started : os.Started) (H : Type) (enc : TypeId × Value → H) :
    ReturnsInHanded {} Try.checked os 7 .any (Rows.fnHashNearestSpec.pre6 enc Try.prog Try.f7 Rows.fnHashNearestRow.domain false) (Rows.fnHashNearestSpec.post enc Try.prog Try.f7 false true false false) := by
  refine returnsInHanded_of_change (C := Try.checked) own started (by kernel_rfl) Try.func7
    (ChangeSpec.witness6 (enc := enc) (C := Try.checked) false ⟨#[], #[.slice none 0 0], []⟩ 8 (by kernel_rfl) (by kernel_rfl) (by kernel_rfl) (by kernel_rfl)) ?_
  intro W base args ds gs before hval0 hW hcnd _
  have hval : ∀ (j : Nat) t v, Try.f7.params[j]? = some t → args[j]? = some v → Value.okWide Try.prog W .any base t v := hval0
  have hW' := hW
  obtain ⟨p, q, hA0, hV, rfl, hfz, hnd⟩ := hW
  have hA : DataW.TrodAll enc Try.prog W 0 (fun _ => true) true Try.f7.params.toList args.toList ds p := hA0
  rw [Try.params7] at hA hval
  obtain ⟨v0, vs0, d0, ds0, p0, q0, hargs, rfl, rfl, h0, r0⟩ := trodAll_cons hA
  obtain ⟨rfl, rfl, rfl⟩ := trodAll_nil r0
  obtain rfl : args = #[v0] := by cases args; simp_all
  obtain ⟨rfl, rfl⟩ := trodVars_none hV
  obtain ⟨a0, len0, cap0, rfl⟩ := okWide_slice Try.underlying22 (hval 0 22 v0 rfl rfl)
  have k0 := h0
  have lt0 : ∀ x ∈ p0, x.block < W.heap.size := by obtain ⟨m, hm⟩ := k0; exact DataW.trod_lt m _ _ _ hm
  have w0 : Code W W.heap.size a0 len0 cap0 := by
    obtain ⟨fuel, hf⟩ := h0
    rcases open_ints Try.underlying22 Try.underlying5 (by kernel_rfl) hf with ⟨hcs, _⟩ | ⟨x, l, c, zs, hcs, _, hl, hm, hz, _, hcell, hwz⟩
    · simp [Value.cells] at hcs
      obtain ⟨rfl, rfl, rfl⟩ := hcs
      exact code_nil _
    · simp [Value.cells] at hcs
      obtain ⟨rfl, rfl, rfl⟩ := hcs
      exact code_row hl hm (by simpa using hz) hcell hwz
  clear hA0 hval0
  refine (walk a0 len0 cap0 W w0).mono fun e W' ⟨he, bel0⟩ => ?_
  have bel := bel0.below
  subst he
  exact ⟨_, rfl, _, _, _, [], _, [], hW', trodAll_mk1 (shut_bool Try.underlying4 _), (trodAll_cons_mk (Below.trod laidOut (by kernel_rfl) (of_decide_eq_true (by kernel_rfl)) k0 bel lt0) trodAll_mk0), rfl, bel.frame _, fun h => by cases h⟩

theorem over : Rows.fnHashNearestRow.holds Try.pinned (OpenSpec.ofChange Rows.fnHashNearestSpec) :=
  OpenClaim.holds_of_wide 7 Try.f7 rfl rfl rfl rfl rfl rfl rfl ⟨rfl, rfl, rfl, rfl, rfl⟩ rfl rfl rfl rfl rfl (by kernel_rfl) Try.func7 (by kernel_rfl)
    (of_decide_eq_true (by kernel_rfl)) (by unfold Func.isWrapper; first | (rw [if_pos (by decide +kernel)]; kernel_rfl) | (rw [if_neg (by decide +kernel)]; exact ⟨rfl, rfl⟩))
    (fun os started H enc _ => lifted os started H enc)

theorem proved : Rows.FnHashNearestSaid := over
#print axioms proved

end lawHashNearest
end Go.Proofs.Ytifdcdpdihfbjaa
