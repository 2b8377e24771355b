/- FnFilterNearest: filtered hits pass. No condition. -/
import Derived.Test.YtkglmhhihpofiaaLift
import Derived.Test.YtkglmhhihpofiaaDrawN
import Derived.Test.YtkglmhhihpofiaaNearK
import Derived.Test.YtkglmhhihpofiaaEqH
import Derived.Test.YtkglmhhihpofiaaHitsJ
import Derived.Test.YtkglmhhihpofiaaPFilt2
import Derived.Deep.RegionHeld3
import Derived.Deep.RegionWith
import Derived.Deep.DeepCutAuto
namespace Go.Proofs.Ytkglmhhihpofiaa
open Go.ChangeShapes Go.WideShapes Go.ChangeAt Go.RowKit Go.Shelf
set_option linter.unusedVariables false
set_option linter.unusedSimpArgs false
namespace lawFilterNearest
set_option maxRecDepth 100000 in
set_option maxHeartbeats 8000000 in
theorem walk (A : Option Addr) (n c : Nat) (w : World) (hC : Code w w.heap.size A n c) : Calls Try.prog 9 #[.slice A n c] w fun e w' => e = .returned (.bool true) ∧ Chg No w w' := by
  have hn1 := hC.1
  have hn2 := hC.2.1
  by_cases hbig : 1048576 < n
  · skip
    go_enter Try.func9, Try.ntmps9
    go_wp2
    go_ret
    exact ⟨rfl, Chg.refl _ _⟩
  · skip
    have hbig' : n ≤ 1048576 := by omega
    go_enter Try.func9, Try.ntmps9
    (go_wp2_with fail; (with_reducible refine (drawFilterNearest A n c _ hC).mono ?_); rintro e w0 ⟨v1, xs, fa, fb, fc, kind, AV, nv, cv, at_, k, rfl, ho1, hl1, hrv, hnv, hkd, hk9, hc0⟩)
    obtain ⟨A1, c1, rfl, hr1⟩ := OItems.read ho1
    have hm1 := hr1.cap; have hk1 := hr1.le; have hm2 := hrv.cap; have hk2 := hrv.le
    have HX0 := hid hr1; have HY0 := hid hrv
    have hkd0 := hkd.1; have hkd5 := hkd.2; have hk0 := hk9.1; have hk17 := hk9.2
    have s0 := hc0.size
    obtain ⟨w1, hw1⟩ : ∃ W, w0.alloc (.cells #[.int .i64 fa, .int .i64 fb, .int .i64 fc] 38) = W := ⟨_, rfl⟩
    have hcf : Chg No w0 w1 := by rw [← hw1]; exact (Chg.refl No w0).alloc _
    have hc1 : Chg No w w1 := hc0.no hcf
    have HX := hid (HX0.out.no hcf); have HY := hid (HY0.out.no hcf)
    have s1 := hc1.size
    have HB := hid (show Box w1 w0.heap.size [.int .i64 fa, .int .i64 fb, .int .i64 fc] from by rw [← hw1]; exact Box.new _ _ rfl)
    have b1 := HB.out.f3
    have HW1 := hid hw1
    clear ho1 hr1 hrv hkd hk9 HX0 HY0 hcf
    obtain ⟨L, hL⟩ : ∃ L, FnearF xs fa fb fc kind at_ k = L := ⟨_, rfl⟩
    have KS := hid (fun W (h : Chg No w1 W) => sFilterNearest _ _ _ _ _ xs fa fb fc _ _ _ _ _ at_ kind k W (HX.out.no h) (HY.out.no h))
    have KI := hid (fun W (h : Chg No w1 W) => iFilterNearest _ _ _ _ _ xs fa fb fc _ _ _ _ _ at_ kind k W (HX.out.no h) (HY.out.no h))
    rw [hL] at KS KI
    have HL := hid hL
    clear hL
    go_wp2_with fail
    ((with_reducible refine (KI.out _ (Chg.refl _ _)).mono ?_); rintro e w2 ⟨v2, rfl, ho2, hc2⟩)
    obtain ⟨A2, c2, rfl, hr2⟩ := OHits.read ho2
    have hp2 := hr2.cap; have hl2 := hr2.le
    have R2 := hid hr2
    have s2 := hc2.size
    clear ho2 hr2
    have b2 := (HB.out.no hc2).f3
    clear hw1
    (go_wp2_with fail; (with_reducible refine (KS.out _ hc2).mono ?_); rintro e w3 ⟨v3, rfl, ho3, hc3⟩)
    obtain ⟨A3, c3, rfl, hr3⟩ := OHits.read ho3
    have hp3 := hr3.cap; have hl3 := hr3.le
    have R3 := hid hr3
    have s3 := hc3.size
    clear ho3 hr3
    have q3 : Chg No w1 w3 := hc2.no hc3
    have b3 := (HB.out.no q3).f3
    (go_wp2_with fail; (with_reducible refine (equalHits _ _ _ _ _ _ _ _ _ L _ (R2.out.no hc3) R3.out).mono ?_); rintro e w4 ⟨rfl, hc4⟩)
    have q4 : Chg No w1 w4 := q3.no hc4
    have r4 : Chg No w2 w4 := hc3.no hc4
    have s4 := hc4.size
    have b4 := (HB.out.no q4).f3
    clear R3
    have HLS := hid (show L.length ≤ 1000 from by
      rw [← HL.out]; unfold FnearF
      split
      · rename_i h9
        rw [Bool.and_eq_true] at h9
        have h8 := storeB_len (canB_can h9.1).1.store
        have h7 := List.length_filter_le (fun x : It => passB fa fb fc x.tags) xs
        rw [nearestF_length]
        omega
      · simp)
    have hL1000 := HLS.out
    have HIN := hid (show ∀ y ∈ L, ∃ (q : Nat) (z : It), xs[q]? = some z ∧ y.1 = z.key ∧ PassB fa fb fc z.tags = true ∧ ∀ (j : Nat) (x : It), j < q → xs[j]? = some x → x.key ≠ z.key from fun y hy => by
      have hLpos : 0 < L.length := List.length_pos_of_mem hy
      have hcan : canB xs kind at_ k = true ∧ filterB fa fb fc = true := by
        cases h : canB xs kind at_ k with
        | false => have h9 := HL.out; rw [FnearF_no (by rw [h]; rfl)] at h9; rw [← h9] at hLpos; simp at hLpos
        | true =>
          cases h2 : filterB fa fb fc with
          | true => exact ⟨rfl, rfl⟩
          | false => have h9 := HL.out; rw [FnearF_no (by rw [h2]; simp)] at h9; rw [← h9] at hLpos; simp at hLpos
      obtain ⟨hCn, hkk1, hkk16⟩ := canB_can hcan.1
      have HLn := hid (show nearestF (xs.filter fun x => passB fa fb fc x.tags) kind at_ k = L from by rw [← FnearF_ok hcan.1 hcan.2]; exact HL.out)
      rw [← HLn.out] at hy
      unfold nearestF at hy
      obtain ⟨z, hz, rfl⟩ := hits_mem.1 ((insAll_perm _).mem_iff.1 (List.take_subset _ _ hy))
      have hz' := List.mem_filter.1 hz
      obtain ⟨q, hq⟩ := List.getElem?_of_mem hz'.1
      refine ⟨q, z, hq, rfl, ?_, fun j x hj hx => ?_⟩
      · rw [PassB_of hcan.2 (tags_of (storeB_mem hCn.store hz'.1))]; exact hz'.2
      · have := storeB_lt hCn.store hx hq hj
        omega)
    go_wp2
    go_loopw [9] (fun i wr => ∃ j : Nat, j ≤ L.length ∧ i = .int .i64 j ∧ Chg No w4 wr) (fun i _ => L.length - (intOf i).toNat)
    case atStart => exact ⟨0, Nat.zero_le _, rfl, Chg.refl _ _⟩
    case round =>
      obtain ⟨j, hj, rfl, hc⟩ := hrel
      obtain ⟨wo, rfl⟩ : ∃ W : World, W = wr := ⟨_, rfl⟩
      have qo := q4.no hc
      by_cases hlt : j < L.length
      · obtain ⟨b2, o2, y, rfl, _, _, hyk, hE⟩ := (R2.out.no (r4.no hc)).at_ hlt
        obtain ⟨q, z, hzq, hyz, hpass, hno⟩ := HIN.out y (List.mem_of_getElem? hyk)
        obtain ⟨y1, y2⟩ := y
        obtain rfl : y1 = z.key := hyz
        have hq1 := (List.getElem?_eq_some_iff.1 hzq).1
        obtain ⟨b, o, z', hA', _, _, hzk', hE'⟩ := (HX.out.no qo).at_ hq1
        subst hA'
        rw [hzq] at hzk'
        injection hzk' with hzk'
        subst hzk'
        obtain ⟨hE1, ⟨A9, n9, c9, hE2, hv⟩, hE3⟩ := hE'
        have HC9 := hid hE2
        have KIO := hid (fun W (h : Chg No wo W) => itemOf _ _ b o _ _ xs q z A9 n9 c9 W (HX.out.no (qo.no h)) hzq hno (cell_keep h HC9.out (fun e => e)))
        have KP := hid (fun W => iPasses fa fb fc z.tags W)
        rw [hpass] at KP
        have hBo := HB.out.no qo
        have g1 := hBo.f3
        have g4 : wo.cell? ⟨b2, o2 + j * 2, none⟩ = some (.int .i64 z.key) := hE.1
        have HBO := hid hBo
        have hfld : ∀ (a b c : Value) (W : World), Sem.run Try.prog (Instr.field 54 (.agg #[a, b, c]) 2) W = .ok c W := fun a b c W => by first | rfl | kernel_rfl
        clear hE hE1 hE2 hE3 hv hno hpass hBo hzq hyk
        go_wp2_with fail
        first | (go_region_with (first | (go_at_call 39; (with_reducible refine (KIO.out _ (by (repeat (first | (with_reducible exact Chg.refl _ _) | ((with_reducible refine Chg.setNew ?_ _ ?_); rotate_left; first | (dsimp only; omega) | (simp; done) | (simp; omega)) | (with_reducible refine Chg.alloc ?_ _) | (with_reducible refine Chg.drew ?_) | (with_reducible refine Chg.drewN ?_ _) | (with_reducible refine Chg.no ?_ (by assumption)) | (with_reducible refine Chg.and_ ?_ (by assumption)) | ((with_reducible refine Chg.at_ ?_ (by assumption) ?_); rotate_left; (try simp only [World.size_alloc]); omega))))).mono ?_); rintro e w5 ⟨rfl, hc5⟩; have hcA : Chg No wo w5 := (by (repeat (first | (with_reducible exact Chg.refl _ _) | ((with_reducible refine Chg.setNew ?_ _ ?_); rotate_left; first | (dsimp only; omega) | (simp; done) | (simp; omega)) | (with_reducible refine Chg.alloc ?_ _) | (with_reducible refine Chg.drew ?_) | (with_reducible refine Chg.drewN ?_ _) | (with_reducible refine Chg.no ?_ (by assumption)) | (with_reducible refine Chg.and_ ?_ (by assumption)) | ((with_reducible refine Chg.at_ ?_ (by assumption) ?_); rotate_left; (try simp only [World.size_alloc]); omega))) : Chg No wo w5); have h1 := (HBO.out.no hcA).f3; have h2 := cell_keep hcA g4 (fun e => e)) | (go_at_call 38; (with_reducible refine (KP.out _).mono ?_); rintro e w6 ⟨rfl, hc6⟩)))
        all_goals
          have q9 : Chg No w4 w6 := hc.no (hcA.no hc6)
          go_wp2
          go_roundw
          case rel => exact ⟨j + 1, by omega, by go_num, q9⟩
          case measure => simp [intOf]; omega
      · have ro := r4.no hc
        have KV := hid (fun W => iValidFilter fa fb fc W)
        have KT := hid (fun W (h : Chg No w1 W) => iValidStore _ _ _ _ _ xs W (HX.out.no h))
        have bo := (HB.out.no qo).f3
        clear KI KS HIN
        cases hf : filterB fa fb fc with
        | false =>
          rw [hf] at KV
          (go_wp2_with fail; (with_reducible refine (KV.out _).mono ?_); rintro e w5 ⟨rfl, hc5⟩)
          go_wp2
          go_ret
          exact ⟨rfl, hc1.no (qo.no hc5)⟩
        | true =>
          rw [hf] at KV
          (go_wp2_with fail; (with_reducible refine (KV.out _).mono ?_); rintro e w5 ⟨rfl, hc5⟩)
          have q5 := qo.no hc5
          cases hs : storeB xs with
          | false =>
            rw [hs] at KT
            (go_wp2_with fail; (with_reducible refine (KT.out _ q5).mono ?_); rintro e w6 ⟨rfl, hc6⟩)
            go_wp2
            go_ret
            exact ⟨rfl, hc1.no (q5.no hc6)⟩
          | true =>
            have hst := FnearF_store (kind := kind) (at_ := at_) (k := k) hs hf
            have KF := hid (fun W (h : Chg No w1 W) => iFilterStore _ _ _ _ _ xs fa fb fc W (HX.out.no h))
            rw [HL.out] at hst
            have hMl : (filtF xs fa fb fc).length ≤ 17 := by rw [filtF_ok hs hf]; exact Nat.le_trans (List.length_filter_le _ _) hl1
            generalize filtF xs fa fb fc = M at *
            have KN := hid (fun W l0 h0 A c (h : RItems W l0 h0 A M.length c M) (h2 : Chg No w1 W) => iNEAREST l0 h0 A M.length c M _ _ _ _ _ at_ kind k W h (HY.out.no h2))
            rw [hst] at KN
            rw [hs] at KT
            clear hst hs hf
            (go_wp2_with fail; (with_reducible refine (KT.out _ q5).mono ?_); rintro e w6 ⟨rfl, hc6⟩)
            have q6 := q5.no hc6
            have b6 := (HB.out.no q6).f3
            (go_wp2_with fail; (with_reducible refine (KF.out _ q6).mono ?_); rintro e w7 ⟨v7, rfl, ho7, hc7⟩)
            obtain ⟨A7, c7, rfl, hr7⟩ := OItems.read ho7
            have hp7 := hr7.cap; have hl7 := hr7.le
            have R7 := hid hr7
            have q7 := q6.no hc7
            clear ho7 hr7
            (go_wp2_with fail; (with_reducible refine (KN.out _ _ _ _ _ R7.out q7).mono ?_); rintro e w8 ⟨v8, rfl, ho8, hc8⟩)
            obtain ⟨A8, c8, rfl, hr8⟩ := OHits.read ho8
            have hp8 := hr8.cap; have hl8 := hr8.le
            have R8 := hid hr8
            have s8 := hc8.size
            clear ho8 hr8
            have q8 := q7.no hc8
            have r8 : Chg No w2 w8 := ((((ro.no hc5).no hc6).no hc7).no hc8)
            (go_wp2_with fail; (with_reducible refine (equalHits _ _ _ _ _ _ _ _ _ L _ R8.out (R2.out.no r8)).mono ?_); rintro e w9 ⟨rfl, hc9⟩)
            go_wp2
            go_ret
            exact ⟨rfl, hc1.no (q8.no hc9)⟩

set_option maxRecDepth 100000 in
theorem lifted (os : Os) (started : os.Started) (H : Type) (enc : TypeId × Value → H) :
    ReturnsInHanded {} Try.checked os 9 .any (Rows.fnFilterNearestSpec.pre6 enc Try.prog Try.f9 Rows.fnFilterNearestRow.domain false) (Rows.fnFilterNearestSpec.post enc Try.prog Try.f9 false true false false) := by
  refine returnsInHanded_of_change (C := Try.checked) own started (by kernel_rfl) Try.func9
    (ChangeSpec.witness6 (enc := enc) (C := Try.checked) false ⟨#[], #[.slice none 0 0], []⟩ 8 (by kernel_rfl) (by kernel_rfl) (by kernel_rfl) (by kernel_rfl)) ?_
  intro W base args ds gs before hval0 hW hcnd _
  have hval : ∀ (j : Nat) t v, Try.f9.params[j]? = some t → args[j]? = some v → Value.okWide Try.prog W .any base t v := hval0
  have hW' := hW
  obtain ⟨p, q, hA0, hV, rfl, hfz, hnd⟩ := hW
  have hA : DataW.TrodAll enc Try.prog W 0 (fun _ => true) true Try.f9.params.toList args.toList ds p := hA0
  rw [Try.params9] at hA hval
  obtain ⟨v0, vs0, d0, ds0, p0, q0, hargs, rfl, rfl, h0, r0⟩ := trodAll_cons hA
  obtain ⟨rfl, rfl, rfl⟩ := trodAll_nil r0
  obtain rfl : args = #[v0] := by cases args; simp_all
  obtain ⟨rfl, rfl⟩ := trodVars_none hV
  obtain ⟨a0, len0, cap0, rfl⟩ := okWide_slice Try.underlying22 (hval 0 22 v0 rfl rfl)
  have k0 := h0
  have lt0 : ∀ x ∈ p0, x.block < W.heap.size := by obtain ⟨m, hm⟩ := k0; exact DataW.trod_lt m _ _ _ hm
  have w0 : Code W W.heap.size a0 len0 cap0 := by
    obtain ⟨fuel, hf⟩ := h0
    rcases open_ints Try.underlying22 Try.underlying5 (by kernel_rfl) hf with ⟨hcs, _⟩ | ⟨x, l, c, zs, hcs, _, hl, hm, hz, _, hcell, hwz⟩
    · simp [Value.cells] at hcs
      obtain ⟨rfl, rfl, rfl⟩ := hcs
      exact code_nil _
    · simp [Value.cells] at hcs
      obtain ⟨rfl, rfl, rfl⟩ := hcs
      exact code_row hl hm (by simpa using hz) hcell hwz
  clear hA0 hval0
  refine (walk a0 len0 cap0 W w0).mono fun e W' ⟨he, bel0⟩ => ?_
  have bel := bel0.below
  subst he
  exact ⟨_, rfl, _, _, _, [], _, [], hW', trodAll_mk1 (shut_bool Try.underlying4 _), (trodAll_cons_mk (Below.trod laidOut (by kernel_rfl) (of_decide_eq_true (by kernel_rfl)) k0 bel lt0) trodAll_mk0), rfl, bel.frame _, fun h => by cases h⟩

theorem over : Rows.fnFilterNearestRow.holds Try.pinned (OpenSpec.ofChange Rows.fnFilterNearestSpec) :=
  OpenClaim.holds_of_wide 9 Try.f9 rfl rfl rfl rfl rfl rfl rfl ⟨rfl, rfl, rfl, rfl, rfl⟩ rfl rfl rfl rfl rfl (by kernel_rfl) Try.func9 (by kernel_rfl)
    (of_decide_eq_true (by kernel_rfl)) (by unfold Func.isWrapper; first | (rw [if_pos (by decide +kernel)]; kernel_rfl) | (rw [if_neg (by decide +kernel)]; exact ⟨rfl, rfl⟩))
    (fun os started H enc _ => lifted os started H enc)

theorem proved : Rows.FnFilterNearestSaid := over
#print axioms proved

end lawFilterNearest
end Go.Proofs.Ytkglmhhihpofiaa
