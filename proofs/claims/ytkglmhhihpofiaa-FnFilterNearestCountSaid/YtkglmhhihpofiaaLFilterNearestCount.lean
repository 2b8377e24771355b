/- FnFilterNearestCount: filters keep enough. No condition. -/
import Derived.Test.YtkglmhhihpofiaaLift
import Derived.Test.YtkglmhhihpofiaaDrawN
import Derived.Test.YtkglmhhihpofiaaNearK
import Derived.Test.YtkglmhhihpofiaaEqH
import Derived.Test.YtkglmhhihpofiaaHitsJ
import Derived.Deep.RegionHeld3
import Derived.Deep.RegionWith
import Derived.Deep.DeepCutAuto
namespace Go.Proofs.Ytkglmhhihpofiaa
open Go.ChangeShapes Go.WideShapes Go.ChangeAt Go.RowKit Go.Shelf
set_option linter.unusedVariables false
set_option linter.unusedSimpArgs false
namespace lawFilterNearestCount
set_option maxRecDepth 100000 in
set_option maxHeartbeats 4000000 in
theorem walk (A : Option Addr) (n c : Nat) (w : World) (hC : Code w w.heap.size A n c) : Calls Try.prog 10 #[.slice A n c] w fun e w' => e = .returned (.bool true) ∧ Chg No w w' := by
  have hn1 := hC.1
  have hn2 := hC.2.1
  by_cases hbig : 1048576 < n
  · skip
    go_enter Try.func10, Try.ntmps10
    go_wp2
    go_ret
    exact ⟨rfl, Chg.refl _ _⟩
  · skip
    have hbig' : n ≤ 1048576 := by omega
    go_enter Try.func10, Try.ntmps10
    (go_wp2_with fail; (with_reducible refine (drawFilterNearest A n c _ hC).mono ?_); rintro e w0 ⟨v1, xs, fa, fb, fc, kind, AV, nv, cv, at_, k, rfl, ho1, hl1, hrv, hnv, hkd, hk9, hc0⟩)
    obtain ⟨A1, c1, rfl, hr1⟩ := OItems.read ho1
    have hm1 := hr1.cap; have hk1 := hr1.le; have hm2 := hrv.cap; have hk2 := hrv.le
    have HX0 := hid hr1; have HY0 := hid hrv
    have hkd0 := hkd.1; have hkd5 := hkd.2; have hk0 := hk9.1; have hk17 := hk9.2
    have s0 := hc0.size
    obtain ⟨w1, hw1⟩ : ∃ W, w0.alloc (.cells #[.int .i64 fa, .int .i64 fb, .int .i64 fc] 38) = W := ⟨_, rfl⟩
    have hcf : Chg No w0 w1 := by rw [← hw1]; exact (Chg.refl No w0).alloc _
    have hc1 : Chg No w w1 := hc0.no hcf
    have HX := hid (HX0.out.no hcf); have HY := hid (HY0.out.no hcf)
    have s1 := hc1.size
    have HB := hid (show Box w1 w0.heap.size [.int .i64 fa, .int .i64 fb, .int .i64 fc] from by rw [← hw1]; exact Box.new _ _ rfl)
    have b1 := HB.out.f3
    have HW1 := hid hw1
    clear ho1 hr1 hrv hkd hk9 HX0 HY0 hcf
    obtain ⟨L, hL⟩ : ∃ L, FnearF xs fa fb fc kind at_ k = L := ⟨_, rfl⟩
    have KS := hid (fun W (h : Chg No w1 W) => sFilterNearest _ _ _ _ _ xs fa fb fc _ _ _ _ _ at_ kind k W (HX.out.no h) (HY.out.no h))
    have KI := hid (fun W (h : Chg No w1 W) => iFilterNearest _ _ _ _ _ xs fa fb fc _ _ _ _ _ at_ kind k W (HX.out.no h) (HY.out.no h))
    rw [hL] at KS KI
    have HL := hid hL
    clear hL
    go_wp2_with fail
    ((with_reducible refine (KI.out _ (Chg.refl _ _)).mono ?_); rintro e w2 ⟨v2, rfl, ho2, hc2⟩)
    obtain ⟨A2, c2, rfl, hr2⟩ := OHits.read ho2
    have hp2 := hr2.cap; have hl2 := hr2.le
    have R2 := hid hr2
    have s2 := hc2.size
    clear ho2 hr2
    have b2 := (HB.out.no hc2).f3
    clear hw1
    (go_wp2_with fail; (with_reducible refine (KS.out _ hc2).mono ?_); rintro e w3 ⟨v3, rfl, ho3, hc3⟩)
    obtain ⟨A3, c3, rfl, hr3⟩ := OHits.read ho3
    have hp3 := hr3.cap; have hl3 := hr3.le
    have R3 := hid hr3
    have s3 := hc3.size
    clear ho3 hr3
    have q3 : Chg No w1 w3 := hc2.no hc3
    have b3 := (HB.out.no q3).f3
    (go_wp2_with fail; (with_reducible refine (equalHits _ _ _ _ _ _ _ _ _ L _ (R2.out.no hc3) R3.out).mono ?_); rintro e w4 ⟨rfl, hc4⟩)
    have q4 : Chg No w1 w4 := q3.no hc4
    have r4 : Chg No w2 w4 := hc3.no hc4
    have s4 := hc4.size
    have b4 := (HB.out.no q4).f3
    clear R3
    by_cases hL0 : L.length = 0
    · have e0 : ((L.length : Int) == 0) = true := by simp; exact List.eq_nil_of_length_eq_zero hL0
      clear hL0
      (go_wp2_with fail; (with_reducible refine (KS.out _ q4).mono ?_); rintro e w8 ⟨v8, rfl, ho8, hc8⟩)
      obtain ⟨A8, c8, rfl, hr8⟩ := OHits.read ho8
      have hp8 := hr8.cap; have hl8 := hr8.le
      have R8 := hid hr8
      have s8 := hc8.size
      clear ho8 hr8
      (go_wp2_with fail; (with_reducible refine (equalHits _ _ _ _ _ _ _ _ _ L _ (R2.out.no (r4.no hc8)) R8.out).mono ?_); rintro e w9 ⟨rfl, hc9⟩)
      go_wp2
      go_ret
      exact ⟨rfl, hc1.no ((q4.no hc8).no hc9)⟩
    · have e0 : ((L.length : Int) == 0) = false := by simp; intro h; subst h; simp at hL0
      have hLpos : 0 < L.length := by omega
      have HE0 := hid e0
      clear hL0
      have hcan : canB xs kind at_ k = true ∧ filterB fa fb fc = true := by
        cases h : canB xs kind at_ k with
        | false => have h9 := HL.out; rw [FnearF_no (by rw [h]; rfl)] at h9; rw [← h9] at hLpos; simp at hLpos
        | true =>
          cases h2 : filterB fa fb fc with
          | true => exact ⟨rfl, rfl⟩
          | false => have h9 := HL.out; rw [FnearF_no (by rw [h2]; simp)] at h9; rw [← h9] at hLpos; simp at hLpos
      obtain ⟨hCn, hkk1, hkk16⟩ := canB_can hcan.1
      have HLn := hid (show nearestF (xs.filter fun x => passB fa fb fc x.tags) kind at_ k = L from by rw [← FnearF_ok hcan.1 hcan.2]; exact HL.out)
      have hok : hitsB L = true := by rw [← HLn.out]; exact (near_ok (hCn.sub List.filter_sublist).store hCn.vec).b
      have KF := hid (fun W (h : Chg No w1 W) => iFilterStore _ _ _ _ _ xs fa fb fc W (HX.out.no h))
      rw [filtF_ok hCn.store hcan.2] at KF
      have KV := hid (fun W (h : RHits W w1.heap.size w2.heap.size A2 L.length c2 L) => iVALIDHits _ _ _ _ _ L W h)
      rw [hok] at KV
      have hlen : L.length = min k.toNat (xs.filter fun x => passB fa fb fc x.tags).length := by rw [← HLn.out, nearestF_length]
      have hfl : (xs.filter fun x => passB fa fb fc x.tags).length ≤ 17 := Nat.le_trans (List.length_filter_le _ _) hl1
      generalize xs.filter (fun x => passB fa fb fc x.tags) = M at *
      have e1 : ((L.length : Int) == min k (M.length : Int)) = true := by simp only [beq_iff_eq]; omega
      have hL17 : L.length ≤ 17 := by omega
      clear hlen hok hcan hCn HLn KI KS HL
      (go_wp2_with fail; (with_reducible refine (KF.out _ q4).mono ?_); rintro e w5 ⟨v5, rfl, ho5, hc5⟩)
      obtain ⟨A5, c5, rfl, hr5⟩ := OItems.read ho5
      have hp5 := hr5.cap; have hl5 := hr5.le
      have q5 := q4.no hc5
      clear ho5 hr5
      (go_wp2_with fail; (with_reducible refine (KV.out _ (R2.out.no (r4.no hc5))).mono ?_); rintro e w6 ⟨rfl, hc6⟩)
      go_wp2
      go_ret
      exact ⟨rfl, hc1.no (q5.no hc6)⟩

set_option maxRecDepth 100000 in
theorem lifted (os : Os) (started : os.Started) (H : Type) (enc : TypeId × Value → H) :
    ReturnsInHanded {} Try.checked os 10 .any (Rows.fnFilterNearestCountSpec.pre6 enc Try.prog Try.f10 Rows.fnFilterNearestCountRow.domain false) (Rows.fnFilterNearestCountSpec.post enc Try.prog Try.f10 false true false false) := by
  refine returnsInHanded_of_change (C := Try.checked) own started (by kernel_rfl) Try.func10
    (ChangeSpec.witness6 (enc := enc) (C := Try.checked) false ⟨#[], #[.slice none 0 0], []⟩ 8 (by kernel_rfl) (by kernel_rfl) (by kernel_rfl) (by kernel_rfl)) ?_
  intro W base args ds gs before hval0 hW hcnd _
  have hval : ∀ (j : Nat) t v, Try.f10.params[j]? = some t → args[j]? = some v → Value.okWide Try.prog W .any base t v := hval0
  have hW' := hW
  obtain ⟨p, q, hA0, hV, rfl, hfz, hnd⟩ := hW
  have hA : DataW.TrodAll enc Try.prog W 0 (fun _ => true) true Try.f10.params.toList args.toList ds p := hA0
  rw [Try.params10] at hA hval
  obtain ⟨v0, vs0, d0, ds0, p0, q0, hargs, rfl, rfl, h0, r0⟩ := trodAll_cons hA
  obtain ⟨rfl, rfl, rfl⟩ := trodAll_nil r0
  obtain rfl : args = #[v0] := by cases args; simp_all
  obtain ⟨rfl, rfl⟩ := trodVars_none hV
  obtain ⟨a0, len0, cap0, rfl⟩ := okWide_slice Try.underlying22 (hval 0 22 v0 rfl rfl)
  have k0 := h0
  have lt0 : ∀ x ∈ p0, x.block < W.heap.size := by obtain ⟨m, hm⟩ := k0; exact DataW.trod_lt m _ _ _ hm
  have w0 : Code W W.heap.size a0 len0 cap0 := by
    obtain ⟨fuel, hf⟩ := h0
    rcases open_ints Try.underlying22 Try.underlying5 (by kernel_rfl) hf with ⟨hcs, _⟩ | ⟨x, l, c, zs, hcs, _, hl, hm, hz, _, hcell, hwz⟩
    · simp [Value.cells] at hcs
      obtain ⟨rfl, rfl, rfl⟩ := hcs
      exact code_nil _
    · simp [Value.cells] at hcs
      obtain ⟨rfl, rfl, rfl⟩ := hcs
      exact code_row hl hm (by simpa using hz) hcell hwz
  clear hA0 hval0
  refine (walk a0 len0 cap0 W w0).mono fun e W' ⟨he, bel0⟩ => ?_
  have bel := bel0.below
  subst he
  exact ⟨_, rfl, _, _, _, [], _, [], hW', trodAll_mk1 (shut_bool Try.underlying4 _), (trodAll_cons_mk (Below.trod laidOut (by kernel_rfl) (of_decide_eq_true (by kernel_rfl)) k0 bel lt0) trodAll_mk0), rfl, bel.frame _, fun h => by cases h⟩

theorem over : Rows.fnFilterNearestCountRow.holds Try.pinned (OpenSpec.ofChange Rows.fnFilterNearestCountSpec) :=
  OpenClaim.holds_of_wide 10 Try.f10 rfl rfl rfl rfl rfl rfl rfl ⟨rfl, rfl, rfl, rfl, rfl⟩ rfl rfl rfl rfl rfl (by kernel_rfl) Try.func10 (by kernel_rfl)
    (of_decide_eq_true (by kernel_rfl)) (by unfold Func.isWrapper; first | (rw [if_pos (by decide +kernel)]; kernel_rfl) | (rw [if_neg (by decide +kernel)]; exact ⟨rfl, rfl⟩))
    (fun os started H enc _ => lifted os started H enc)

theorem proved : Rows.FnFilterNearestCountSaid := over
#print axioms proved

end lawFilterNearestCount
end Go.Proofs.Ytkglmhhihpofiaa
