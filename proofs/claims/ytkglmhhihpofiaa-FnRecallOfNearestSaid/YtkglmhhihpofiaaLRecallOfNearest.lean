/- FnRecallOfNearest: fewer wanted are found. No condition. -/
import Derived.Test.YtkglmhhihpofiaaLift
import Derived.Test.YtkglmhhihpofiaaDrawN
import Derived.Test.YtkglmhhihpofiaaNearK
import Derived.Test.YtkglmhhihpofiaaEqH
import Derived.Test.YtkglmhhihpofiaaHitsJ
import Derived.Deep.RegionHeld3
import Derived.Deep.RegionWith
import Derived.Deep.DeepCutAuto
namespace Go.Proofs.Ytkglmhhihpofiaa
open Go.ChangeShapes Go.WideShapes Go.ChangeAt Go.RowKit Go.Shelf
set_option linter.unusedVariables false
set_option linter.unusedSimpArgs false
namespace lawRecallOfNearest
set_option maxRecDepth 100000 in
set_option maxHeartbeats 4000000 in
theorem walk (A : Option Addr) (n c : Nat) (w : World) (hC : Code w w.heap.size A n c) : Calls Try.prog 3 #[.slice A n c] w fun e w' => e = .returned (.bool true) ∧ Chg No w w' := by
  have hn1 := hC.1
  have hn2 := hC.2.1
  by_cases hbig : 1048576 < n
  · skip
    go_enter Try.func3, Try.ntmps3
    go_wp2
    go_ret
    exact ⟨rfl, Chg.refl _ _⟩
  · skip
    have hbig' : n ≤ 1048576 := by omega
    go_enter Try.func3, Try.ntmps3
    (go_wp2_with fail; (with_reducible refine (drawNearest A n c _ hC).mono ?_); rintro e w1 ⟨v1, xs, kind, AV, nv, cv, at_, k, rfl, ho1, hl1, hrv, hnv, hkd, hk9, hc1⟩)
    obtain ⟨A1, c1, rfl, hr1⟩ := OItems.read ho1
    have hm1 := hr1.cap; have hk1 := hr1.le; have hm2 := hrv.cap; have hk2 := hrv.le
    have HX := hid hr1; have HY := hid hrv
    have hkd0 := hkd.1; have hkd5 := hkd.2; have hk0 := hk9.1; have hk17 := hk9.2
    have s1 := hc1.size
    clear ho1 hr1 hrv hkd hk9
    obtain ⟨L, hL⟩ : ∃ L, NearestF xs kind at_ k = L := ⟨_, rfl⟩
    have KS := hid (fun W (h : Chg No w1 W) => sNEAREST _ _ _ _ _ xs _ _ _ _ _ at_ kind k W (HX.out.no h) (HY.out.no h))
    have KI := hid (fun W (h : Chg No w1 W) => iNEAREST _ _ _ _ _ xs _ _ _ _ _ at_ kind k W (HX.out.no h) (HY.out.no h))
    rw [hL] at KS KI
    have HL := hid hL
    clear hL
    (go_wp2_with fail; (with_reducible refine (KI.out _ (Chg.refl _ _)).mono ?_); rintro e w2 ⟨v2, rfl, ho2, hc2⟩)
    obtain ⟨A2, c2, rfl, hr2⟩ := OHits.read ho2
    have hp2 := hr2.cap; have hl2 := hr2.le
    have R2 := hid hr2
    have s2 := hc2.size
    clear ho2 hr2
    (go_wp2_with fail; (with_reducible refine (KS.out _ hc2).mono ?_); rintro e w3 ⟨v3, rfl, ho3, hc3⟩)
    obtain ⟨A3, c3, rfl, hr3⟩ := OHits.read ho3
    have hp3 := hr3.cap; have hl3 := hr3.le
    have R3 := hid hr3
    have s3 := hc3.size
    clear ho3 hr3
    have q3 : Chg No w1 w3 := hc2.no hc3
    (go_wp2_with fail; (with_reducible refine (equalHits _ _ _ _ _ _ _ _ _ L _ (R2.out.no hc3) R3.out).mono ?_); rintro e w4 ⟨rfl, hc4⟩)
    have q4 : Chg No w1 w4 := q3.no hc4
    have r4 : Chg No w2 w4 := hc3.no hc4
    have s4 := hc4.size
    clear R3
    by_cases hL0 : L.length = 0
    · have e0 : ((L.length : Int) == 0) = true := by simp; exact List.eq_nil_of_length_eq_zero hL0
      clear hL0
      (go_wp2_with fail; (with_reducible refine (KS.out _ q4).mono ?_); rintro e w8 ⟨v8, rfl, ho8, hc8⟩)
      obtain ⟨A8, c8, rfl, hr8⟩ := OHits.read ho8
      have hp8 := hr8.cap; have hl8 := hr8.le
      have R8 := hid hr8
      have s8 := hc8.size
      clear ho8 hr8
      (go_wp2_with fail; (with_reducible refine (equalHits _ _ _ _ _ _ _ _ _ L _ (R2.out.no (r4.no hc8)) R8.out).mono ?_); rintro e w9 ⟨rfl, hc9⟩)
      go_wp2
      go_ret
      exact ⟨rfl, hc1.no ((q4.no hc8).no hc9)⟩
    · have e0 : ((L.length : Int) == 0) = false := by simp; intro h; subst h; simp at hL0
      have hLpos : 0 < L.length := by omega
      have HE0 := hid e0
      clear hL0
      have hcan : canB xs kind at_ k = true := by
        cases h : canB xs kind at_ k with
        | true => rfl
        | false => have h9 := HL.out; rw [NearestF_no h] at h9; rw [← h9] at hLpos; simp at hLpos
      obtain ⟨hCn, hkk1, hkk16⟩ := canB_can hcan
      have HLn := hid (show nearestF xs kind at_ k = L from by rw [← NearestF_ok hcan]; exact HL.out)
      have HCN := hid hCn
      have hok : HitsOk L := by rw [← HLn.out]; exact near_ok hCn.store hCn.vec
      have hone : NearestF xs kind at_ 1 = L.take 1 := by rw [NearestF_ok (hCn.can (by omega) (by omega)), near_one xs hkk1, HLn.out]
      have hL16 : L.length ≤ 16 := hok.len
      have v1 : recF L (L.take 1) = 1000 / (L.length : Int) := rec_first hok hLpos
      have v2 : recF (L.take 1) L = 1000 := rec_last hok hLpos
      have KO := hid (fun W (h : Chg No w1 W) => iNEAREST _ _ _ _ _ xs _ _ _ _ _ at_ kind 1 W (HX.out.no h) (HY.out.no h))
      rw [hone] at KO
      generalize L.take 1 = M at *
      (go_wp2_with fail; (with_reducible refine (KO.out _ q4).mono ?_); rintro e w5 ⟨v5, rfl, ho5, hc5⟩)
      obtain ⟨A5, c5, rfl, hr5⟩ := OHits.read ho5
      have hp5 := hr5.cap; have hl5 := hr5.le
      have R5 := hid hr5
      have s5 := hc5.size
      clear ho5 hr5
      have q5 := q4.no hc5
      have K1 := hid (fun W (hc : Chg No w5 W) => iRecallOf _ _ _ _ _ _ _ _ _ _ L M W (R2.out.no ((r4.no hc5).no hc)) (R5.out.no hc))
      have K2 := hid (fun W (hc : Chg No w5 W) => iRecallOf _ _ _ _ _ _ _ _ _ _ M L W (R5.out.no hc) (R2.out.no ((r4.no hc5).no hc)))
      rw [v1] at K1
      rw [v2] at K2
      have e1 : (((1000 : Int) / (L.length : Int)) == ((1000 : Int) / (L.length : Int))) = true := by simp
      have e2 : (L.length : Int) ≠ 0 := by omega
      have d0 : 0 ≤ (1000 : Int) / (L.length : Int) := Int.ediv_nonneg (by omega) (by omega)
      have d1 : (1000 : Int) / (L.length : Int) ≤ 1000 := Int.ediv_le_self _ (by omega)
      clear hok hone v1 v2 KO hcan hCn HLn KI KS HL
      go_wp2_with fail
      (refine wp_region_nb (by kernel_rfl) (by kernel_rfl) ?_; (repeat (first | go_big_quiet_step ((first | (go_at_call 15; (with_reducible exact nb_of (K1.out _ (NB.h _)))) | (go_at_call 15; (with_reducible exact nb_of (K2.out _ (NB.h _)))))) | quiet_step ((first | (go_at_call 15; (with_reducible exact nb_of (K1.out _ (NB.h _)))) | (go_at_call 15; (with_reducible exact nb_of (K2.out _ (NB.h _)))))))); (with_reducible refine wpQuiet_nil ?_); intro wq hw1; have hq := nb_out hw1; clear hw1)
      go_wp2
      go_ret
      exact ⟨rfl, hc1.no (q5.no hq)⟩

set_option maxRecDepth 100000 in
theorem lifted (os : Os) (started : os.Started) (H : Type) (enc : TypeId × Value → H) :
    ReturnsInHanded {} Try.checked os 3 .any (Rows.fnRecallOfNearestSpec.pre6 enc Try.prog Try.f3 Rows.fnRecallOfNearestRow.domain false) (Rows.fnRecallOfNearestSpec.post enc Try.prog Try.f3 false true false false) := by
  refine returnsInHanded_of_change (C := Try.checked) own started (by kernel_rfl) Try.func3
    (ChangeSpec.witness6 (enc := enc) (C := Try.checked) false ⟨#[], #[.slice none 0 0], []⟩ 8 (by kernel_rfl) (by kernel_rfl) (by kernel_rfl) (by kernel_rfl)) ?_
  intro W base args ds gs before hval0 hW hcnd _
  have hval : ∀ (j : Nat) t v, Try.f3.params[j]? = some t → args[j]? = some v → Value.okWide Try.prog W .any base t v := hval0
  have hW' := hW
  obtain ⟨p, q, hA0, hV, rfl, hfz, hnd⟩ := hW
  have hA : DataW.TrodAll enc Try.prog W 0 (fun _ => true) true Try.f3.params.toList args.toList ds p := hA0
  rw [Try.params3] at hA hval
  obtain ⟨v0, vs0, d0, ds0, p0, q0, hargs, rfl, rfl, h0, r0⟩ := trodAll_cons hA
  obtain ⟨rfl, rfl, rfl⟩ := trodAll_nil r0
  obtain rfl : args = #[v0] := by cases args; simp_all
  obtain ⟨rfl, rfl⟩ := trodVars_none hV
  obtain ⟨a0, len0, cap0, rfl⟩ := okWide_slice Try.underlying22 (hval 0 22 v0 rfl rfl)
  have k0 := h0
  have lt0 : ∀ x ∈ p0, x.block < W.heap.size := by obtain ⟨m, hm⟩ := k0; exact DataW.trod_lt m _ _ _ hm
  have w0 : Code W W.heap.size a0 len0 cap0 := by
    obtain ⟨fuel, hf⟩ := h0
    rcases open_ints Try.underlying22 Try.underlying5 (by kernel_rfl) hf with ⟨hcs, _⟩ | ⟨x, l, c, zs, hcs, _, hl, hm, hz, _, hcell, hwz⟩
    · simp [Value.cells] at hcs
      obtain ⟨rfl, rfl, rfl⟩ := hcs
      exact code_nil _
    · simp [Value.cells] at hcs
      obtain ⟨rfl, rfl, rfl⟩ := hcs
      exact code_row hl hm (by simpa using hz) hcell hwz
  clear hA0 hval0
  refine (walk a0 len0 cap0 W w0).mono fun e W' ⟨he, bel0⟩ => ?_
  have bel := bel0.below
  subst he
  exact ⟨_, rfl, _, _, _, [], _, [], hW', trodAll_mk1 (shut_bool Try.underlying4 _), (trodAll_cons_mk (Below.trod laidOut (by kernel_rfl) (of_decide_eq_true (by kernel_rfl)) k0 bel lt0) trodAll_mk0), rfl, bel.frame _, fun h => by cases h⟩

theorem over : Rows.fnRecallOfNearestRow.holds Try.pinned (OpenSpec.ofChange Rows.fnRecallOfNearestSpec) :=
  OpenClaim.holds_of_wide 3 Try.f3 rfl rfl rfl rfl rfl rfl rfl ⟨rfl, rfl, rfl, rfl, rfl⟩ rfl rfl rfl rfl rfl (by kernel_rfl) Try.func3 (by kernel_rfl)
    (of_decide_eq_true (by kernel_rfl)) (by unfold Func.isWrapper; first | (rw [if_pos (by decide +kernel)]; kernel_rfl) | (rw [if_neg (by decide +kernel)]; exact ⟨rfl, rfl⟩))
    (fun os started H enc _ => lifted os started H enc)

theorem proved : Rows.FnRecallOfNearestSaid := over
#print axioms proved

end lawRecallOfNearest
end Go.Proofs.Ytkglmhhihpofiaa
