/- FnMergeHitsStores: hits of parts are hits of the whole. No condition. -/
import Derived.Test.YtkglmhhihpofiaaLift
import Derived.Test.YtkglmhhihpofiaaDrawN
import Derived.Test.YtkglmhhihpofiaaNearK
import Derived.Test.YtkglmhhihpofiaaEqH
import Derived.Test.YtkglmhhihpofiaaMerge
import Derived.Deep.RegionHeld3
import Derived.Deep.RegionWith
import Derived.Deep.DeepCutAuto
namespace Go.Proofs.Ytkglmhhihpofiaa
open Go.ChangeShapes Go.WideShapes Go.ChangeAt Go.RowKit Go.Shelf
set_option linter.unusedVariables false
set_option linter.unusedSimpArgs false
namespace lawMergeHitsStores
set_option maxRecDepth 100000 in
set_option maxHeartbeats 4000000 in
theorem walk (A : Option Addr) (n c : Nat) (w : World) (hC : Code w w.heap.size A n c) : Calls Try.prog 5 #[.slice A n c] w fun e w' => e = .returned (.bool true) ∧ Chg No w w' := by
  have hn1 := hC.1
  have hn2 := hC.2.1
  by_cases hbig : 1048576 < n
  · skip
    go_enter Try.func5, Try.ntmps5
    go_wp2
    go_ret
    exact ⟨rfl, Chg.refl _ _⟩
  · skip
    have hbig' : n ≤ 1048576 := by omega
    go_enter Try.func5, Try.ntmps5
    (go_wp2_with fail; (with_reducible refine (drawNearest A n c _ hC).mono ?_); rintro e w1 ⟨v1, xs, kind, AV, nv, cv, at_, k, rfl, ho1, hl1, hrv, hnv, hkd, hk9, hc1⟩)
    obtain ⟨A1, c1, rfl, hr1⟩ := OItems.read ho1
    have hm1 := hr1.cap; have hk1 := hr1.le; have hm2 := hrv.cap; have hk2 := hrv.le
    have HX := hid hr1; have HY := hid hrv
    have hkd0 := hkd.1; have hkd5 := hkd.2; have hk0 := hk9.1; have hk17 := hk9.2
    have s1 := hc1.size
    clear ho1 hr1 hrv hkd hk9
    obtain ⟨L, hL⟩ : ∃ L, NearestF xs kind at_ k = L := ⟨_, rfl⟩
    have KS := hid (fun W (h : Chg No w1 W) => sNEAREST _ _ _ _ _ xs _ _ _ _ _ at_ kind k W (HX.out.no h) (HY.out.no h))
    have KI := hid (fun W (h : Chg No w1 W) => iNEAREST _ _ _ _ _ xs _ _ _ _ _ at_ kind k W (HX.out.no h) (HY.out.no h))
    rw [hL] at KS KI
    have HL := hid hL
    clear hL
    (go_wp2_with fail; (with_reducible refine (KI.out _ (Chg.refl _ _)).mono ?_); rintro e w2 ⟨v2, rfl, ho2, hc2⟩)
    obtain ⟨A2, c2, rfl, hr2⟩ := OHits.read ho2
    have hp2 := hr2.cap; have hl2 := hr2.le
    have R2 := hid hr2
    have s2 := hc2.size
    clear ho2 hr2
    (go_wp2_with fail; (with_reducible refine (KS.out _ hc2).mono ?_); rintro e w3 ⟨v3, rfl, ho3, hc3⟩)
    obtain ⟨A3, c3, rfl, hr3⟩ := OHits.read ho3
    have hp3 := hr3.cap; have hl3 := hr3.le
    have R3 := hid hr3
    have s3 := hc3.size
    clear ho3 hr3
    have q3 : Chg No w1 w3 := hc2.no hc3
    (go_wp2_with fail; (with_reducible refine (equalHits _ _ _ _ _ _ _ _ _ L _ (R2.out.no hc3) R3.out).mono ?_); rintro e w4 ⟨rfl, hc4⟩)
    have q4 : Chg No w1 w4 := q3.no hc4
    have r4 : Chg No w2 w4 := hc3.no hc4
    have s4 := hc4.size
    clear R3
    by_cases hL0 : L.length = 0
    · have e0 : ((L.length : Int) == 0) = true := by simp; exact List.eq_nil_of_length_eq_zero hL0
      clear hL0
      (go_wp2_with fail; (with_reducible refine (KS.out _ q4).mono ?_); rintro e w8 ⟨v8, rfl, ho8, hc8⟩)
      obtain ⟨A8, c8, rfl, hr8⟩ := OHits.read ho8
      have hp8 := hr8.cap; have hl8 := hr8.le
      have R8 := hid hr8
      have s8 := hc8.size
      clear ho8 hr8
      (go_wp2_with fail; (with_reducible refine (equalHits _ _ _ _ _ _ _ _ _ L _ (R2.out.no (r4.no hc8)) R8.out).mono ?_); rintro e w9 ⟨rfl, hc9⟩)
      go_wp2
      go_ret
      exact ⟨rfl, hc1.no ((q4.no hc8).no hc9)⟩
    · have e0 : ((L.length : Int) == 0) = false := by simp; intro h; subst h; simp at hL0
      have hLpos : 0 < L.length := by omega
      have HE0 := hid e0
      clear hL0
      have hcan : canB xs kind at_ k = true := by
        cases h : canB xs kind at_ k with
        | true => rfl
        | false => have h9 := HL.out; rw [NearestF_no h] at h9; rw [← h9] at hLpos; simp at hLpos
      obtain ⟨hCn, hkk1, hkk16⟩ := canB_can hcan
      have HLn := hid (show nearestF xs kind at_ k = L from by rw [← NearestF_ok hcan]; exact HL.out)
      have HCN := hid hCn
      have hxpos : 0 < xs.length := by
        have h9 := congrArg List.length HLn.out
        rw [nearestF_length] at h9
        omega
      obtain ⟨h, hh⟩ : ∃ h : Nat, h = xs.length / 2 := ⟨_, rfl⟩
      have hh1 : (xs.length : Int) / 2 = h := by omega
      have hlt : h < xs.length := by omega
      have hne : ¬ c1 = h := by omega
      have hC1 := hCn.sub (List.take_sublist h xs)
      have hC2 := hCn.sub (List.drop_sublist h xs)
      have ok1 : HitsOk (nearestF (xs.take h) kind at_ k) := near_ok hC1.store hC1.vec
      have ok2 : HitsOk (nearestF (xs.drop h) kind at_ k) := near_ok hC2.store hC2.vec
      have hM : MergeF (nearestF (xs.take h) kind at_ k) (nearestF (xs.drop h) kind at_ k) k = L := by
        rw [MergeF_ok (by unfold mergeOk; rw [ok1.b, ok2.b, decide_eq_true ⟨hkk1, hkk16⟩]; rfl), near_parts hCn.store hCn.vec, HLn.out]
      have hN1 : NearestF (xs.take h) kind at_ k = nearestF (xs.take h) kind at_ k := NearestF_ok (hC1.can hkk1 hkk16)
      have hN2 : NearestF (xs.drop h) kind at_ k = nearestF (xs.drop h) kind at_ k := NearestF_ok (hC2.can hkk1 hkk16)
      obtain ⟨gg, oo, hA1, _, _, _⟩ := HX.out.2.2.2 hxpos
      subst hA1
      have HT := hid (RSl.take HX.out (k := h) (by omega))
      have HD := RSl.drop HX.out (k := h) (by omega)
      rw [if_neg hne] at HD
      simp only [Option.map_some, Addr.add_lit] at HD
      have HD := hid HD
      have KA := hid (fun W (hc : Chg No w1 W) => iNEAREST _ _ _ _ _ (xs.take h) _ _ _ _ _ at_ kind k W (RItems.no HT.out hc) (HY.out.no hc))
      have KB := hid (fun W (hc : Chg No w1 W) => iNEAREST _ _ _ _ _ (xs.drop h) _ _ _ _ _ at_ kind k W (RItems.no HD.out hc) (HY.out.no hc))
      rw [hN1] at KA
      rw [hN2] at KB
      have hl16a := ok1.len
      have hl16b := ok2.len
      generalize nearestF (xs.take h) kind at_ k = M1 at *
      generalize nearestF (xs.drop h) kind at_ k = M2 at *
      have KM := hid (fun W l0 h0 A l1 h1 B c d (h1' : RHits W l0 h0 A M1.length c M1) (h2' : RHits W l1 h1 B M2.length d M2) => iMergeHits l0 h0 l1 h1 A B M1.length c M2.length d M1 M2 k W h1' h2')
      rw [hM] at KM
      clear hM hN1 hN2 hC1 hC2 ok1 ok2 hh hcan hCn HLn KI KS HL
      go_wp2_with fail
      have R4 := hid (R2.out.no r4)
      first | (go_region_with (first | (go_at_call 12; (with_reducible refine (KA.out _ (q4.no (by (repeat (first | (with_reducible exact Chg.refl _ _) | ((with_reducible refine Chg.setNew ?_ _ ?_); rotate_left; first | (dsimp only; omega) | (simp; done) | (simp; omega)) | (with_reducible refine Chg.alloc ?_ _) | (with_reducible refine Chg.drew ?_) | (with_reducible refine Chg.drewN ?_ _) | (with_reducible refine Chg.no ?_ (by assumption)) | (with_reducible refine Chg.and_ ?_ (by assumption)) | ((with_reducible refine Chg.at_ ?_ (by assumption) ?_); rotate_left; (try simp only [World.size_alloc]); omega)))))).mono ?_); rintro e w5 ⟨v5, rfl, ho5, hc5⟩; obtain ⟨A5, c5, rfl, hr5⟩ := OHits.read ho5; have hp5 := hr5.cap; have hl5 := hr5.le; have R5 := hid hr5; clear ho5 hr5) | (go_at_call 12; (with_reducible refine (KB.out _ (q4.no (by (repeat (first | (with_reducible exact Chg.refl _ _) | ((with_reducible refine Chg.setNew ?_ _ ?_); rotate_left; first | (dsimp only; omega) | (simp; done) | (simp; omega)) | (with_reducible refine Chg.alloc ?_ _) | (with_reducible refine Chg.drew ?_) | (with_reducible refine Chg.drewN ?_ _) | (with_reducible refine Chg.no ?_ (by assumption)) | (with_reducible refine Chg.and_ ?_ (by assumption)) | ((with_reducible refine Chg.at_ ?_ (by assumption) ?_); rotate_left; (try simp only [World.size_alloc]); omega)))))).mono ?_); rintro e w6 ⟨v6, rfl, ho6, hc6⟩; obtain ⟨A6, c6, rfl, hr6⟩ := OHits.read ho6; have hp6 := hr6.cap; have hl6 := hr6.le; have R6 := hid hr6; clear ho6 hr6) | (go_at_call 29; (with_reducible refine (KM.out _ _ _ _ _ _ _ _ _ (R5.out.no (by (repeat (first | (with_reducible exact Chg.refl _ _) | ((with_reducible refine Chg.setNew ?_ _ ?_); rotate_left; first | (dsimp only; omega) | (simp; done) | (simp; omega)) | (with_reducible refine Chg.alloc ?_ _) | (with_reducible refine Chg.drew ?_) | (with_reducible refine Chg.drewN ?_ _) | (with_reducible refine Chg.no ?_ (by assumption)) | (with_reducible refine Chg.and_ ?_ (by assumption)) | ((with_reducible refine Chg.at_ ?_ (by assumption) ?_); rotate_left; (try simp only [World.size_alloc]); omega))))) (R6.out.no (by (repeat (first | (with_reducible exact Chg.refl _ _) | ((with_reducible refine Chg.setNew ?_ _ ?_); rotate_left; first | (dsimp only; omega) | (simp; done) | (simp; omega)) | (with_reducible refine Chg.alloc ?_ _) | (with_reducible refine Chg.drew ?_) | (with_reducible refine Chg.drewN ?_ _) | (with_reducible refine Chg.no ?_ (by assumption)) | (with_reducible refine Chg.and_ ?_ (by assumption)) | ((with_reducible refine Chg.at_ ?_ (by assumption) ?_); rotate_left; (try simp only [World.size_alloc]); omega)))))).mono ?_); rintro e w7 ⟨v7, rfl, ho7, hc7⟩; obtain ⟨A7, c7, rfl, hr7⟩ := OHits.read ho7; have hp7 := hr7.cap; have hl7 := hr7.le; have R7 := hid hr7; clear ho7 hr7) | (go_at_call 13; (with_reducible refine (equalHits _ _ _ _ _ _ _ _ _ L _ (R7.out.no (by (repeat (first | (with_reducible exact Chg.refl _ _) | ((with_reducible refine Chg.setNew ?_ _ ?_); rotate_left; first | (dsimp only; omega) | (simp; done) | (simp; omega)) | (with_reducible refine Chg.alloc ?_ _) | (with_reducible refine Chg.drew ?_) | (with_reducible refine Chg.drewN ?_ _) | (with_reducible refine Chg.no ?_ (by assumption)) | (with_reducible refine Chg.and_ ?_ (by assumption)) | ((with_reducible refine Chg.at_ ?_ (by assumption) ?_); rotate_left; (try simp only [World.size_alloc]); omega))))) (R4.out.no (by (repeat (first | (with_reducible exact Chg.refl _ _) | ((with_reducible refine Chg.setNew ?_ _ ?_); rotate_left; first | (dsimp only; omega) | (simp; done) | (simp; omega)) | (with_reducible refine Chg.alloc ?_ _) | (with_reducible refine Chg.drew ?_) | (with_reducible refine Chg.drewN ?_ _) | (with_reducible refine Chg.no ?_ (by assumption)) | (with_reducible refine Chg.and_ ?_ (by assumption)) | ((with_reducible refine Chg.at_ ?_ (by assumption) ?_); rotate_left; (try simp only [World.size_alloc]); omega)))))).mono ?_); rintro e w10 ⟨rfl, hc10⟩))) | fail
      all_goals
        have q9 : Chg No w4 w10 := by (repeat (first | (with_reducible exact Chg.refl _ _) | ((with_reducible refine Chg.setNew ?_ _ ?_); rotate_left; first | (dsimp only; omega) | (simp; done) | (simp; omega)) | (with_reducible refine Chg.alloc ?_ _) | (with_reducible refine Chg.drew ?_) | (with_reducible refine Chg.drewN ?_ _) | (with_reducible refine Chg.no ?_ (by assumption)) | (with_reducible refine Chg.and_ ?_ (by assumption)) | ((with_reducible refine Chg.at_ ?_ (by assumption) ?_); rotate_left; (try simp only [World.size_alloc]); omega)))
        go_wp2
        go_ret
        exact ⟨rfl, hc1.no (q4.no q9)⟩

set_option maxRecDepth 100000 in
theorem lifted (os : Os) (started : os.Started) (H : Type) (enc : TypeId × Value → H) :
    ReturnsInHanded {} Try.checked os 5 .any (Rows.fnMergeHitsStoresSpec.pre6 enc Try.prog Try.f5 Rows.fnMergeHitsStoresRow.domain false) (Rows.fnMergeHitsStoresSpec.post enc Try.prog Try.f5 false true false false) := by
  refine returnsInHanded_of_change (C := Try.checked) own started (by kernel_rfl) Try.func5
    (ChangeSpec.witness6 (enc := enc) (C := Try.checked) false ⟨#[], #[.slice none 0 0], []⟩ 8 (by kernel_rfl) (by kernel_rfl) (by kernel_rfl) (by kernel_rfl)) ?_
  intro W base args ds gs before hval0 hW hcnd _
  have hval : ∀ (j : Nat) t v, Try.f5.params[j]? = some t → args[j]? = some v → Value.okWide Try.prog W .any base t v := hval0
  have hW' := hW
  obtain ⟨p, q, hA0, hV, rfl, hfz, hnd⟩ := hW
  have hA : DataW.TrodAll enc Try.prog W 0 (fun _ => true) true Try.f5.params.toList args.toList ds p := hA0
  rw [Try.params5] at hA hval
  obtain ⟨v0, vs0, d0, ds0, p0, q0, hargs, rfl, rfl, h0, r0⟩ := trodAll_cons hA
  obtain ⟨rfl, rfl, rfl⟩ := trodAll_nil r0
  obtain rfl : args = #[v0] := by cases args; simp_all
  obtain ⟨rfl, rfl⟩ := trodVars_none hV
  obtain ⟨a0, len0, cap0, rfl⟩ := okWide_slice Try.underlying22 (hval 0 22 v0 rfl rfl)
  have k0 := h0
  have lt0 : ∀ x ∈ p0, x.block < W.heap.size := by obtain ⟨m, hm⟩ := k0; exact DataW.trod_lt m _ _ _ hm
  have w0 : Code W W.heap.size a0 len0 cap0 := by
    obtain ⟨fuel, hf⟩ := h0
    rcases open_ints Try.underlying22 Try.underlying5 (by kernel_rfl) hf with ⟨hcs, _⟩ | ⟨x, l, c, zs, hcs, _, hl, hm, hz, _, hcell, hwz⟩
    · simp [Value.cells] at hcs
      obtain ⟨rfl, rfl, rfl⟩ := hcs
      exact code_nil _
    · simp [Value.cells] at hcs
      obtain ⟨rfl, rfl, rfl⟩ := hcs
      exact code_row hl hm (by simpa using hz) hcell hwz
  clear hA0 hval0
  refine (walk a0 len0 cap0 W w0).mono fun e W' ⟨he, bel0⟩ => ?_
  have bel := bel0.below
  subst he
  exact ⟨_, rfl, _, _, _, [], _, [], hW', trodAll_mk1 (shut_bool Try.underlying4 _), (trodAll_cons_mk (Below.trod laidOut (by kernel_rfl) (of_decide_eq_true (by kernel_rfl)) k0 bel lt0) trodAll_mk0), rfl, bel.frame _, fun h => by cases h⟩

theorem over : Rows.fnMergeHitsStoresRow.holds Try.pinned (OpenSpec.ofChange Rows.fnMergeHitsStoresSpec) :=
  OpenClaim.holds_of_wide 5 Try.f5 rfl rfl rfl rfl rfl rfl rfl ⟨rfl, rfl, rfl, rfl, rfl⟩ rfl rfl rfl rfl rfl (by kernel_rfl) Try.func5 (by kernel_rfl)
    (of_decide_eq_true (by kernel_rfl)) (by unfold Func.isWrapper; first | (rw [if_pos (by decide +kernel)]; kernel_rfl) | (rw [if_neg (by decide +kernel)]; exact ⟨rfl, rfl⟩))
    (fun os started H enc _ => lifted os started H enc)

theorem proved : Rows.FnMergeHitsStoresSaid := over
#print axioms proved

end lawMergeHitsStores
end Go.Proofs.Ytkglmhhihpofiaa
