/- FnMergeHitsOrder, FnMergeHitsThree: the order of lists does not matter; merging can be regrouped. No condition. -/
import Derived.Test.YtofbjganahbekaaLift
import Derived.Test.YtofbjganahbekaaDrawM
import Derived.Test.YtofbjganahbekaaMerge
import Derived.Test.YtofbjganahbekaaEqH
import Derived.Test.YtofbjganahbekaaPMerge2
import Derived.Deep.RegionHeld3
import Derived.Deep.DeepCutAuto
namespace Go.Proofs.Ytofbjganahbekaa
open Go.ChangeShapes Go.WideShapes Go.ChangeAt Go.RowKit Go.Shelf
set_option linter.unusedVariables false
set_option linter.unusedSimpArgs false
namespace lawMergeHitsOrder
set_option maxHeartbeats 4000000 in
theorem walk (A : Option Addr) (n c : Nat) (w : World) (hC : Code w w.heap.size A n c) : Calls Try.prog 6 #[.slice A n c] w fun e w' => e = .returned (.bool true) ∧ Chg No w w' := by
  have hn1 := hC.1
  have hn2 := hC.2.1
  by_cases hbig : 1048576 < n
  · skip
    go_enter Try.func6, Try.ntmps6
    go_wp2
    go_ret
    exact ⟨rfl, Chg.refl _ _⟩
  · skip
    have hbig' : n ≤ 1048576 := by omega
    go_enter Try.func6, Try.ntmps6
    (go_wp2_with fail; (with_reducible refine (drawMergeHits A n c _ hC).mono ?_); rintro e w1 ⟨v1, v2, xs, ys, k, rfl, ho1, ho2, hl1, hl2, hk, hc1⟩)
    obtain ⟨A1, c1, rfl, hr1⟩ := OHits.read ho1
    obtain ⟨A2, c2, rfl, hr2⟩ := OHits.read ho2
    have hm1 := hr1.cap; have hm2 := hr2.cap; have hk1 := hr1.le; have hk2 := hr2.le
    have HX := hid hr1; have HY := hid hr2
    have hk0 := hk.1; have hk17 := hk.2
    clear ho1 ho2 hr1 hr2 hk
    obtain ⟨L, hL⟩ : ∃ L, MergeF xs ys k = L := ⟨_, rfl⟩
    have KS := hid (fun W (h1' : RHits W w.heap.size w1.heap.size A1 xs.length c1 xs) (h2' : RHits W w.heap.size w1.heap.size A2 ys.length c2 ys) => sMergeHits _ _ _ _ _ _ _ _ _ _ xs ys k W h1' h2')
    have KI := hid (fun W (h1' : RHits W w.heap.size w1.heap.size A1 xs.length c1 xs) (h2' : RHits W w.heap.size w1.heap.size A2 ys.length c2 ys) => iMergeHits _ _ _ _ _ _ _ _ _ _ xs ys k W h1' h2')
    have KV1 := hid (fun W (h1' : RHits W w.heap.size w1.heap.size A1 xs.length c1 xs) => iVALIDHits _ _ _ _ _ xs W h1')
    have KV2 := hid (fun W (h1' : RHits W w.heap.size w1.heap.size A2 ys.length c2 ys) => iVALIDHits _ _ _ _ _ ys W h1')
    rw [hL] at KS KI
    have HL := hid hL
    clear hL
    (go_wp2_with fail; (with_reducible refine (KI.out _ HX.out HY.out).mono ?_); rintro e w2 ⟨v2, rfl, ho2, hc2⟩)
    have q2 := hc2
    obtain ⟨A3, c3, rfl, hr3⟩ := OHits.read ho2
    have hm3 := hr3.cap; have hk3 := hr3.le
    have HO := hid hr3
    have s1 := hc1.size
    have s2 := hc2.size
    clear ho2 hr3
    (go_wp2_with fail; (with_reducible refine (KS.out _ (HX.out.no hc2) (HY.out.no hc2)).mono ?_); rintro e w3 ⟨v3, rfl, ho3, hc3⟩)
    have q3 : Chg No w1 w3 := hc2.no hc3
    obtain ⟨A4, c4, rfl, hr4⟩ := OHits.read ho3
    have hm4 := hr4.cap; have hk4 := hr4.le
    have HS := hid hr4
    have s3 := hc3.size
    clear ho3 hr4
    (go_wp2_with fail; (with_reducible refine (equalHits _ _ _ _ _ _ _ _ _ L _ (HO.out.no hc3) HS.out).mono ?_); rintro e w4 ⟨rfl, hc4⟩)
    have q4 : Chg No w1 w4 := q3.no hc4
    have r4 : Chg No w2 w4 := hc3.no hc4
    have s4 := hc4.size
    cases hb1 : hitsB xs with
    | false =>
      rw [hb1] at KV1
      (go_wp2_with fail; (with_reducible refine (KV1.out _ (HX.out.no q4)).mono ?_); rintro e w5 ⟨rfl, hc5⟩)
      have q5 := q4.no hc5
      have r5 := r4.no hc5
      (go_wp2_with fail; (with_reducible refine (KS.out _ (HX.out.no q5) (HY.out.no q5)).mono ?_); rintro e w8 ⟨v8, rfl, ho8, hc8⟩)
      obtain ⟨A8, c8, rfl, hr8⟩ := OHits.read ho8
      have hm8 := hr8.cap; have hk8 := hr8.le
      have HS8 := hid hr8
      clear ho8 hr8
      (go_wp2_with fail; (with_reducible refine (equalHits _ _ _ _ _ _ _ _ _ L _ (HO.out.no (r5.no hc8)) HS8.out).mono ?_); rintro e w9 ⟨rfl, hc9⟩)
      go_wp2
      go_ret
      exact ⟨rfl, hc1.no ((q5.no hc8).no hc9)⟩
    | true =>
      rw [hb1] at KV1
      (go_wp2_with fail; (with_reducible refine (KV1.out _ (HX.out.no q4)).mono ?_); rintro e w5 ⟨rfl, hc5⟩)
      have q5 := q4.no hc5
      have r5 := r4.no hc5
      cases hb2 : hitsB ys with
      | false =>
        rw [hb2] at KV2
        (go_wp2_with fail; (with_reducible refine (KV2.out _ (HY.out.no q5)).mono ?_); rintro e w6 ⟨rfl, hc6⟩)
        have q6 := q5.no hc6
        have r6 := r5.no hc6
        (go_wp2_with fail; (with_reducible refine (KS.out _ (HX.out.no q6) (HY.out.no q6)).mono ?_); rintro e w8 ⟨v8, rfl, ho8, hc8⟩)
        obtain ⟨A8, c8, rfl, hr8⟩ := OHits.read ho8
        have hm8 := hr8.cap; have hk8 := hr8.le
        have HS8 := hid hr8
        clear ho8 hr8
        (go_wp2_with fail; (with_reducible refine (equalHits _ _ _ _ _ _ _ _ _ L _ (HO.out.no (r6.no hc8)) HS8.out).mono ?_); rintro e w9 ⟨rfl, hc9⟩)
        go_wp2
        go_ret
        exact ⟨rfl, hc1.no ((q6.no hc8).no hc9)⟩
      | true =>
        rw [hb2] at KV2
        (go_wp2_with fail; (with_reducible refine (KV2.out _ (HY.out.no q5)).mono ?_); rintro e w6 ⟨rfl, hc6⟩)
        have q6 := q5.no hc6
        have r6 := r5.no hc6
        by_cases g1 : k < 1
        · skip
          (go_wp2_with fail; (with_reducible refine (KS.out _ (HX.out.no q6) (HY.out.no q6)).mono ?_); rintro e w8 ⟨v8, rfl, ho8, hc8⟩)
          obtain ⟨A8, c8, rfl, hr8⟩ := OHits.read ho8
          have hm8 := hr8.cap; have hk8 := hr8.le
          have HS8 := hid hr8
          clear ho8 hr8
          (go_wp2_with fail; (with_reducible refine (equalHits _ _ _ _ _ _ _ _ _ L _ (HO.out.no (r6.no hc8)) HS8.out).mono ?_); rintro e w9 ⟨rfl, hc9⟩)
          go_wp2
          go_ret
          exact ⟨rfl, hc1.no ((q6.no hc8).no hc9)⟩
        · by_cases g2 : 16 < k
          · skip
            (go_wp2_with fail; (with_reducible refine (KS.out _ (HX.out.no q6) (HY.out.no q6)).mono ?_); rintro e w8 ⟨v8, rfl, ho8, hc8⟩)
            obtain ⟨A8, c8, rfl, hr8⟩ := OHits.read ho8
            have hm8 := hr8.cap; have hk8 := hr8.le
            have HS8 := hid hr8
            clear ho8 hr8
            (go_wp2_with fail; (with_reducible refine (equalHits _ _ _ _ _ _ _ _ _ L _ (HO.out.no (r6.no hc8)) HS8.out).mono ?_); rintro e w9 ⟨rfl, hc9⟩)
            go_wp2
            go_ret
            exact ⟨rfl, hc1.no ((q6.no hc8).no hc9)⟩
          · have g1' : 1 ≤ k := by omega
            have g2' : k ≤ 16 := by omega
            have hok : mergeOk xs ys k = true := by unfold mergeOk; rw [hb1, hb2, decide_eq_true ⟨g1', g2'⟩]; rfl
            have hok2 : mergeOk ys xs k = true := by unfold mergeOk; rw [hb1, hb2, decide_eq_true ⟨g1', g2'⟩]; rfl
            have hok3 : mergeOk xs xs k = true := by unfold mergeOk; rw [hb1, decide_eq_true ⟨g1', g2'⟩]; rfl
            have HC : MergeF ys xs k = L := by rw [MergeF_ok hok2, mergeF_comm (hitsB_ok hb1) (hitsB_ok hb2), ← MergeF_ok hok, HL.out]
            have HD : MergeF xs xs k = xs.take k.toNat := by rw [MergeF_ok hok3, mergeF_self (hitsB_ok hb1)]
            have KC := hid (fun W (h1' : RHits W w.heap.size w1.heap.size A2 ys.length c2 ys) (h2' : RHits W w.heap.size w1.heap.size A1 xs.length c1 xs) => iMergeHits _ _ _ _ _ _ _ _ _ _ ys xs k W h1' h2')
            have KD := hid (fun W (h1' h2' : RHits W w.heap.size w1.heap.size A1 xs.length c1 xs) => iMergeHits _ _ _ _ _ _ _ _ _ _ xs xs k W h1' h2')
            rw [HC] at KC
            rw [HD] at KD
            clear HC HD hok hok2 hok3 KV1 KV2 KS KI HL hb1 hb2 g1 g2
            generalize hT : xs.take k.toNat = T at *
            have HT := hid hT
            obtain ⟨m, rfl⟩ := Int.eq_ofNat_of_zero_le hk0
            have hTl : T.length = min m xs.length := by rw [← HT.out, List.length_take]; rfl
            have hmn : (min (m : Int) (xs.length : Int)).toNat = min m xs.length := by omega
            have HV := hid (fun W (h : RHits W w.heap.size w1.heap.size A1 xs.length c1 xs) => (show RHits W w.heap.size w1.heap.size A1 T.length c1 T from by
              have h9 := h.take (k := T.length) (by omega)
              have : xs.take T.length = T := by
                rw [← HT.out, List.length_take]
                show xs.take (min m xs.length) = xs.take m
                rw [← List.take_take, List.take_length]
              rw [this] at h9
              exact h9))
            have hTx : T.length ≤ xs.length := by omega
            clear hT
            have HXa := hid (HX.out.no q6)
            have HYa := hid (HY.out.no q6)
            have HOa := hid (HO.out.no r6)
            have hva := HV.out _ HXa.out
            rw [hTl] at hva
            have HVa := hid hva
            clear hva
            clear HX HY HO HV
            go_wp2_with fail
            first | (go_region_with (first | (go_at_call 13; (with_reducible refine (KC.out _ ((HYa.out.no (by (repeat (first | (with_reducible exact Chg.refl _ _) | ((with_reducible refine Chg.setNew ?_ _ ?_); rotate_left; first | (dsimp only; omega) | (simp; done) | (simp; omega)) | (with_reducible refine Chg.alloc ?_ _) | (with_reducible refine Chg.drew ?_) | (with_reducible refine Chg.drewN ?_ _) | (with_reducible refine Chg.no ?_ (by assumption)) | (with_reducible refine Chg.and_ ?_ (by assumption)) | ((with_reducible refine Chg.at_ ?_ (by assumption) ?_); rotate_left; (try simp only [World.size_alloc]); omega)))))) ((HXa.out.no (by (repeat (first | (with_reducible exact Chg.refl _ _) | ((with_reducible refine Chg.setNew ?_ _ ?_); rotate_left; first | (dsimp only; omega) | (simp; done) | (simp; omega)) | (with_reducible refine Chg.alloc ?_ _) | (with_reducible refine Chg.drew ?_) | (with_reducible refine Chg.drewN ?_ _) | (with_reducible refine Chg.no ?_ (by assumption)) | (with_reducible refine Chg.and_ ?_ (by assumption)) | ((with_reducible refine Chg.at_ ?_ (by assumption) ?_); rotate_left; (try simp only [World.size_alloc]); omega))))))).mono ?_); rintro e w7 ⟨v7, rfl, ho7, hc7⟩; obtain ⟨A7, c7, rfl, hr7⟩ := OHits.read ho7; have hm7 := hr7.cap; have hk7 := hr7.le; have H7 := hid hr7; clear ho7 hr7) | (go_at_call 13; (with_reducible refine (KD.out _ ((HXa.out.no (by (repeat (first | (with_reducible exact Chg.refl _ _) | ((with_reducible refine Chg.setNew ?_ _ ?_); rotate_left; first | (dsimp only; omega) | (simp; done) | (simp; omega)) | (with_reducible refine Chg.alloc ?_ _) | (with_reducible refine Chg.drew ?_) | (with_reducible refine Chg.drewN ?_ _) | (with_reducible refine Chg.no ?_ (by assumption)) | (with_reducible refine Chg.and_ ?_ (by assumption)) | ((with_reducible refine Chg.at_ ?_ (by assumption) ?_); rotate_left; (try simp only [World.size_alloc]); omega)))))) ((HXa.out.no (by (repeat (first | (with_reducible exact Chg.refl _ _) | ((with_reducible refine Chg.setNew ?_ _ ?_); rotate_left; first | (dsimp only; omega) | (simp; done) | (simp; omega)) | (with_reducible refine Chg.alloc ?_ _) | (with_reducible refine Chg.drew ?_) | (with_reducible refine Chg.drewN ?_ _) | (with_reducible refine Chg.no ?_ (by assumption)) | (with_reducible refine Chg.and_ ?_ (by assumption)) | ((with_reducible refine Chg.at_ ?_ (by assumption) ?_); rotate_left; (try simp only [World.size_alloc]); omega))))))).mono ?_); rintro e w8 ⟨v8, rfl, ho8, hc8⟩; obtain ⟨A8, c8, rfl, hr8⟩ := OHits.read ho8; rw [hTl] at hr8; have hm8 := hr8.cap; have hk8 := hr8.le; have H8 := hid hr8; clear ho8 hr8) | (go_at_call 23; (with_reducible refine (equalHits _ _ _ _ _ _ _ _ _ L _ (H7.out.no (by (repeat (first | (with_reducible exact Chg.refl _ _) | ((with_reducible refine Chg.setNew ?_ _ ?_); rotate_left; first | (dsimp only; omega) | (simp; done) | (simp; omega)) | (with_reducible refine Chg.alloc ?_ _) | (with_reducible refine Chg.drew ?_) | (with_reducible refine Chg.drewN ?_ _) | (with_reducible refine Chg.no ?_ (by assumption)) | (with_reducible refine Chg.and_ ?_ (by assumption)) | ((with_reducible refine Chg.at_ ?_ (by assumption) ?_); rotate_left; (try simp only [World.size_alloc]); omega))))) (HOa.out.no (by (repeat (first | (with_reducible exact Chg.refl _ _) | ((with_reducible refine Chg.setNew ?_ _ ?_); rotate_left; first | (dsimp only; omega) | (simp; done) | (simp; omega)) | (with_reducible refine Chg.alloc ?_ _) | (with_reducible refine Chg.drew ?_) | (with_reducible refine Chg.drewN ?_ _) | (with_reducible refine Chg.no ?_ (by assumption)) | (with_reducible refine Chg.and_ ?_ (by assumption)) | ((with_reducible refine Chg.at_ ?_ (by assumption) ?_); rotate_left; (try simp only [World.size_alloc]); omega)))))).mono ?_); rintro e w9 ⟨rfl, hc9⟩) | (go_at_call 23; (with_reducible refine (equalHits _ _ _ _ _ _ _ _ _ T _ (H8.out.no (by (repeat (first | (with_reducible exact Chg.refl _ _) | ((with_reducible refine Chg.setNew ?_ _ ?_); rotate_left; first | (dsimp only; omega) | (simp; done) | (simp; omega)) | (with_reducible refine Chg.alloc ?_ _) | (with_reducible refine Chg.drew ?_) | (with_reducible refine Chg.drewN ?_ _) | (with_reducible refine Chg.no ?_ (by assumption)) | (with_reducible refine Chg.and_ ?_ (by assumption)) | ((with_reducible refine Chg.at_ ?_ (by assumption) ?_); rotate_left; (try simp only [World.size_alloc]); omega))))) (HVa.out.no (by (repeat (first | (with_reducible exact Chg.refl _ _) | ((with_reducible refine Chg.setNew ?_ _ ?_); rotate_left; first | (dsimp only; omega) | (simp; done) | (simp; omega)) | (with_reducible refine Chg.alloc ?_ _) | (with_reducible refine Chg.drew ?_) | (with_reducible refine Chg.drewN ?_ _) | (with_reducible refine Chg.no ?_ (by assumption)) | (with_reducible refine Chg.and_ ?_ (by assumption)) | ((with_reducible refine Chg.at_ ?_ (by assumption) ?_); rotate_left; (try simp only [World.size_alloc]); omega)))))).mono ?_); rintro e w10 ⟨rfl, hc10⟩))) | fail
            all_goals
              have q9 : Chg No w6 w10 := by (repeat (first | (with_reducible exact Chg.refl _ _) | ((with_reducible refine Chg.setNew ?_ _ ?_); rotate_left; first | (dsimp only; omega) | (simp; done) | (simp; omega)) | (with_reducible refine Chg.alloc ?_ _) | (with_reducible refine Chg.drew ?_) | (with_reducible refine Chg.drewN ?_ _) | (with_reducible refine Chg.no ?_ (by assumption)) | (with_reducible refine Chg.and_ ?_ (by assumption)) | ((with_reducible refine Chg.at_ ?_ (by assumption) ?_); rotate_left; (try simp only [World.size_alloc]); omega)))
              go_wp2
              go_ret
              exact ⟨rfl, hc1.no (q6.no q9)⟩

set_option maxRecDepth 100000 in
theorem lifted (os : Os) (started : os.Started) (H : Type) (enc : TypeId × Value → H) :
    ReturnsInHanded {} Try.checked os 6 .any (Rows.fnMergeHitsOrderSpec.pre6 enc Try.prog Try.f6 Rows.fnMergeHitsOrderRow.domain false) (Rows.fnMergeHitsOrderSpec.post enc Try.prog Try.f6 false true false false) := by
  refine returnsInHanded_of_change (C := Try.checked) own started (by kernel_rfl) Try.func6
    (ChangeSpec.witness6 (enc := enc) (C := Try.checked) false ⟨#[], #[.slice none 0 0], []⟩ 8 (by kernel_rfl) (by kernel_rfl) (by kernel_rfl) (by kernel_rfl)) ?_
  intro W base args ds gs before hval0 hW hcnd _
  have hval : ∀ (j : Nat) t v, Try.f6.params[j]? = some t → args[j]? = some v → Value.okWide Try.prog W .any base t v := hval0
  have hW' := hW
  obtain ⟨p, q, hA0, hV, rfl, hfz, hnd⟩ := hW
  have hA : DataW.TrodAll enc Try.prog W 0 (fun _ => true) true Try.f6.params.toList args.toList ds p := hA0
  rw [Try.params6] at hA hval
  obtain ⟨v0, vs0, d0, ds0, p0, q0, hargs, rfl, rfl, h0, r0⟩ := trodAll_cons hA
  obtain ⟨rfl, rfl, rfl⟩ := trodAll_nil r0
  obtain rfl : args = #[v0] := by cases args; simp_all
  obtain ⟨rfl, rfl⟩ := trodVars_none hV
  obtain ⟨a0, len0, cap0, rfl⟩ := okWide_slice Try.underlying35 (hval 0 35 v0 rfl rfl)
  have k0 := h0
  have lt0 : ∀ x ∈ p0, x.block < W.heap.size := by obtain ⟨m, hm⟩ := k0; exact DataW.trod_lt m _ _ _ hm
  have w0 : Code W W.heap.size a0 len0 cap0 := by
    obtain ⟨fuel, hf⟩ := h0
    rcases open_ints Try.underlying35 Try.underlying5 (by kernel_rfl) hf with ⟨hcs, _⟩ | ⟨x, l, c, zs, hcs, _, hl, hm, hz, _, hcell, hwz⟩
    · simp [Value.cells] at hcs
      obtain ⟨rfl, rfl, rfl⟩ := hcs
      exact code_nil _
    · simp [Value.cells] at hcs
      obtain ⟨rfl, rfl, rfl⟩ := hcs
      exact code_row hl hm (by simpa using hz) hcell hwz
  clear hA0 hval0
  refine (walk a0 len0 cap0 W w0).mono fun e W' ⟨he, bel0⟩ => ?_
  have bel := bel0.below
  subst he
  exact ⟨_, rfl, _, _, _, [], _, [], hW', trodAll_mk1 (shut_bool Try.underlying4 _), (trodAll_cons_mk (Below.trod laidOut (by kernel_rfl) (of_decide_eq_true (by kernel_rfl)) k0 bel lt0) trodAll_mk0), rfl, bel.frame _, fun h => by cases h⟩

theorem over : Rows.fnMergeHitsOrderRow.holds Try.pinned (OpenSpec.ofChange Rows.fnMergeHitsOrderSpec) :=
  OpenClaim.holds_of_wide 6 Try.f6 rfl rfl rfl rfl rfl rfl rfl ⟨rfl, rfl, rfl, rfl, rfl⟩ rfl rfl rfl rfl rfl (by kernel_rfl) Try.func6 (by kernel_rfl)
    (of_decide_eq_true (by kernel_rfl)) (by unfold Func.isWrapper; first | (rw [if_pos (by decide +kernel)]; kernel_rfl) | (rw [if_neg (by decide +kernel)]; exact ⟨rfl, rfl⟩))
    (fun os started H enc _ => lifted os started H enc)

theorem proved : Rows.FnMergeHitsOrderSaid := over
#print axioms proved

end lawMergeHitsOrder
end Go.Proofs.Ytofbjganahbekaa
