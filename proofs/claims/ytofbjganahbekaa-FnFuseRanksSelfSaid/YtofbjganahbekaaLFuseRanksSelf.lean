/- FnFuseRanksSelf: a list fused with itself is itself, and so it is with no hits. No condition. -/
import Derived.Test.YtofbjganahbekaaLift
import Derived.Test.YtofbjganahbekaaDraw3
import Derived.Test.YtofbjganahbekaaFuse3
import Derived.Test.YtofbjganahbekaaFuse4
import Derived.Test.YtofbjganahbekaaEqI
import Derived.Test.YtofbjganahbekaaHitsJ
import Derived.Test.YtofbjganahbekaaKeys
import Derived.Deep.RegionHeld3
import Derived.Deep.DeepCutAuto
namespace Go.Proofs.Ytofbjganahbekaa
open Go.ChangeShapes Go.WideShapes Go.ChangeAt Go.RowKit Go.Shelf
set_option linter.unusedVariables false
set_option linter.unusedSimpArgs false
namespace lawFuseRanksSelf
set_option maxRecDepth 100000 in
set_option maxHeartbeats 4000000 in
theorem walk (A : Option Addr) (n c : Nat) (w : World) (hC : Code w w.heap.size A n c) : Calls Try.prog 8 #[.slice A n c] w fun e w' => e = .returned (.bool true) ∧ Chg No w w' := by
  have hn1 := hC.1
  have hn2 := hC.2.1
  by_cases hbig : 1048576 < n
  · skip
    go_enter Try.func8, Try.ntmps8
    go_wp2
    go_ret
    exact ⟨rfl, Chg.refl _ _⟩
  · skip
    have hbig' : n ≤ 1048576 := by omega
    go_enter Try.func8, Try.ntmps8
    (go_wp2_with fail; (with_reducible refine (drawFuseRanks A n c _ hC).mono ?_); rintro e w1 ⟨v1, v2, xs, ys, rfl, ho1, ho2, hl1, hl2, hc1⟩)
    obtain ⟨A1, c1, rfl, hr1⟩ := OHits.read ho1
    obtain ⟨A2, c2, rfl, hr2⟩ := OHits.read ho2
    have hm1 := hr1.cap; have hm2 := hr2.cap; have hk1 := hr1.le; have hk2 := hr2.le
    have HX := hid hr1; have HY := hid hr2
    clear ho1 ho2 hr1 hr2
    obtain ⟨L, hL⟩ : ∃ L, FuseF xs ys = L := ⟨_, rfl⟩
    have KS := hid (fun W (h1' : RHits W w.heap.size w1.heap.size A1 xs.length c1 xs) (h2' : RHits W w.heap.size w1.heap.size A2 ys.length c2 ys) => sFuseRanks _ _ _ _ _ _ _ _ _ _ xs ys W h1' h2')
    have KI := hid (fun W (h1' : RHits W w.heap.size w1.heap.size A1 xs.length c1 xs) (h2' : RHits W w.heap.size w1.heap.size A2 ys.length c2 ys) => iFuseRanks _ _ _ _ _ _ _ _ _ _ xs ys W h1' h2')
    have KV1 := hid (fun W (h1' : RHits W w.heap.size w1.heap.size A1 xs.length c1 xs) => iVALIDHits _ _ _ _ _ xs W h1')
    have KV2 := hid (fun W (h1' : RHits W w.heap.size w1.heap.size A2 ys.length c2 ys) => iVALIDHits _ _ _ _ _ ys W h1')
    rw [hL] at KS KI
    have HL := hid hL
    clear hL
    (go_wp2_with fail; (with_reducible refine (KI.out _ HX.out HY.out).mono ?_); rintro e w2 ⟨v2, rfl, ho2, hc2⟩)
    have q2 := hc2
    obtain ⟨A3, c3, rfl, hr3⟩ := OInts.read ho2
    have hm3 := hr3.cap; have hk3 := hr3.le
    have HO := hid hr3
    have s1 := hc1.size
    have s2 := hc2.size
    clear ho2 hr3
    (go_wp2_with fail; (with_reducible refine (KS.out _ (HX.out.no hc2) (HY.out.no hc2)).mono ?_); rintro e w3 ⟨v3, rfl, ho3, hc3⟩)
    have q3 : Chg No w1 w3 := hc2.no hc3
    obtain ⟨A4, c4, rfl, hr4⟩ := OInts.read ho3
    have hm4 := hr4.cap; have hk4 := hr4.le
    have HS := hid hr4
    have s3 := hc3.size
    clear ho3 hr4
    (go_wp2_with fail; (with_reducible refine (equalInts _ _ _ _ _ _ _ _ _ L _ (HO.out.no hc3) HS.out).mono ?_); rintro e w4 ⟨rfl, hc4⟩)
    have q4 : Chg No w1 w4 := q3.no hc4
    have r4 : Chg No w2 w4 := hc3.no hc4
    have s4 := hc4.size
    cases hb1 : hitsB xs with
    | false =>
      rw [hb1] at KV1
      (go_wp2_with fail; (with_reducible refine (KV1.out _ (HX.out.no q4)).mono ?_); rintro e w5 ⟨rfl, hc5⟩)
      have q5 := q4.no hc5
      have r5 := r4.no hc5
      (go_wp2_with fail; (with_reducible refine (KS.out _ (HX.out.no q5) (HY.out.no q5)).mono ?_); rintro e w8 ⟨v8, rfl, ho8, hc8⟩)
      obtain ⟨A8, c8, rfl, hr8⟩ := OInts.read ho8
      have hm8 := hr8.cap; have hk8 := hr8.le
      have HS8 := hid hr8
      clear ho8 hr8
      (go_wp2_with fail; (with_reducible refine (equalInts _ _ _ _ _ _ _ _ _ L _ (HO.out.no (r5.no hc8)) HS8.out).mono ?_); rintro e w9 ⟨rfl, hc9⟩)
      go_wp2
      go_ret
      exact ⟨rfl, hc1.no ((q5.no hc8).no hc9)⟩
    | true =>
      rw [hb1] at KV1
      (go_wp2_with fail; (with_reducible refine (KV1.out _ (HX.out.no q4)).mono ?_); rintro e w5 ⟨rfl, hc5⟩)
      have q5 := q4.no hc5
      have r5 := r4.no hc5
      cases hb2 : hitsB ys with
      | false =>
        rw [hb2] at KV2
        (go_wp2_with fail; (with_reducible refine (KV2.out _ (HY.out.no q5)).mono ?_); rintro e w6 ⟨rfl, hc6⟩)
        have q6 := q5.no hc6
        have r6 := r5.no hc6
        (go_wp2_with fail; (with_reducible refine (KS.out _ (HX.out.no q6) (HY.out.no q6)).mono ?_); rintro e w8 ⟨v8, rfl, ho8, hc8⟩)
        obtain ⟨A8, c8, rfl, hr8⟩ := OInts.read ho8
        have hm8 := hr8.cap; have hk8 := hr8.le
        have HS8 := hid hr8
        clear ho8 hr8
        (go_wp2_with fail; (with_reducible refine (equalInts _ _ _ _ _ _ _ _ _ L _ (HO.out.no (r6.no hc8)) HS8.out).mono ?_); rintro e w9 ⟨rfl, hc9⟩)
        go_wp2
        go_ret
        exact ⟨rfl, hc1.no ((q6.no hc8).no hc9)⟩
      | true =>
        rw [hb2] at KV2
        (go_wp2_with fail; (with_reducible refine (KV2.out _ (HY.out.no q5)).mono ?_); rintro e w6 ⟨rfl, hc6⟩)
        have q6 := q5.no hc6
        have r6 := r5.no hc6
        have hv1 := hitsB_len hb1; have hv2 := hitsB_len hb2
        have HB1 := hid hb1; have HB2 := hid hb2
        clear hb1 hb2 KV1 KV2 KS HS hc3 hc4 hc5 hc6 q3 q5 r5
        have KD := hid (fun W (h : RHits W w.heap.size w1.heap.size A1 xs.length c1 xs) => iFuseRanks _ _ _ _ _ _ _ _ _ _ xs xs W h h)
        have KE := hid (fun W (h : RHits W w.heap.size w1.heap.size A1 xs.length c1 xs) => iFuseRanks _ _ _ _ _ _ _ _ _ _ xs [] W h (show RHits W 0 0 none 0 0 [] from RSl.nil_ _ _ (by unfold maxLen; omega)))
        have KF := hid (fun W (h1 : RHits W w.heap.size w1.heap.size A2 ys.length c2 ys) (h2 : RHits W w.heap.size w1.heap.size A1 xs.length c1 xs) => iFuseRanks _ _ _ _ _ _ _ _ _ _ ys xs W h1 h2)
        have KK := hid (fun W (h : RHits W w.heap.size w1.heap.size A1 xs.length c1 xs) => keysL _ _ _ _ _ xs W h (by omega))
        rw [fuse_self HB1.out] at KD
        rw [fuse_nil HB1.out] at KE
        rw [fuse_comm xs ys, HL.out] at KF
        obtain ⟨T, hT⟩ : ∃ T, xs.map Prod.fst = T := ⟨_, rfl⟩
        rw [hT] at KD KE KK
        clear hT KI HL
        (go_wp2_with fail; (with_reducible refine (KD.out _ (HX.out.no q6)).mono ?_); rintro e w7 ⟨v7, rfl, ho7, hc7⟩)
        obtain ⟨A7, c7, rfl, hr7⟩ := OInts.read ho7
        have hp7 := hr7.cap; have hl7 := hr7.le
        have R7 := hid hr7
        clear ho7 hr7
        have q7 := q6.no hc7
        (go_wp2_with fail; (with_reducible refine (KK.out _ (HX.out.no q7)).mono ?_); rintro e w8 ⟨v8, rfl, ho8, hc8⟩)
        obtain ⟨A8, c8, rfl, hr8⟩ := OInts.read ho8
        have hp8 := hr8.cap; have hl8 := hr8.le
        have R8 := hid hr8
        clear ho8 hr8
        have q8 := q7.no hc8
        (go_wp2_with fail; (with_reducible refine (equalInts _ _ _ _ _ _ _ _ _ T _ (R7.out.no hc8) R8.out).mono ?_); rintro e w9 ⟨rfl, hc9⟩)
        have q9 := q8.no hc9
        (go_wp2_with fail; (with_reducible refine (KE.out _ (HX.out.no q9)).mono ?_); rintro e w10 ⟨v10, rfl, ho10, hc10⟩)
        obtain ⟨A10, c10, rfl, hr10⟩ := OInts.read ho10
        have hp10 := hr10.cap; have hl10 := hr10.le
        have R10 := hid hr10
        clear ho10 hr10
        have q10 := q9.no hc10
        (go_wp2_with fail; (with_reducible refine (KK.out _ (HX.out.no q10)).mono ?_); rintro e w11 ⟨v11, rfl, ho11, hc11⟩)
        obtain ⟨A11, c11, rfl, hr11⟩ := OInts.read ho11
        have hp11 := hr11.cap; have hl11 := hr11.le
        have R11 := hid hr11
        clear ho11 hr11
        have q11 := q10.no hc11
        (go_wp2_with fail; (with_reducible refine (equalInts _ _ _ _ _ _ _ _ _ T _ (R10.out.no hc11) R11.out).mono ?_); rintro e w12 ⟨rfl, hc12⟩)
        have q12 := q11.no hc12
        (go_wp2_with fail; (with_reducible refine (KF.out _ (HY.out.no q12) (HX.out.no q12)).mono ?_); rintro e w13 ⟨v13, rfl, ho13, hc13⟩)
        obtain ⟨A13, c13, rfl, hr13⟩ := OInts.read ho13
        have hp13 := hr13.cap; have hl13 := hr13.le
        have R13 := hid hr13
        clear ho13 hr13
        have q13 := q12.no hc13
        have r13 : Chg No w2 w13 := ((((((r6.no hc7).no hc8).no hc9).no hc10).no hc11).no hc12).no hc13
        (go_wp2_with fail; (with_reducible refine (equalInts _ _ _ _ _ _ _ _ _ L _ R13.out (HO.out.no r13)).mono ?_); rintro e w14 ⟨rfl, hc14⟩)
        go_wp2
        go_ret
        exact ⟨rfl, hc1.no (q13.no hc14)⟩

set_option maxRecDepth 100000 in
theorem lifted (os : Os) (started : os.Started) (H : Type) (enc : TypeId × Value → H) :
    ReturnsInHanded {} Try.checked os 8 .any (Rows.fnFuseRanksSelfSpec.pre6 enc Try.prog Try.f8 Rows.fnFuseRanksSelfRow.domain false) (Rows.fnFuseRanksSelfSpec.post enc Try.prog Try.f8 false true false false) := by
  refine returnsInHanded_of_change (C := Try.checked) own started (by kernel_rfl) Try.func8
    (ChangeSpec.witness6 (enc := enc) (C := Try.checked) false ⟨#[], #[.slice none 0 0], []⟩ 8 (by kernel_rfl) (by kernel_rfl) (by kernel_rfl) (by kernel_rfl)) ?_
  intro W base args ds gs before hval0 hW hcnd _
  have hval : ∀ (j : Nat) t v, Try.f8.params[j]? = some t → args[j]? = some v → Value.okWide Try.prog W .any base t v := hval0
  have hW' := hW
  obtain ⟨p, q, hA0, hV, rfl, hfz, hnd⟩ := hW
  have hA : DataW.TrodAll enc Try.prog W 0 (fun _ => true) true Try.f8.params.toList args.toList ds p := hA0
  rw [Try.params8] at hA hval
  obtain ⟨v0, vs0, d0, ds0, p0, q0, hargs, rfl, rfl, h0, r0⟩ := trodAll_cons hA
  obtain ⟨rfl, rfl, rfl⟩ := trodAll_nil r0
  obtain rfl : args = #[v0] := by cases args; simp_all
  obtain ⟨rfl, rfl⟩ := trodVars_none hV
  obtain ⟨a0, len0, cap0, rfl⟩ := okWide_slice Try.underlying35 (hval 0 35 v0 rfl rfl)
  have k0 := h0
  have lt0 : ∀ x ∈ p0, x.block < W.heap.size := by obtain ⟨m, hm⟩ := k0; exact DataW.trod_lt m _ _ _ hm
  have w0 : Code W W.heap.size a0 len0 cap0 := by
    obtain ⟨fuel, hf⟩ := h0
    rcases open_ints Try.underlying35 Try.underlying5 (by kernel_rfl) hf with ⟨hcs, _⟩ | ⟨x, l, c, zs, hcs, _, hl, hm, hz, _, hcell, hwz⟩
    · simp [Value.cells] at hcs
      obtain ⟨rfl, rfl, rfl⟩ := hcs
      exact code_nil _
    · simp [Value.cells] at hcs
      obtain ⟨rfl, rfl, rfl⟩ := hcs
      exact code_row hl hm (by simpa using hz) hcell hwz
  clear hA0 hval0
  refine (walk a0 len0 cap0 W w0).mono fun e W' ⟨he, bel0⟩ => ?_
  have bel := bel0.below
  subst he
  exact ⟨_, rfl, _, _, _, [], _, [], hW', trodAll_mk1 (shut_bool Try.underlying4 _), (trodAll_cons_mk (Below.trod laidOut (by kernel_rfl) (of_decide_eq_true (by kernel_rfl)) k0 bel lt0) trodAll_mk0), rfl, bel.frame _, fun h => by cases h⟩

theorem over : Rows.fnFuseRanksSelfRow.holds Try.pinned (OpenSpec.ofChange Rows.fnFuseRanksSelfSpec) :=
  OpenClaim.holds_of_wide 8 Try.f8 rfl rfl rfl rfl rfl rfl rfl ⟨rfl, rfl, rfl, rfl, rfl⟩ rfl rfl rfl rfl rfl (by kernel_rfl) Try.func8 (by kernel_rfl)
    (of_decide_eq_true (by kernel_rfl)) (by unfold Func.isWrapper; first | (rw [if_pos (by decide +kernel)]; kernel_rfl) | (rw [if_neg (by decide +kernel)]; exact ⟨rfl, rfl⟩))
    (fun os started H enc _ => lifted os started H enc)

theorem proved : Rows.FnFuseRanksSelfSaid := over
#print axioms proved

end lawFuseRanksSelf
end Go.Proofs.Ytofbjganahbekaa
