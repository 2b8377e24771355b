/- FnExactFuseRanks: the program's FuseRanks answers as the reference's, and its answer's memory is its own. No condition. -/
import Derived.Test.YtofbjganahbekaaLift2
import Derived.Test.YtofbjganahbekaaLawI
import Derived.Test.YtofbjganahbekaaLawH
import Derived.Test.YtofbjganahbekaaFuse3
import Derived.Test.YtofbjganahbekaaFuse4
namespace Go.Proofs.Ytofbjganahbekaa
open Go.ChangeShapes Go.WideShapes Go.ChangeAt Go.RowKit Go.Shelf
set_option linter.unusedVariables false
set_option linter.unusedSimpArgs false
namespace lawExactFuseRanks
set_option maxHeartbeats 4000000 in
theorem walk (A : Option Addr) (n c : Nat) (xs : List (Int × Int)) (A' : Option Addr) (n' c' : Nat) (ys : List (Int × Int)) (w : World)
    (hx : RHits w 0 w.heap.size A n c xs) (hy : RHits w 0 w.heap.size A' n' c' ys) : Calls Try.prog 4 #[.slice A n c, .slice A' n' c'] w fun e w' => e = .returned (.bool true) ∧ Chg No w w' := by
  obtain rfl : n = xs.length := hx.len.symm
  obtain rfl : n' = ys.length := hy.len.symm
  have hnc := hx.le; have hcm := hx.cap; have hnc2 := hy.le; have hcm2 := hy.cap
  have HX := hid hx; have HY := hid hy
  clear hx hy
  by_cases hbig : (1048576 : Int) < xs.length
  · go_enter Try.func4, Try.ntmps4
    (go_wp2_with fail; (with_reducible refine (szHitS_no _ _ _ _ _ (by omega) (by omega) (by omega) (by omega)).mono ?_); rintro e w1 ⟨rfl, rfl⟩)
    go_wp2
    go_ret
    exact ⟨rfl, Chg.refl _ _⟩
  · by_cases hbig2 : (1048576 : Int) - xs.length < ys.length
    · go_enter Try.func4, Try.ntmps4
      (go_wp2_with fail; (with_reducible refine (szHitS_ok _ _ _ _ _ (by omega) (by omega) (by omega) (by omega)).mono ?_); rintro e w1 ⟨rfl, rfl⟩)
      have j0 : decide ((1048576 : Int) - xs.length < 0) = false := decide_eq_false (by omega)
      (go_wp2_with fail; (with_reducible refine (szHitS_no _ _ _ _ _ (by omega) (by omega) (by omega) (by omega)).mono ?_); rintro e w2 ⟨rfl, rfl⟩)
      go_wp2
      go_ret
      exact ⟨rfl, Chg.refl _ _⟩
    · have hn : xs.length ≤ 1048576 := by omega
      have hn2 : ys.length ≤ 1048576 := by omega
      go_enter Try.func4, Try.ntmps4
      (go_wp2_with fail; (with_reducible refine (szHitS_ok _ _ _ _ _ (by omega) (by omega) (by omega) (by omega)).mono ?_); rintro e w1 ⟨rfl, rfl⟩)
      have j0 : decide ((1048576 : Int) - xs.length < 0) = false := decide_eq_false (by omega)
      (go_wp2_with fail; (with_reducible refine (szHitS_ok _ _ _ _ _ (by omega) (by omega) (by omega) (by omega)).mono ?_); rintro e w2 ⟨rfl, rfl⟩)
      have j1 : decide ((1048576 : Int) - xs.length - ys.length < 0) = false := decide_eq_false (by omega)
      have TX := hid (fun W (h : RHits W 0 w.heap.size A xs.length c xs) => toHitS 0 w.heap.size A xs.length c xs W h hn)
      have TY := hid (fun W (h : RHits W 0 w.heap.size A' ys.length c' ys) => toHitS 0 w.heap.size A' ys.length c' ys W h hn2)
      obtain ⟨L, hL⟩ : ∃ L, FuseF xs ys = L := ⟨_, rfl⟩
      have KS := hid (fun W l0 h0 A n c l1 h1 A' n' c' (h1' : RHits W l0 h0 A n c xs) (h2' : RHits W l1 h1 A' n' c' ys) => sFuseRanks l0 h0 l1 h1 A A' n c n' c' xs ys W h1' h2')
      have KI := hid (fun W l0 h0 A n c l1 h1 A' n' c' (h1' : RHits W l0 h0 A n c xs) (h2' : RHits W l1 h1 A' n' c' ys) => iFuseRanks l0 h0 l1 h1 A A' n c n' c' xs ys W h1' h2')
      rw [hL] at KS KI
      have hLl : L.length ≤ 1000 := by
        rw [← hL]
        cases h1 : hitsB xs with
        | false => rw [FuseF_no1 h1]; simp
        | true =>
          cases h2 : hitsB ys with
          | false => rw [FuseF_no2 h2]; simp
          | true =>
            rw [FuseF_ok h1 h2]
            have h3 := fuseL_len xs ys
            have h4 := hitsB_len h1
            have h5 := hitsB_len h2
            omega
      have q2 : Chg No w w := Chg.refl No w
      clear hL hbig hbig2
      (go_wp2_with fail; (with_reducible refine (TX.out _ (HX.out.no q2)).mono ?_); rintro e w3 ⟨v3, rfl, ho3, hc3⟩)
      have q3 := q2.no hc3
      (go_wp2_with fail; (with_reducible refine (TY.out _ (HY.out.no q3)).mono ?_); rintro e w4 ⟨v4, rfl, ho4, hc4⟩)
      have q4 := q3.no hc4
      obtain ⟨A3, c3, rfl, hr3⟩ := OHits.read ho3
      obtain ⟨A4, c4, rfl, hr4⟩ := OHits.read ho4
      have hp3 := hr3.cap; have hp4 := hr4.cap
      have hl3 := hr3.le; have hl4 := hr4.le
      have R3 := hid hr3; have R4 := hid hr4
      have O3 := hid ho3; have O4 := hid ho4
      have B3 := hid (OSl.own_lt ho3); have B4 := hid (OSl.own_lt ho4)
      have s3 := hc3.size; have s4 := hc4.size
      clear hr3 hr4 ho3 ho4
      (go_wp2_with fail; (with_reducible refine (KS.out _ _ _ _ _ _ _ _ _ _ _ (R3.out.no hc4) R4.out).mono ?_); rintro e w5 ⟨v5, rfl, ho5, hc5⟩)
      have q5 := q4.no hc5
      obtain ⟨A5, c5, rfl, hr5⟩ := OInts.read ho5
      have hp5 := hr5.cap; have hl5 := hr5.le
      have W5 := hid (hr5.wide (lo' := 0) (Nat.zero_le _) (Nat.le_refl _))
      have s5 := hc5.size
      clear ho5 hr5
      (go_wp2_with fail; (with_reducible refine (TX.out _ (HX.out.no q5)).mono ?_); rintro e w6 ⟨v6, rfl, ho6, hc6⟩)
      have q6 := q5.no hc6
      (go_wp2_with fail; (with_reducible refine (TY.out _ (HY.out.no q6)).mono ?_); rintro e w7 ⟨v7, rfl, ho7, hc7⟩)
      have q7 := q6.no hc7
      obtain ⟨A6, c6, rfl, hr6⟩ := OHits.read ho6
      obtain ⟨A7, c7, rfl, hr7⟩ := OHits.read ho7
      have hp6 := hr6.cap; have hp7 := hr7.cap
      have hl6 := hr6.le; have hl7 := hr7.le
      have R6 := hid hr6; have R7 := hid hr7
      have O6 := hid ho6; have O7 := hid ho7
      have B6 := hid (OSl.own_lt ho6); have B7 := hid (OSl.own_lt ho7)
      have s6 := hc6.size; have s7 := hc7.size
      clear hr6 hr7 ho6 ho7
      (go_wp2_with fail; (with_reducible refine (KI.out _ _ _ _ _ _ _ _ _ _ _ (R6.out.no hc7) R7.out).mono ?_); rintro e w8 ⟨v8, rfl, ho8, hc8⟩)
      have q8 := q7.no hc8
      obtain ⟨A8, c8, rfl, ht8⟩ := OInts.typed ho8
      have hp8 := ht8.1.cap; have hl8 := ht8.1.le
      have G8 := hid ht8
      have s8 := hc8.size
      have d58 : Chg No w5 w8 := (hc6.no hc7).no hc8
      clear ho8 ht8
      (go_wp2_with fail; (with_reducible refine (eqIntS _ _ _ _ _ _ _ _ _ L _ G8.out.r (W5.out.no d58)).mono ?_); rintro e w9 ⟨rfl, hc9⟩)
      have q9 := q8.no hc9
      (go_wp2_with fail; (with_reducible refine (TX.out _ (HX.out.no q9)).mono ?_); rintro e w10 ⟨v10, rfl, ho10, hc10⟩)
      have q10 := q9.no hc10
      obtain ⟨A10, c10, rfl, hr10⟩ := OHits.read ho10
      have hp10 := hr10.cap; have hl10 := hr10.le
      have R10 := hid hr10
      clear ho10 hr10
      have d6 : Chg No w6 w10 := (((hc7.no hc8).no hc9).no hc10)
      (go_wp2_with fail; (with_reducible refine (eqHitS _ _ _ _ _ _ _ _ _ xs _ (R6.out.no d6) R10.out).mono ?_); rintro e w11 ⟨rfl, hc11⟩)
      have q11 := q10.no hc11
      (go_wp2_with fail; (with_reducible refine (TY.out _ (HY.out.no q11)).mono ?_); rintro e w12 ⟨v12, rfl, ho12, hc12⟩)
      have q12 := q11.no hc12
      obtain ⟨A12, c12, rfl, hr12⟩ := OHits.read ho12
      have hp12 := hr12.cap; have hl12 := hr12.le
      have R12 := hid hr12
      clear ho12 hr12
      have d7 : Chg No w7 w12 := ((((hc8.no hc9).no hc10).no hc11).no hc12)
      (go_wp2_with fail; (with_reducible refine (eqHitS _ _ _ _ _ _ _ _ _ ys _ (R7.out.no d7) R12.out).mono ?_); rintro e w13 ⟨rfl, hc13⟩)
      have q13 := q12.no hc13
      have d7' : Chg No w7 w13 := d7.no hc13
      have d6' : Chg No w6 w13 := hc7.no d7'
      have d8' : Chg No w8 w13 := ((((hc9.no hc10).no hc11).no hc12).no hc13)
      have d5' : Chg No w5 w13 := d58.no d8'
      have s13 := d8'.size
      have hq1 : (1 : Int) + 2 * (xs.length : Int) ≤ 3000000 := by omega
      have hq2 : (1 : Int) + 2 * (xs.length : Int) + 2 * (ys.length : Int) ≤ 6000000 := by omega
      (go_wp2_with fail; (with_reducible refine (markHitS w5.heap.size w6.heap.size _ _ _ xs 1 _ (O6.out.no d6') B6.out (by omega) (by omega)).mono ?_); rintro e w14 ⟨rfl, _, hc14⟩)
      have s14 := hc14.size
      have G14 := hid (show OHits w14 w6.heap.size (.slice A7 ys.length c7) ys from OSl.keepR (O7.out.no d7') B7.out hc14 (fun k h1 h2 h3 => by omega))
      (go_wp2_with fail; (with_reducible refine (markHitS w6.heap.size w7.heap.size _ _ _ ys _ _ G14.out B7.out (by omega) (by omega)).mono ?_); rintro e w15 ⟨rfl, _, hc15⟩)
      have s15 := hc15.size
      have G15 := hid (((G8.out.no' d8').keep hc14 (fun k h1 h2 h3 => by omega)).keep hc15 (fun k h1 h2 h3 => by omega))
      have W15 := hid (((W5.out.no d5').keep hc14 (fun k h1 h2 h3 => by omega)).keep hc15 (fun k h1 h2 h3 => by omega))
      have q15 : Chg No w w15 := (q13.trans hc14 (fun i hi h => by omega)).trans hc15 (fun i hi h => by omega)
      have j2 : decide ((1 : Int) + 2 * (xs.length : Int) + 2 * (ys.length : Int) < 0) = false := decide_eq_false (by omega)
      (go_wp2_with fail; (with_reducible refine (eqIntS _ _ _ _ _ _ _ _ _ L _ G15.out.r W15.out).mono ?_); rintro e w16 ⟨rfl, hc16⟩)
      have s16 := hc16.size
      (go_wp2_with fail; (with_reducible refine (markIntS _ _ _ _ _ L 1 _ (G15.out.no' hc16) (by omega) (by omega)).mono ?_); rintro e w17 ⟨rfl, hm17, hc17'⟩)
      have hc17 := (G15.out.no' hc16).blk (S := fun b => w7.heap.size ≤ b ∧ b < w8.heap.size) hc17' (fun k h1 h2 => ⟨h1, h2⟩)
      have M17 := hid hm17.1
      have W17 := hid ((W15.out.no hc16).keep hc17 (fun k h1 h2 h3 => by omega))
      have q17 : Chg No w w17 := (q15.no hc16).trans hc17 (fun i hi h => by omega)
      clear hm17
      (go_wp2_with fail; (with_reducible refine (heldIntS _ _ _ _ _ 1 _ M17.out (by omega) (by omega)).mono ?_); rintro e w18 ⟨rfl, rfl⟩)
      have j3 : decide ((1 : Int) + (L.length : Int) < 0) = false := decide_eq_false (by omega)
      have j4 : (((1 : Int) + (L.length : Int)) != ((1 : Int) + (L.length : Int))) = false := by simp
      (go_wp2_with fail; (with_reducible refine (TX.out _ (HX.out.no q17)).mono ?_); rintro e w19 ⟨v19, rfl, ho19, hc19⟩)
      have q19 := q17.no hc19
      (go_wp2_with fail; (with_reducible refine (TY.out _ (HY.out.no q19)).mono ?_); rintro e w20 ⟨v20, rfl, ho20, hc20⟩)
      have q20 := q19.no hc20
      obtain ⟨A19, c19, rfl, hr19⟩ := OHits.read ho19
      obtain ⟨A20, c20, rfl, hr20⟩ := OHits.read ho20
      have hp19 := hr19.cap; have hp20 := hr20.cap
      have hl19 := hr19.le; have hl20 := hr20.le
      have R19 := hid hr19; have R20 := hid hr20
      have O19 := hid ho19; have O20 := hid ho20
      have B19 := hid (OSl.own_lt ho19); have B20 := hid (OSl.own_lt ho20)
      have s19 := hc19.size; have s20 := hc20.size
      clear hr19 hr20 ho19 ho20
      (go_wp2_with fail; (with_reducible refine (KI.out _ _ _ _ _ _ _ _ _ _ _ (R19.out.no hc20) R20.out).mono ?_); rintro e w21 ⟨v21, rfl, ho21, hc21⟩)
      have q21 := q20.no hc21
      obtain ⟨A21, c21, rfl, hr21⟩ := OInts.read ho21
      have hp21 := hr21.cap; have hl21 := hr21.le
      have R21 := hid hr21
      clear ho21 hr21
      have d17 : Chg No w17 w21 := ((hc19.no hc20).no hc21)
      (go_wp2_with fail; (with_reducible refine (eqIntS _ _ _ _ _ _ _ _ _ L _ R21.out (W17.out.no d17)).mono ?_); rintro e w22 ⟨rfl, hc22⟩)
      (go_wp2_with fail; (with_reducible refine (heldIntS _ _ _ _ _ 1 _ (M17.out.no (d17.no hc22)) (by omega) (by omega)).mono ?_); rintro e w23 ⟨rfl, rfl⟩)
      go_wp2
      go_ret
      exact ⟨rfl, q21.no hc22⟩

set_option maxRecDepth 100000 in
theorem lifted (os : Os) (started : os.Started) (H : Type) (enc : TypeId × Value → H) :
    ReturnsInHanded {} Try.checked os 4 .any (Rows.fnExactFuseRanksSpec.pre6 enc Try.prog Try.f4 Rows.fnExactFuseRanksRow.domain false) (Rows.fnExactFuseRanksSpec.post enc Try.prog Try.f4 false true false false) := by
  refine returnsInHanded_of_change (C := Try.checked) own started (by kernel_rfl) Try.func4
    (ChangeSpec.witness6 (enc := enc) (C := Try.checked) false ⟨#[], #[.slice none 0 0, .slice none 0 0], []⟩ 8 (by kernel_rfl) (by kernel_rfl) (by kernel_rfl) (by kernel_rfl)) ?_
  intro W base args ds gs before hval0 hW hcnd _
  have hval : ∀ (j : Nat) t v, Try.f4.params[j]? = some t → args[j]? = some v → Value.okWide Try.prog W .any base t v := hval0
  have hW' := hW
  obtain ⟨p, q, hA0, hV, rfl, hfz, hnd⟩ := hW
  have hA : DataW.TrodAll enc Try.prog W 0 (fun _ => true) true Try.f4.params.toList args.toList ds p := hA0
  rw [Try.params4] at hA hval
  obtain ⟨v0, vs0, d0, ds0, p0, q0, hargs, rfl, rfl, h0, r0⟩ := trodAll_cons hA
  obtain ⟨v1, vs1, d1, ds1, p1, q1, rfl, rfl, rfl, h1, r1⟩ := trodAll_cons r0
  obtain ⟨rfl, rfl, rfl⟩ := trodAll_nil r1
  obtain rfl : args = #[v0, v1] := by cases args; simp_all
  obtain ⟨rfl, rfl⟩ := trodVars_none hV
  have k0 := h0
  have lt0 : ∀ x ∈ p0, x.block < W.heap.size := by obtain ⟨m, hm⟩ := k0; exact DataW.trod_lt m _ _ _ hm
  have k1 := h1
  have lt1 : ∀ x ∈ p1, x.block < W.heap.size := by obtain ⟨m, hm⟩ := k1; exact DataW.trod_lt m _ _ _ hm
  obtain ⟨a0, n0, c0, x0, rfl, w0⟩ := open_hits (hval 0 22 v0 rfl rfl) h0
  obtain ⟨a1, n1, c1, x1, rfl, w1⟩ := open_hits (hval 1 22 v1 rfl rfl) h1
  clear hA0 hval0
  refine (walk a0 n0 c0 x0 a1 n1 c1 x1 W w0 w1).mono fun e W' ⟨he, bel0⟩ => ?_
  have bel := bel0.below
  subst he
  exact ⟨_, rfl, _, _, _, [], _, [], hW', trodAll_mk1 (shut_bool Try.underlying4 _), (trodAll_cons_mk (Below.trod laidOut (by kernel_rfl) (of_decide_eq_true (by kernel_rfl)) k0 bel lt0) (trodAll_cons_mk (Below.trod laidOut (by kernel_rfl) (of_decide_eq_true (by kernel_rfl)) k1 bel lt1) trodAll_mk0)), rfl, bel.frame _, fun h => by cases h⟩

theorem over : Rows.fnExactFuseRanksRow.holds Try.pinned (OpenSpec.ofChange Rows.fnExactFuseRanksSpec) :=
  OpenClaim.holds_of_wide 4 Try.f4 rfl rfl rfl rfl rfl rfl rfl ⟨rfl, rfl, rfl, rfl, rfl⟩ rfl rfl rfl rfl rfl (by kernel_rfl) Try.func4 (by kernel_rfl)
    (of_decide_eq_true (by kernel_rfl)) (by unfold Func.isWrapper; first | (rw [if_pos (by decide +kernel)]; kernel_rfl) | (rw [if_neg (by decide +kernel)]; exact ⟨rfl, rfl⟩))
    (fun os started H enc _ => lifted os started H enc)

theorem proved : Rows.FnExactFuseRanksSaid := over
#print axioms proved

end lawExactFuseRanks
end Go.Proofs.Ytofbjganahbekaa
