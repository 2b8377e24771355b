/- FnExactHashNearest: the program's HashNearest answers as the reference's, and its answer's memory is its own. No condition. -/
import Derived.Test.YtifdcdpdihfbjaaLift2
import Derived.Test.YtifdcdpdihfbjaaLawI
import Derived.Test.YtifdcdpdihfbjaaLawH
import Derived.Test.YtifdcdpdihfbjaaHashN
import Derived.Deep.RegionHeld3
import Derived.Deep.DeepCutAuto
namespace Go.Proofs.Ytifdcdpdihfbjaa
open Go.ChangeShapes Go.WideShapes Go.ChangeAt Go.RowKit Go.Shelf
set_option linter.unusedVariables false
set_option linter.unusedSimpArgs false
namespace lawExactHashNearest
set_option maxHeartbeats 4000000 in
theorem walk (AP : Option Addr) (np cp : Nat) (ps : List (List Int)) (A : Option Addr) (n c : Nat) (xs : List It) (A' : Option Addr) (n' c' : Nat) (at_ : List Int) (bt k : Int) (w : World)
    (hps : RRows w 0 w.heap.size AP np cp ps) (hx : RItems w 0 w.heap.size A n c xs) (hy : RInts w 0 w.heap.size A' n' c' at_) (_ : (Lit.int .i64 bt).wf = true) (_ : (Lit.int .i64 k).wf = true) : Calls Try.prog 5 #[.slice AP np cp, .slice A n c, .slice A' n' c', .int .i64 bt, .int .i64 k] w fun e w' => e = .returned (.bool true) ∧ Chg No w w' := by
  have hnc := hx.le; have hcm := hx.cap; have hnc2 := hy.le; have hcm2 := hy.cap; have hnc3 := hps.le; have hcm3 := hps.cap
  have HX := hid hx; have HY := hid hy; have HP := hid hps
  clear hx hy hps
  by_cases hbig : (1048576 : Int) < n'
  · go_enter Try.func5, Try.ntmps5
    go_wp2
    go_ret
    exact ⟨rfl, Chg.refl _ _⟩
  · have hb2 : n' ≤ 1048576 := by omega
    have hb3 : (n' : Int) ≤ 1048576 := by omega
    clear hbig
    go_enter Try.func5, Try.ntmps5
    (go_wp2_with fail; (with_reducible refine (szIntSS _ _ _ _ _ ps _ _ HP.out (by omega) (by omega)).mono ?_); rintro e w1 ⟨r, rfl, hc1, hr0, hr1, hr2⟩)
    by_cases hr : r < 0
    · go_wp2
      go_ret
      exact ⟨rfl, by (repeat (first | (with_reducible exact Chg.refl _ _) | ((with_reducible refine Chg.setNew ?_ _ ?_); rotate_left; first | (dsimp only; omega) | (simp; done) | (simp; omega)) | (with_reducible refine Chg.alloc ?_ _) | (with_reducible refine Chg.drew ?_) | (with_reducible refine Chg.drewN ?_ _) | (with_reducible refine Chg.no ?_ (by assumption)) | (with_reducible refine Chg.and_ ?_ (by assumption)) | ((with_reducible refine Chg.at_ ?_ (by assumption) ?_); rotate_left; (try simp only [World.size_alloc]); omega)))⟩
    · have hr' : 0 ≤ r := by omega
      obtain ⟨hln, hlv⟩ := hr2 hr'
      (go_wp2_with fail; (with_reducible refine (szItemS _ _ _ _ _ xs _ _ (HX.out.no hc1) (by omega) (by omega)).mono ?_); rintro e w2 ⟨t, rfl, hc2, ht0, ht1, ht2⟩)
      by_cases ht : t < 0
      · go_wp2
        go_ret
        exact ⟨rfl, by (repeat (first | (with_reducible exact Chg.refl _ _) | ((with_reducible refine Chg.setNew ?_ _ ?_); rotate_left; first | (dsimp only; omega) | (simp; done) | (simp; omega)) | (with_reducible refine Chg.alloc ?_ _) | (with_reducible refine Chg.drew ?_) | (with_reducible refine Chg.drewN ?_ _) | (with_reducible refine Chg.no ?_ (by assumption)) | (with_reducible refine Chg.and_ ?_ (by assumption)) | ((with_reducible refine Chg.at_ ?_ (by assumption) ?_); rotate_left; (try simp only [World.size_alloc]); omega)))⟩
      · have ht' : 0 ≤ t := by omega
        obtain ⟨hln2, hlv2⟩ := ht2 ht'
        have hnp : np ≤ 1048576 := by have := HP.out.len; omega
        have hn : n ≤ 1048576 := by have := HX.out.len; omega
        have HPV := hid (show ∀ x ∈ ps, x.length ≤ 1048576 from fun x hx => by have := hlv x hx; omega)
        have HV := hid (show ∀ x ∈ xs, x.vec.length ≤ 1048576 from fun x hx => by have := hlv2 x hx; omega)
        have q2 : Chg No w w2 := hc1.no hc2
        have TP := hid (fun W (h : RRows W 0 w.heap.size AP np cp ps) => toIntSS 0 w.heap.size AP np cp ps W h hnp HPV.out)
        have TI := hid (fun W (h : RItems W 0 w.heap.size A n c xs) => toItemS 0 w.heap.size A n c xs W h hn HV.out)
        have TV := hid (fun W (h : RInts W 0 w.heap.size A' n' c' at_) => toIntS 0 w.heap.size A' n' c' at_ W h hb2)
        obtain ⟨L, hL⟩ : ∃ L, HnearF ps xs at_ bt k = L := ⟨_, rfl⟩
        have KS := hid (fun W lp hp AP np cp l0 h0 A n c l1 h1 A' n' c' (h1' : RRows W lp hp AP np cp ps) (h2' : RItems W l0 h0 A n c xs) (h3' : RInts W l1 h1 A' n' c' at_) => sHashNearest lp hp AP np cp ps l0 h0 A n c xs l1 h1 A' n' c' at_ bt k W h1' h2' h3')
        have KI := hid (fun W lp hp AP np cp l0 h0 A n c l1 h1 A' n' c' (h1' : RRows W lp hp AP np cp ps) (h2' : RItems W l0 h0 A n c xs) (h3' : RInts W l1 h1 A' n' c' at_) => iHashNearest lp hp AP np cp ps l0 h0 A n c xs l1 h1 A' n' c' at_ bt k W h1' h2' h3')
        rw [hL] at KS KI
        have hLl : L.length ≤ 1000 := by
          rw [← hL]; unfold HnearF
          split
          · rename_i h9
            have h8 := storeB_len (hnOk_ok h9).can.store
            have h7 := (bucketL_sub ps xs at_ bt).length_le
            rw [nearestF_length]; omega
          · simp
        have hcx := costI_le HV.out
        have hcx0 := costI_nonneg xs
        have hcp := costR_le HPV.out
        have hcp0 := costR_nonneg ps
        have hxl : xs.length ≤ 1048576 := by omega
        have hpl : ps.length ≤ 1048576 := by omega
        have hcx2 : costI xs ≤ 100000000000000 := by
          have : (xs.length : Int) * (2 + ((1048576 : Nat) : Int)) ≤ 1048576 * 1048578 := Int.mul_le_mul (by omega) (by omega) (by omega) (by omega)
          omega
        have hcp2 : costR ps ≤ 100000000000000 := by
          have : (ps.length : Int) * ((1048576 : Nat) : Int) ≤ 1048576 * 1048576 := Int.mul_le_mul (by omega) (by omega) (by omega) (by omega)
          omega
        have hal : at_.length = n' := HY.out.len
        have hal2 : at_.length ≤ 1048576 := by omega
        have s2 := q2.size
        clear hr hr2 hln hlv hL hcx hcp hxl hpl hr0 hr1 ht ht0 ht1 ht2 hln2 hlv2 hal
        (go_wp2_with fail; (with_reducible refine (TP.out _ (HP.out.no q2)).mono ?_); rintro e w3 ⟨v3, rfl, ho3, hc3⟩)
        have q3 := q2.no hc3
        (go_wp2_with fail; (with_reducible refine (TI.out _ (HX.out.no q3)).mono ?_); rintro e w4 ⟨v4, rfl, ho4, hc4⟩)
        have q4 := q3.no hc4
        (go_wp2_with fail; (with_reducible refine (TV.out _ (HY.out.no q4)).mono ?_); rintro e w5 ⟨v5, rfl, ho5, hc5⟩)
        have q5 := q4.no hc5
        obtain ⟨A3, c3, hv3, hr3⟩ := ORowsR.read ho3.r
        subst hv3
        obtain ⟨A4, c4, hv4, hr4⟩ := OItemsR.read ho4.r
        subst hv4
        obtain ⟨A5, c5, rfl, ht5⟩ := OInts.typed ho5
        have hp3 := hr3.cap; have hp4 := hr4.cap; have hp5 := ht5.1.cap
        have hl3 := hr3.le; have hl4 := hr4.le; have hl5 := ht5.1.le
        have R3 := hid hr3; have R4 := hid hr4; have R5 := hid ht5
        have O3 := hid ho3.r; have O4 := hid ho4.r
        have s3 := hc3.size; have s4 := hc4.size; have s5 := hc5.size
        clear hr3 hr4 ht5 ho3 ho4 ho5
        (go_wp2_with fail; (with_reducible refine (KS.out _ _ _ _ _ _ _ _ _ _ _ _ _ _ _ _ ((R3.out.no hc4).no hc5) (R4.out.no hc5) R5.out.r).mono ?_); rintro e w6 ⟨v6, rfl, ho6, hc6⟩)
        obtain ⟨A6, c6, rfl, hr6⟩ := OHits.read ho6
        have W6 := hid (hr6.wide (lo' := 0) (Nat.zero_le _) (Nat.le_refl _))
        have hp6 := hr6.cap; have hl6 := hr6.le
        have q6 := q5.no hc6
        have s6 := hc6.size
        clear ho6 hr6
        (go_wp2_with fail; (with_reducible refine (TP.out _ (HP.out.no q6)).mono ?_); rintro e w7 ⟨v7, rfl, ho7, hc7⟩)
        have q7 := q6.no hc7
        (go_wp2_with fail; (with_reducible refine (TI.out _ (HX.out.no q7)).mono ?_); rintro e w8 ⟨v8, rfl, ho8, hc8⟩)
        have q8 := q7.no hc8
        (go_wp2_with fail; (with_reducible refine (TV.out _ (HY.out.no q8)).mono ?_); rintro e w9 ⟨v9, rfl, ho9, hc9⟩)
        have q9 := q8.no hc9
        obtain ⟨A7, c7, hv7, hr7⟩ := ORowsR.read ho7.r
        subst hv7
        obtain ⟨A8, c8, hv8, hr8⟩ := OItemsR.read ho8.r
        subst hv8
        obtain ⟨A9, c9, rfl, ht9⟩ := OInts.typed ho9
        have hp7 := hr7.cap; have hp8 := hr8.cap; have hp9 := ht9.1.cap
        have hl7 := hr7.le; have hl8 := hr8.le; have hl9 := ht9.1.le
        have R7 := hid hr7; have R8 := hid hr8; have R9 := hid ht9
        have O7 := hid ho7.r; have O8 := hid ho8.r
        have s7 := hc7.size; have s8 := hc8.size; have s9 := hc9.size
        clear hr7 hr8 ht9 ho7 ho8 ho9
        (go_wp2_with fail; (with_reducible refine (KI.out _ _ _ _ _ _ _ _ _ _ _ _ _ _ _ _ ((R7.out.no hc8).no hc9) (R8.out.no hc9) R9.out.r).mono ?_); rintro e w10 ⟨v10, rfl, ho10, hc10⟩)
        obtain ⟨A10, c10, rfl, hr10⟩ := OHits.read ho10
        have R10 := hid hr10; have G10 := hid ho10; have B10 := hid (OSl.own_lt ho10)
        have hp10 := hr10.cap; have hl10 := hr10.le
        have q10 := q9.no hc10
        have s10 := hc10.size
        have d69 : Chg No w6 w10 := ((hc7.no hc8).no hc9).no hc10
        clear ho10 hr10
        (go_wp2_with fail; (with_reducible refine (eqHitS _ _ _ _ _ _ _ _ _ L _ R10.out (W6.out.no d69)).mono ?_); rintro e w11 ⟨rfl, hc11⟩)
        have q11 := q10.no hc11
        (go_wp2_with fail; (with_reducible refine (TP.out _ (HP.out.no q11)).mono ?_); rintro e w12 ⟨v12, rfl, ho12, hc12⟩)
        obtain ⟨A12, c12, hv12, hr12⟩ := ORowsR.read ho12.r
        subst hv12
        have hp12 := hr12.cap; have hl12 := hr12.le
        have R12 := hid hr12
        have q12 := q11.no hc12
        have d7 : Chg No w7 w12 := (((hc8.no hc9).no hc10).no hc11).no hc12
        clear ho12 hr12
        (go_wp2_with fail; (with_reducible refine (eqIntSS _ _ _ _ _ _ _ _ _ ps _ (R7.out.no d7) R12.out).mono ?_); rintro e w13 ⟨rfl, hc13⟩)
        have q13 := q12.no hc13
        (go_wp2_with fail; (with_reducible refine (TI.out _ (HX.out.no q13)).mono ?_); rintro e w14 ⟨v14, rfl, ho14, hc14⟩)
        obtain ⟨A14, c14, hv14, hr14⟩ := OItemsR.read ho14.r
        subst hv14
        have hp14 := hr14.cap; have hl14 := hr14.le
        have R14 := hid hr14
        have q14 := q13.no hc14
        have d8 : Chg No w8 w14 := ((((hc9.no hc10).no hc11).no hc12).no hc13).no hc14
        clear ho14 hr14
        (go_wp2_with fail; (with_reducible refine (eqItemS _ _ _ _ _ _ _ _ _ xs _ (R8.out.no d8) R14.out).mono ?_); rintro e w15 ⟨rfl, hc15⟩)
        have q15 := q14.no hc15
        (go_wp2_with fail; (with_reducible refine (TV.out _ (HY.out.no q15)).mono ?_); rintro e w16 ⟨v16, rfl, ho16, hc16⟩)
        obtain ⟨A16, c16, rfl, ht16⟩ := OInts.typed ho16
        have hp16 := ht16.1.cap; have hl16 := ht16.1.le
        have R16 := hid ht16.1
        have q16 := q15.no hc16
        have d9 : Chg No w9 w16 := (((((hc10.no hc11).no hc12).no hc13).no hc14).no hc15).no hc16
        clear ho16 ht16
        (go_wp2_with fail; (with_reducible refine (eqIntS _ _ _ _ _ _ _ _ _ at_ _ (R9.out.r.no d9) R16.out).mono ?_); rintro e w17 ⟨rfl, hc17⟩)
        have q17 := q16.no hc17
        have d9' : Chg No w9 w17 := d9.no hc17
        have d8' : Chg No w8 w17 := hc9.no d9'
        have d7' : Chg No w7 w17 := hc8.no d8'
        have d10 : Chg No w10 w17 := (((((hc11.no hc12).no hc13).no hc14).no hc15).no hc16).no hc17
        have s17 := d9'.size
        (go_wp2_with fail; (with_reducible refine (markIntSS _ _ _ _ _ ps 1 _ (O7.out.no d7') (by omega) (by omega)).mono ?_); rintro e w18 ⟨rfl, _, hc18⟩)
        have s18 := hc18.size
        (go_wp2_with fail; (with_reducible refine (markItemS _ _ _ _ _ xs _ _ ((O8.out.no d8').keep hc18 (fun k h1 h2 h3 => by omega)) (by omega) (by omega)).mono ?_); rintro e w19 ⟨rfl, _, hc19⟩)
        have s19 := hc19.size
        have T9 := hid ((((R9.out.no' d9').keep hc18 (fun k h1 h2 h3 => by omega))).keep hc19 (fun k h1 h2 h3 => by omega))
        (go_wp2_with fail; (with_reducible refine (markIntS _ _ _ _ _ at_ _ _ T9.out (by omega) (by omega)).mono ?_); rintro e w20 ⟨rfl, _, hc20'⟩)
        have hc20 := T9.out.blk (S := fun b => w8.heap.size ≤ b ∧ b < w9.heap.size) hc20' (fun k h1 h2 => ⟨h1, h2⟩)
        have s20 := hc20.size
        have R20 := hid ((((R10.out.no d10).keep hc18 (fun k h1 h2 h3 => by omega)).keep hc19 (fun k h1 h2 h3 => by omega)).keep hc20 (fun k h1 h2 h3 => by omega))
        have G20 := hid (show OHits w20 w9.heap.size (.slice A10 L.length c10) L from OSl.keepR (OSl.keepR (OSl.keepR (G10.out.no d10) B10.out hc18 (fun k h1 h2 h3 => by omega)) B10.out hc19 (fun k h1 h2 h3 => by omega)) B10.out hc20 (fun k h1 h2 h3 => by omega))
        have W20 := hid (((((W6.out.no d69).no d10).keep hc18 (fun k h1 h2 h3 => by omega)).keep hc19 (fun k h1 h2 h3 => by omega)).keep hc20 (fun k h1 h2 h3 => by omega))
        have q20 : Chg No w w20 := ((q17.trans hc18 (fun i hi h => by omega)).trans hc19 (fun i hi h => by omega)).trans hc20 (fun i hi h => by omega)
        have j1 : decide (1 + costR ps + costI xs + (at_.length : Int) < 0) = false := decide_eq_false (by omega)
        (go_wp2_with fail; (with_reducible refine (eqHitS _ _ _ _ _ _ _ _ _ L _ R20.out W20.out).mono ?_); rintro e w21 ⟨rfl, hc21⟩)
        have s21 := hc21.size
        (go_wp2_with fail; (with_reducible refine (markHitS w9.heap.size w10.heap.size _ _ _ L 1 _ (G20.out.no hc21) B10.out (by omega) (by omega)).mono ?_); rintro e w22 ⟨rfl, hm22, hc22⟩)
        have s22 := hc22.size
        obtain ⟨A22, c22, hv22, hr22⟩ := OHits.read hm22
        injection hv22 with z1 z2 z3
        rw [cntH_len] at hr22
        subst z1 z3
        have M22 := hid hr22
        have W22 := hid ((W20.out.no hc21).keep hc22 (fun k h1 h2 h3 => by omega))
        have q22 : Chg No w w22 := (q20.no hc21).trans hc22 (fun i hi h => by omega)
        clear hm22 hr22 z2
        (go_wp2_with fail; (with_reducible refine (heldHitS _ _ _ _ _ 1 _ M22.out (by omega) (by omega)).mono ?_); rintro e w23 ⟨rfl, rfl⟩)
        have j2 : decide ((1 : Int) + 2 * (L.length : Int) < 0) = false := decide_eq_false (by omega)
        have j3 : (((1 : Int) + 2 * (L.length : Int)) != ((1 : Int) + 2 * (L.length : Int))) = false := by simp
        (go_wp2_with fail; (with_reducible refine (TP.out _ (HP.out.no q22)).mono ?_); rintro e w24 ⟨v24, rfl, ho24, hc24⟩)
        have q24 := q22.no hc24
        (go_wp2_with fail; (with_reducible refine (TI.out _ (HX.out.no q24)).mono ?_); rintro e w25 ⟨v25, rfl, ho25, hc25⟩)
        have q25 := q24.no hc25
        (go_wp2_with fail; (with_reducible refine (TV.out _ (HY.out.no q25)).mono ?_); rintro e w26 ⟨v26, rfl, ho26, hc26⟩)
        have q26 := q25.no hc26
        obtain ⟨A24, c24, hv24, hr24⟩ := ORowsR.read ho24.r
        subst hv24
        obtain ⟨A25, c25, hv25, hr25⟩ := OItemsR.read ho25.r
        subst hv25
        obtain ⟨A26, c26, rfl, ht26⟩ := OInts.typed ho26
        have hp24 := hr24.cap; have hp25 := hr25.cap; have hp26 := ht26.1.cap
        have hl24 := hr24.le; have hl25 := hr25.le; have hl26 := ht26.1.le
        have R24 := hid hr24; have R25 := hid hr25; have R26 := hid ht26
        have O24 := hid ho24.r; have O25 := hid ho25.r
        have s24 := hc24.size; have s25 := hc25.size; have s26 := hc26.size
        clear hr24 hr25 ht26 ho24 ho25 ho26
        (go_wp2_with fail; (with_reducible refine (KI.out _ _ _ _ _ _ _ _ _ _ _ _ _ _ _ _ ((R24.out.no hc25).no hc26) (R25.out.no hc26) R26.out.r).mono ?_); rintro e w27 ⟨v27, rfl, ho27, hc27⟩)
        obtain ⟨A27, c27, rfl, hr27⟩ := OHits.read ho27
        have H27 := hid hr27
        have hp27 := hr27.cap; have hl27 := hr27.le
        have q27 := q26.no hc27
        have d22 : Chg No w22 w27 := ((hc24.no hc25).no hc26).no hc27
        clear ho27 hr27
        (go_wp2_with fail; (with_reducible refine (eqHitS _ _ _ _ _ _ _ _ _ L _ H27.out (W22.out.no d22)).mono ?_); rintro e w28 ⟨rfl, hc28⟩)
        (go_wp2_with fail; (with_reducible refine (heldHitS _ _ _ _ _ 1 _ (M22.out.no (d22.no hc28)) (by omega) (by omega)).mono ?_); rintro e w29 ⟨rfl, rfl⟩)
        go_wp2
        go_ret
        exact ⟨rfl, q27.no hc28⟩

set_option maxRecDepth 100000 in
theorem lifted (os : Os) (started : os.Started) (H : Type) (enc : TypeId × Value → H) :
    ReturnsInHanded {} Try.checked os 5 .any (Rows.fnExactHashNearestSpec.pre6 enc Try.prog Try.f5 Rows.fnExactHashNearestRow.domain false) (Rows.fnExactHashNearestSpec.post enc Try.prog Try.f5 false true false false) := by
  refine returnsInHanded_of_change (C := Try.checked) own started (by kernel_rfl) Try.func5
    (ChangeSpec.witness6 (enc := enc) (C := Try.checked) false ⟨#[], #[.slice none 0 0, .slice none 0 0, .slice none 0 0, .int .i64 0, .int .i64 0], []⟩ 8 (by kernel_rfl) (by kernel_rfl) (by kernel_rfl) (by kernel_rfl)) ?_
  intro W base args ds gs before hval0 hW hcnd _
  have hval : ∀ (j : Nat) t v, Try.f5.params[j]? = some t → args[j]? = some v → Value.okWide Try.prog W .any base t v := hval0
  have hW' := hW
  obtain ⟨p, q, hA0, hV, rfl, hfz, hnd⟩ := hW
  have hA : DataW.TrodAll enc Try.prog W 0 (fun _ => true) true Try.f5.params.toList args.toList ds p := hA0
  rw [Try.params5] at hA hval
  obtain ⟨v0, vs0, d0, ds0, p0, q0, hargs, rfl, rfl, h0, r0⟩ := trodAll_cons hA
  obtain ⟨v1, vs1, d1, ds1, p1, q1, rfl, rfl, rfl, h1, r1⟩ := trodAll_cons r0
  obtain ⟨v2, vs2, d2, ds2, p2, q2, rfl, rfl, rfl, h2, r2⟩ := trodAll_cons r1
  obtain ⟨v3, vs3, d3, ds3, p3, q3, rfl, rfl, rfl, h3, r3⟩ := trodAll_cons r2
  obtain ⟨v4, vs4, d4, ds4, p4, q4, rfl, rfl, rfl, h4, r4⟩ := trodAll_cons r3
  obtain ⟨rfl, rfl, rfl⟩ := trodAll_nil r4
  obtain rfl : args = #[v0, v1, v2, v3, v4] := by cases args; simp_all
  obtain ⟨rfl, rfl⟩ := trodVars_none hV
  have k0 := h0
  have lt0 : ∀ x ∈ p0, x.block < W.heap.size := by obtain ⟨m, hm⟩ := k0; exact DataW.trod_lt m _ _ _ hm
  have k1 := h1
  have lt1 : ∀ x ∈ p1, x.block < W.heap.size := by obtain ⟨m, hm⟩ := k1; exact DataW.trod_lt m _ _ _ hm
  have k2 := h2
  have lt2 : ∀ x ∈ p2, x.block < W.heap.size := by obtain ⟨m, hm⟩ := k2; exact DataW.trod_lt m _ _ _ hm
  have k3 := h3
  have lt3 : ∀ x ∈ p3, x.block < W.heap.size := by obtain ⟨m, hm⟩ := k3; exact DataW.trod_lt m _ _ _ hm
  have k4 := h4
  have lt4 : ∀ x ∈ p4, x.block < W.heap.size := by obtain ⟨m, hm⟩ := k4; exact DataW.trod_lt m _ _ _ hm
  obtain ⟨a0, n0, c0, x0, rfl, w0⟩ := open_rows (hval 0 23 v0 rfl rfl) h0
  obtain ⟨a1, n1, c1, x1, rfl, w1⟩ := open_items (hval 1 47 v1 rfl rfl) h1
  obtain ⟨a2, n2, c2, x2, rfl, w2⟩ := open_intS (hval 2 27 v2 rfl rfl) h2
  obtain ⟨a3, rfl, _, _, w3⟩ := open_int Try.underlying3 (hval 3 3 v3 rfl rfl) h3
  obtain ⟨a4, rfl, _, _, w4⟩ := open_int Try.underlying3 (hval 4 3 v4 rfl rfl) h4
  clear hA0 hval0
  refine (walk a0 n0 c0 x0 a1 n1 c1 x1 a2 n2 c2 x2 a3 a4 W w0 w1 w2 w3 w4).mono fun e W' ⟨he, bel0⟩ => ?_
  have bel := bel0.below
  subst he
  exact ⟨_, rfl, _, _, _, [], _, [], hW', trodAll_mk1 (shut_bool Try.underlying4 _), (trodAll_cons_mk (Below.trod laidOut (by kernel_rfl) (of_decide_eq_true (by kernel_rfl)) k0 bel lt0) (trodAll_cons_mk (Below.trod laidOut (by kernel_rfl) (of_decide_eq_true (by kernel_rfl)) k1 bel lt1) (trodAll_cons_mk (Below.trod laidOut (by kernel_rfl) (of_decide_eq_true (by kernel_rfl)) k2 bel lt2) (trodAll_cons_mk (Below.trod laidOut (by kernel_rfl) (of_decide_eq_true (by kernel_rfl)) k3 bel lt3) (trodAll_cons_mk (Below.trod laidOut (by kernel_rfl) (of_decide_eq_true (by kernel_rfl)) k4 bel lt4) trodAll_mk0))))), rfl, bel.frame _, fun h => by cases h⟩

theorem over : Rows.fnExactHashNearestRow.holds Try.pinned (OpenSpec.ofChange Rows.fnExactHashNearestSpec) :=
  OpenClaim.holds_of_wide 5 Try.f5 rfl rfl rfl rfl rfl rfl rfl ⟨rfl, rfl, rfl, rfl, rfl⟩ rfl rfl rfl rfl rfl (by kernel_rfl) Try.func5 (by kernel_rfl)
    (of_decide_eq_true (by kernel_rfl)) (by unfold Func.isWrapper; first | (rw [if_pos (by decide +kernel)]; kernel_rfl) | (rw [if_neg (by decide +kernel)]; exact ⟨rfl, rfl⟩))
    (fun os started H enc _ => lifted os started H enc)

theorem proved : Rows.FnExactHashNearestSaid := over
#print axioms proved

end lawExactHashNearest
end Go.Proofs.Ytifdcdpdihfbjaa
