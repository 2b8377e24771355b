/- FnExactFilterNearest: the program's FilterNearest answers as the reference's, and its answer's memory is its own. No condition. -/
import Derived.Test.YtkglmhhihpofiaaLift2
import Derived.Test.YtkglmhhihpofiaaLawI
import Derived.Test.YtkglmhhihpofiaaLawH
import Derived.Test.YtkglmhhihpofiaaNearK
import Derived.Deep.RegionHeld3
import Derived.Deep.DeepCutAuto
namespace Go.Proofs.Ytkglmhhihpofiaa
open Go.ChangeShapes Go.WideShapes Go.ChangeAt Go.RowKit Go.Shelf
set_option linter.unusedVariables false
set_option linter.unusedSimpArgs false
namespace lawExactFilterNearest
set_option maxRecDepth 100000 in
set_option maxHeartbeats 8000000 in
theorem walk (A : Option Addr) (n c : Nat) (xs : List It) (fa fb fc kind : Int) (A' : Option Addr) (n' c' : Nat) (at_ : List Int) (k : Int) (w : World)
    (hx : RItems w 0 w.heap.size A n c xs) (_ : (Lit.int .i64 kind).wf = true) (hy : RInts w 0 w.heap.size A' n' c' at_) (_ : (Lit.int .i64 k).wf = true) : Calls Try.prog 4 #[.slice A n c, .agg #[.int .i64 fa, .int .i64 fb, .int .i64 fc], .int .i64 kind, .slice A' n' c', .int .i64 k] w fun e w' => e = .returned (.bool true) ∧ Chg No w w' := by
  have hnc := hx.le; have hcm := hx.cap; have hnc2 := hy.le; have hcm2 := hy.cap
  have HX := hid hx; have HY := hid hy
  have HB := hid (Box.new (w := w) [.int .i64 fa, .int .i64 fb, .int .i64 fc] 34 rfl)
  clear hx hy
  by_cases hbig : (1048576 : Int) < n'
  · go_enter Try.func4, Try.ntmps4
    go_wp2
    go_ret
    exact ⟨rfl, by (repeat (first | (with_reducible exact Chg.refl _ _) | ((with_reducible refine Chg.setNew ?_ _ ?_); rotate_left; first | (dsimp only; omega) | (simp; done) | (simp; omega)) | (with_reducible refine Chg.alloc ?_ _) | (with_reducible refine Chg.drew ?_) | (with_reducible refine Chg.drewN ?_ _) | (with_reducible refine Chg.no ?_ (by assumption)) | (with_reducible refine Chg.and_ ?_ (by assumption)) | ((with_reducible refine Chg.at_ ?_ (by assumption) ?_); rotate_left; (try simp only [World.size_alloc]); omega)))⟩
  · have hb2 : n' ≤ 1048576 := by omega
    have hb3 : (n' : Int) ≤ 1048576 := by omega
    clear hbig
    go_enter Try.func4, Try.ntmps4
    (go_wp2_with fail; (with_reducible refine (szItemS _ _ _ _ _ xs _ _ (HX.out.no (by (repeat (first | (with_reducible exact Chg.refl _ _) | ((with_reducible refine Chg.setNew ?_ _ ?_); rotate_left; first | (dsimp only; omega) | (simp; done) | (simp; omega)) | (with_reducible refine Chg.alloc ?_ _) | (with_reducible refine Chg.drew ?_) | (with_reducible refine Chg.drewN ?_ _) | (with_reducible refine Chg.no ?_ (by assumption)) | (with_reducible refine Chg.and_ ?_ (by assumption)) | ((with_reducible refine Chg.at_ ?_ (by assumption) ?_); rotate_left; (try simp only [World.size_alloc]); omega))))) (by omega) (by omega)).mono ?_); rintro e w1 ⟨r, rfl, hc1, hr0, hr1, hr2⟩)
    by_cases hr : r < 0
    · go_wp2
      go_ret
      exact ⟨rfl, by (repeat (first | (with_reducible exact Chg.refl _ _) | ((with_reducible refine Chg.setNew ?_ _ ?_); rotate_left; first | (dsimp only; omega) | (simp; done) | (simp; omega)) | (with_reducible refine Chg.alloc ?_ _) | (with_reducible refine Chg.drew ?_) | (with_reducible refine Chg.drewN ?_ _) | (with_reducible refine Chg.no ?_ (by assumption)) | (with_reducible refine Chg.and_ ?_ (by assumption)) | ((with_reducible refine Chg.at_ ?_ (by assumption) ?_); rotate_left; (try simp only [World.size_alloc]); omega)))⟩
    · have hr' : 0 ≤ r := by omega
      obtain ⟨hln, hlv⟩ := hr2 hr'
      have hn : n ≤ 1048576 := by have := HX.out.len; omega
      have HV := hid (show ∀ x ∈ xs, x.vec.length ≤ 1048576 from fun x hx => by have := hlv x hx; omega)
      have hcw1 : Chg No w w1 := by (repeat (first | (with_reducible exact Chg.refl _ _) | ((with_reducible refine Chg.setNew ?_ _ ?_); rotate_left; first | (dsimp only; omega) | (simp; done) | (simp; omega)) | (with_reducible refine Chg.alloc ?_ _) | (with_reducible refine Chg.drew ?_) | (with_reducible refine Chg.drewN ?_ _) | (with_reducible refine Chg.no ?_ (by assumption)) | (with_reducible refine Chg.and_ ?_ (by assumption)) | ((with_reducible refine Chg.at_ ?_ (by assumption) ?_); rotate_left; (try simp only [World.size_alloc]); omega)))
      obtain ⟨L, hL⟩ : ∃ L, FnearF xs fa fb fc kind at_ k = L := ⟨_, rfl⟩
      have KS := hid (fun W l0 h0 A n c l1 h1 A' n' c' (h : RItems W l0 h0 A n c xs) (h2 : RInts W l1 h1 A' n' c' at_) => sFilterNearest l0 h0 A n c xs fa fb fc l1 h1 A' n' c' at_ kind k W h h2)
      have KI := hid (fun W l0 h0 A n c l1 h1 A' n' c' (h : RItems W l0 h0 A n c xs) (h2 : RInts W l1 h1 A' n' c' at_) => iFilterNearest l0 h0 A n c xs fa fb fc l1 h1 A' n' c' at_ kind k W h h2)
      have KT := hid (fun W (h : RItems W 0 w.heap.size A n c xs) => toItemS 0 w.heap.size A n c xs W h hn HV.out)
      have KV := hid (fun W (h : RInts W 0 w.heap.size A' n' c' at_) => toIntS 0 w.heap.size A' n' c' at_ W h hb2)
      have hLl : L.length ≤ 1000 := by
        rw [← hL]; unfold FnearF
        split
        · rename_i h9
          rw [Bool.and_eq_true] at h9
          have h8 := storeB_len (canB_can h9.1).1.store
          have h7 := List.length_filter_le (fun x : It => passB fa fb fc x.tags) xs
          rw [nearestF_length]
          omega
        · simp
      have hcx := costI_le HV.out
      have hcx0 := costI_nonneg xs
      have hxl : xs.length ≤ 1048576 := by omega
      have hcx2 : costI xs ≤ 100000000000000 := by
        have : (xs.length : Int) * (2 + ((1048576 : Nat) : Int)) ≤ 1048576 * 1048578 := Int.mul_le_mul (by omega) (by omega) (by omega) (by omega)
        omega
      rw [hL] at KS KI
      have hal : at_.length = n' := HY.out.len
      have hal2 : at_.length ≤ 1048576 := by omega
      have B1 := hid (HB.out.no hc1)
      have s1 := hcw1.size
      have z1 := B1.out.lt
      have q1 := B1.out.f3
      have HX1 := hid (HX.out.no hcw1); have HY1 := hid (HY.out.no hcw1)
      clear hr hr2 hln hlv hL hcx hxl hr0 hr1 hal
      go_wp2_with fail
      go_cut [12] (fun s6 wx => ∃ (A6 : Option Addr) (c6 : Nat), s6 = .slice A6 L.length c6 ∧ Chg No w1 wx ∧ Hid (RHits wx 0 wx.heap.size A6 L.length c6 L))
      case first =>
        go_region_held3 (fun w' => w'.cell? ⟨w.heap.size, 0, none⟩ = some (.int .i64 fa) ∧ w'.cell? ⟨w.heap.size, 1, none⟩ = some (.int .i64 fb) ∧ w'.cell? ⟨w.heap.size, 2, none⟩ = some (.int .i64 fc))
                        (first | go_keep | (go_split_ands; refine ⟨?_, ?_, ?_⟩ <;> exact cell_keep (by assumption) (by assumption) (fun e => e)))
                  (first | (go_at_call 18; (with_reducible refine (KT.out _ (HX1.out.no (by (repeat (first | (with_reducible exact Chg.refl _ _) | ((with_reducible refine Chg.setNew ?_ _ ?_); rotate_left; first | (dsimp only; omega) | (simp; done) | (simp; omega)) | (with_reducible refine Chg.alloc ?_ _) | (with_reducible refine Chg.drew ?_) | (with_reducible refine Chg.drewN ?_ _) | (with_reducible refine Chg.no ?_ (by assumption)) | (with_reducible refine Chg.and_ ?_ (by assumption)) | ((with_reducible refine Chg.at_ ?_ (by assumption) ?_); rotate_left; (try simp only [World.size_alloc]); omega)))))).mono ?_); rintro e wt ⟨vt, rfl, hot, hct⟩; obtain ⟨At, ct, rfl, hrt⟩ := OItems.read hot.plain; have hmt := hrt.cap; have hkt := hrt.le) | (go_at_call 19; (with_reducible refine (toFilter _ _ _ _).mono ?_); rintro e wf ⟨rfl, hcf⟩) | (go_at_call 20; (with_reducible refine (KV.out _ (HY1.out.no (by (repeat (first | (with_reducible exact Chg.refl _ _) | ((with_reducible refine Chg.setNew ?_ _ ?_); rotate_left; first | (dsimp only; omega) | (simp; done) | (simp; omega)) | (with_reducible refine Chg.alloc ?_ _) | (with_reducible refine Chg.drew ?_) | (with_reducible refine Chg.drewN ?_ _) | (with_reducible refine Chg.no ?_ (by assumption)) | (with_reducible refine Chg.and_ ?_ (by assumption)) | ((with_reducible refine Chg.at_ ?_ (by assumption) ?_); rotate_left; (try simp only [World.size_alloc]); omega)))))).mono ?_); rintro e wv ⟨vv, rfl, hov, hcv⟩; obtain ⟨Av, cv, rfl, hrv⟩ := OInts.read hov; have hmv := hrv.cap; have hkv := hrv.le) | (go_at_call 17; (with_reducible refine (KS.out _ _ _ _ _ _ _ _ _ _ _ (hrt.no (by (repeat (first | (with_reducible exact Chg.refl _ _) | ((with_reducible refine Chg.setNew ?_ _ ?_); rotate_left; first | (dsimp only; omega) | (simp; done) | (simp; omega)) | (with_reducible refine Chg.alloc ?_ _) | (with_reducible refine Chg.drew ?_) | (with_reducible refine Chg.drewN ?_ _) | (with_reducible refine Chg.no ?_ (by assumption)) | (with_reducible refine Chg.and_ ?_ (by assumption)) | ((with_reducible refine Chg.at_ ?_ (by assumption) ?_); rotate_left; (try simp only [World.size_alloc]); omega))))) (hrv.no (by (repeat (first | (with_reducible exact Chg.refl _ _) | ((with_reducible refine Chg.setNew ?_ _ ?_); rotate_left; first | (dsimp only; omega) | (simp; done) | (simp; omega)) | (with_reducible refine Chg.alloc ?_ _) | (with_reducible refine Chg.drew ?_) | (with_reducible refine Chg.drewN ?_ _) | (with_reducible refine Chg.no ?_ (by assumption)) | (with_reducible refine Chg.and_ ?_ (by assumption)) | ((with_reducible refine Chg.at_ ?_ (by assumption) ?_); rotate_left; (try simp only [World.size_alloc]); omega)))))).mono ?_); rintro e ws ⟨vs, rfl, hos, hcs⟩; obtain ⟨As, cs, rfl, hrs⟩ := OHits.read hos))
        all_goals
          go_wp2_with fail
          go_meet
          refine ⟨_, _, rfl, by (repeat (first | (with_reducible exact Chg.refl _ _) | ((with_reducible refine Chg.setNew ?_ _ ?_); rotate_left; first | (dsimp only; omega) | (simp; done) | (simp; omega)) | (with_reducible refine Chg.alloc ?_ _) | (with_reducible refine Chg.drew ?_) | (with_reducible refine Chg.drewN ?_ _) | (with_reducible refine Chg.no ?_ (by assumption)) | (with_reducible refine Chg.and_ ?_ (by assumption)) | ((with_reducible refine Chg.at_ ?_ (by assumption) ?_); rotate_left; (try simp only [World.size_alloc]); omega))), ?_⟩
          exact hrs.wide (Nat.zero_le _) (Nat.le_refl _)
      case rest =>
        obtain ⟨A6, c6, rfl, hc2, W2⟩ := hcut
        obtain ⟨w2, rfl⟩ : ∃ W : World, W = wc := ⟨_, rfl⟩
        have q2' : Chg No w w2 := hcw1.no hc2
        have s2 := q2'.size
        have s2x := hc2.size
        have zB := z1
        have hp6 := W2.out.cap; have hl6 := W2.out.le
        (go_wp2_with fail; (with_reducible refine (KT.out _ (HX.out.no q2')).mono ?_); rintro e w3 ⟨v3, rfl, ho3, hc3⟩)
        obtain ⟨A3, c3, hv3, hr3⟩ := OItemsR.read ho3.r
        subst hv3
        have O3 := hid ho3.r
        have hp3 := hr3.cap; have hl3 := hr3.le
        have R3 := hid hr3
        have s3 := hc3.size
        have q3' := q2'.no hc3
        clear ho3 hr3
        (go_wp2_with fail; (with_reducible refine (KV.out _ (HY.out.no q3')).mono ?_); rintro e w4 ⟨v4, rfl, ho4, hc4⟩)
        obtain ⟨A4, c4, rfl, ht4⟩ := OInts.typed ho4
        have hp4 := ht4.1.cap; have hl4 := ht4.1.le
        have T4 := hid ht4
        have s4 := hc4.size
        have q4' := q3'.no hc4
        have b4 := (B1.out.no ((hc2.no hc3).no hc4)).f3
        clear ho4 ht4
        (go_wp2_with fail; (with_reducible refine (toFilter _ _ _ _).mono ?_); rintro e w5 ⟨rfl, hc5⟩)
        have s5 := hc5.size
        have q5' := q4'.no hc5
        (go_wp2_with fail; (with_reducible refine (KI.out _ _ _ _ _ _ _ _ _ _ _ (R3.out.no (hc4.no hc5)) (T4.out.r.no hc5)).mono ?_); rintro e w6 ⟨v6, rfl, ho6, hc6⟩)
        obtain ⟨A7, c7, rfl, hr6⟩ := OHits.read ho6
        have hp7 := hr6.cap; have hl7 := hr6.le
        have R6 := hid hr6; have O6 := hid ho6; have B6 := hid (OSl.own_lt ho6)
        have s6 := hc6.size
        have q6' := q5'.no hc6
        have d26 : Chg No w2 w6 := ((hc3.no hc4).no hc5).no hc6
        clear ho6 hr6
        (go_wp2_with fail; (with_reducible refine (eqHitS _ _ _ _ _ _ _ _ _ L _ R6.out (W2.out.no d26)).mono ?_); rintro e w7 ⟨rfl, hc7⟩)
        have q7' := q6'.no hc7
        (go_wp2_with fail; (with_reducible refine (KT.out _ (HX.out.no q7')).mono ?_); rintro e w8 ⟨v8, rfl, ho8, hc8⟩)
        obtain ⟨A8, c8, hv8, hr8⟩ := OItems.read ho8.plain
        subst hv8
        have hp8 := hr8.cap; have hl8 := hr8.le
        have R8 := hid hr8
        have q8' := q7'.no hc8
        have d38 : Chg No w3 w8 := ((((hc4.no hc5).no hc6).no hc7).no hc8)
        clear ho8 hr8
        (go_wp2_with fail; (with_reducible refine (eqItemS _ _ _ _ _ _ _ _ _ xs _ (R3.out.no d38) R8.out).mono ?_); rintro e w9 ⟨rfl, hc9⟩)
        have q9' := q8'.no hc9
        (go_wp2_with fail; (with_reducible refine (KV.out _ (HY.out.no q9')).mono ?_); rintro e w10 ⟨v10, rfl, ho10, hc10⟩)
        obtain ⟨A10, c10, rfl, hr10⟩ := OInts.read ho10
        have hp10 := hr10.cap; have hl10 := hr10.le
        have R10 := hid hr10
        have q10' := q9'.no hc10
        have d410 : Chg No w4 w10 := (((((hc5.no hc6).no hc7).no hc8).no hc9).no hc10)
        clear ho10 hr10
        (go_wp2_with fail; (with_reducible refine (eqIntS _ _ _ _ _ _ _ _ _ at_ _ (T4.out.r.no d410) R10.out).mono ?_); rintro e w11 ⟨rfl, hc11⟩)
        have q11' := q10'.no hc11
        have d4 : Chg No w4 w11 := d410.no hc11
        have d3 : Chg No w3 w11 := hc4.no d4
        have d6 : Chg No w6 w11 := ((((hc7.no hc8).no hc9).no hc10).no hc11)
        have d2 : Chg No w2 w11 := d26.no d6
        have s11 := d6.size
        (go_wp2_with fail; (with_reducible refine (markItemS _ _ _ _ _ xs 1 _ (O3.out.no d3) (by omega) (by omega)).mono ?_); rintro e w12 ⟨rfl, _, hc12⟩)
        have s12 := hc12.size
        have T12 := hid ((T4.out.no' d4).keep hc12 (fun k h1 h2 h3 => by omega))
        (go_wp2_with fail; (with_reducible refine (markIntS _ _ _ _ _ at_ _ _ T12.out (by omega) (by omega)).mono ?_); rintro e w13 ⟨rfl, _, hc13'⟩)
        have hc13 := T12.out.blk (S := fun b => w3.heap.size ≤ b ∧ b < w4.heap.size) hc13' (fun k h1 h2 => ⟨h1, h2⟩)
        have s13 := hc13.size
        have R13 := hid (((R6.out.no d6).keep hc12 (fun k h1 h2 h3 => by omega)).keep hc13 (fun k h1 h2 h3 => by omega))
        have W13 := hid (((W2.out.no d2).keep hc12 (fun k h1 h2 h3 => by omega)).keep hc13 (fun k h1 h2 h3 => by omega))
        have G13 := hid (show OHits w13 w5.heap.size (.slice A7 L.length c7) L from OSl.keepR (OSl.keepR (O6.out.no d6) B6.out hc12 (fun k h1 h2 h3 => by omega)) B6.out hc13 (fun k h1 h2 h3 => by omega))
        have q13' : Chg No w w13 := (q11'.trans hc12 (fun i hi h => by omega)).trans hc13 (fun i hi h => by omega)
        have B13 := hid (((B1.out.no (hc2.no d2)).keep hc12 (fun h => by omega)).keep hc13 (fun h => by omega))
        have j1 : decide (1 + costI xs + (at_.length : Int) < 0) = false := decide_eq_false (by omega)
        (go_wp2_with fail; (with_reducible refine (eqHitS _ _ _ _ _ _ _ _ _ L _ R13.out W13.out).mono ?_); rintro e w14 ⟨rfl, hc14⟩)
        have s14 := hc14.size
        (go_wp2_with fail; (with_reducible refine (markHitS w5.heap.size w6.heap.size _ _ _ L 1 _ (G13.out.no hc14) B6.out (by omega) (by omega)).mono ?_); rintro e w15 ⟨rfl, hm15, hc15⟩)
        have s15 := hc15.size
        obtain ⟨A15, c15, hv15, hr15⟩ := OHits.read hm15
        injection hv15 with z1 z2 z3
        rw [cntH_len] at hr15
        subst z1 z3
        have M15 := hid hr15
        have W15 := hid ((W13.out.no hc14).keep hc15 (fun k h1 h2 h3 => by omega))
        have B15 := hid ((B13.out.no hc14).keep hc15 (fun h => by omega))
        have q15' : Chg No w w15 := (q13'.no hc14).trans hc15 (fun i hi h => by omega)
        clear hm15 hr15 z2
        (go_wp2_with fail; (with_reducible refine (heldHitS _ _ _ _ _ 1 _ M15.out (by omega) (by omega)).mono ?_); rintro e w16 ⟨rfl, rfl⟩)
        have j3 : decide ((1 : Int) + 2 * (L.length : Int) < 0) = false := decide_eq_false (by omega)
        have j4 : (((1 : Int) + 2 * (L.length : Int)) != ((1 : Int) + 2 * (L.length : Int))) = false := by simp
        have q15f := B15.out.f3
        have z15 := B15.out.lt
        have HX15 := hid (HX.out.no q15'); have HY15 := hid (HY.out.no q15')
        have s15w := q15'.size
        go_wp2_with fail
        go_cut [19] (fun s6 wx => ∃ (A6 : Option Addr) (c6 : Nat), s6 = .slice A6 L.length c6 ∧ Chg No w15 wx ∧ Hid (RHits wx 0 wx.heap.size A6 L.length c6 L))
        case first =>
          go_region_held3 (fun w' => w'.cell? ⟨w.heap.size, 0, none⟩ = some (.int .i64 fa) ∧ w'.cell? ⟨w.heap.size, 1, none⟩ = some (.int .i64 fb) ∧ w'.cell? ⟨w.heap.size, 2, none⟩ = some (.int .i64 fc))
                          (first | go_keep | (go_split_ands; refine ⟨?_, ?_, ?_⟩ <;> exact cell_keep (by assumption) (by assumption) (fun e => e)))
                    (first | (go_at_call 18; (with_reducible refine (KT.out _ (HX15.out.no (by (repeat (first | (with_reducible exact Chg.refl _ _) | ((with_reducible refine Chg.setNew ?_ _ ?_); rotate_left; first | (dsimp only; omega) | (simp; done) | (simp; omega)) | (with_reducible refine Chg.alloc ?_ _) | (with_reducible refine Chg.drew ?_) | (with_reducible refine Chg.drewN ?_ _) | (with_reducible refine Chg.no ?_ (by assumption)) | (with_reducible refine Chg.and_ ?_ (by assumption)) | ((with_reducible refine Chg.at_ ?_ (by assumption) ?_); rotate_left; (try simp only [World.size_alloc]); omega)))))).mono ?_); rintro e wt ⟨vt, rfl, hot, hct⟩; obtain ⟨At, ct, rfl, hrt⟩ := OItems.read hot.plain; have hmt := hrt.cap; have hkt := hrt.le) | (go_at_call 19; (with_reducible refine (toFilter _ _ _ _).mono ?_); rintro e wf ⟨rfl, hcf⟩) | (go_at_call 20; (with_reducible refine (KV.out _ (HY15.out.no (by (repeat (first | (with_reducible exact Chg.refl _ _) | ((with_reducible refine Chg.setNew ?_ _ ?_); rotate_left; first | (dsimp only; omega) | (simp; done) | (simp; omega)) | (with_reducible refine Chg.alloc ?_ _) | (with_reducible refine Chg.drew ?_) | (with_reducible refine Chg.drewN ?_ _) | (with_reducible refine Chg.no ?_ (by assumption)) | (with_reducible refine Chg.and_ ?_ (by assumption)) | ((with_reducible refine Chg.at_ ?_ (by assumption) ?_); rotate_left; (try simp only [World.size_alloc]); omega)))))).mono ?_); rintro e wv ⟨vv, rfl, hov, hcv⟩; obtain ⟨Av, cv, rfl, hrv⟩ := OInts.read hov; have hmv := hrv.cap; have hkv := hrv.le) | (go_at_call 21; (with_reducible refine (KI.out _ _ _ _ _ _ _ _ _ _ _ (hrt.no (by (repeat (first | (with_reducible exact Chg.refl _ _) | ((with_reducible refine Chg.setNew ?_ _ ?_); rotate_left; first | (dsimp only; omega) | (simp; done) | (simp; omega)) | (with_reducible refine Chg.alloc ?_ _) | (with_reducible refine Chg.drew ?_) | (with_reducible refine Chg.drewN ?_ _) | (with_reducible refine Chg.no ?_ (by assumption)) | (with_reducible refine Chg.and_ ?_ (by assumption)) | ((with_reducible refine Chg.at_ ?_ (by assumption) ?_); rotate_left; (try simp only [World.size_alloc]); omega))))) (hrv.no (by (repeat (first | (with_reducible exact Chg.refl _ _) | ((with_reducible refine Chg.setNew ?_ _ ?_); rotate_left; first | (dsimp only; omega) | (simp; done) | (simp; omega)) | (with_reducible refine Chg.alloc ?_ _) | (with_reducible refine Chg.drew ?_) | (with_reducible refine Chg.drewN ?_ _) | (with_reducible refine Chg.no ?_ (by assumption)) | (with_reducible refine Chg.and_ ?_ (by assumption)) | ((with_reducible refine Chg.at_ ?_ (by assumption) ?_); rotate_left; (try simp only [World.size_alloc]); omega)))))).mono ?_); rintro e ws ⟨vs, rfl, hos, hcs⟩; obtain ⟨As, cs, rfl, hrs⟩ := OHits.read hos))
          all_goals
            go_wp2_with fail
            go_meet
            refine ⟨_, _, rfl, by (repeat (first | (with_reducible exact Chg.refl _ _) | ((with_reducible refine Chg.setNew ?_ _ ?_); rotate_left; first | (dsimp only; omega) | (simp; done) | (simp; omega)) | (with_reducible refine Chg.alloc ?_ _) | (with_reducible refine Chg.drew ?_) | (with_reducible refine Chg.drewN ?_ _) | (with_reducible refine Chg.no ?_ (by assumption)) | (with_reducible refine Chg.and_ ?_ (by assumption)) | ((with_reducible refine Chg.at_ ?_ (by assumption) ?_); rotate_left; (try simp only [World.size_alloc]); omega))), ?_⟩
            exact hrs.wide (Nat.zero_le _) (Nat.le_refl _)
        case rest =>
          obtain ⟨A17, c17, rfl, hc17, H17⟩ := hcut
          obtain ⟨w17, rfl⟩ : ∃ W : World, W = wc := ⟨_, rfl⟩
          have hp17 := H17.out.cap; have hl17 := H17.out.le
          (go_wp2_with fail; (with_reducible refine (eqHitS _ _ _ _ _ _ _ _ _ L _ H17.out (W15.out.no hc17)).mono ?_); rintro e w18 ⟨rfl, hc18⟩)
          (go_wp2_with fail; (with_reducible refine (heldHitS _ _ _ _ _ 1 _ (M15.out.no (hc17.no hc18)) (by omega) (by omega)).mono ?_); rintro e w19 ⟨rfl, rfl⟩)
          go_wp2
          go_ret
          exact ⟨rfl, (q15'.no hc17).no hc18⟩

set_option maxRecDepth 100000 in
theorem lifted (os : Os) (started : os.Started) (H : Type) (enc : TypeId × Value → H) :
    ReturnsInHanded {} Try.checked os 4 .any (Rows.fnExactFilterNearestSpec.pre6 enc Try.prog Try.f4 Rows.fnExactFilterNearestRow.domain false) (Rows.fnExactFilterNearestSpec.post enc Try.prog Try.f4 false true false false) := by
  refine returnsInHanded_of_change (C := Try.checked) own started (by kernel_rfl) Try.func4
    (ChangeSpec.witness6 (enc := enc) (C := Try.checked) false ⟨#[], #[.slice none 0 0, .agg #[.int .i64 0, .int .i64 0, .int .i64 0], .int .i64 0, .slice none 0 0, .int .i64 0], []⟩ 8 (by kernel_rfl) (by kernel_rfl) (by kernel_rfl) (by kernel_rfl)) ?_
  intro W base args ds gs before hval0 hW hcnd _
  have hval : ∀ (j : Nat) t v, Try.f4.params[j]? = some t → args[j]? = some v → Value.okWide Try.prog W .any base t v := hval0
  have hW' := hW
  obtain ⟨p, q, hA0, hV, rfl, hfz, hnd⟩ := hW
  have hA : DataW.TrodAll enc Try.prog W 0 (fun _ => true) true Try.f4.params.toList args.toList ds p := hA0
  rw [Try.params4] at hA hval
  obtain ⟨v0, vs0, d0, ds0, p0, q0, hargs, rfl, rfl, h0, r0⟩ := trodAll_cons hA
  obtain ⟨v1, vs1, d1, ds1, p1, q1, rfl, rfl, rfl, h1, r1⟩ := trodAll_cons r0
  obtain ⟨v2, vs2, d2, ds2, p2, q2, rfl, rfl, rfl, h2, r2⟩ := trodAll_cons r1
  obtain ⟨v3, vs3, d3, ds3, p3, q3, rfl, rfl, rfl, h3, r3⟩ := trodAll_cons r2
  obtain ⟨v4, vs4, d4, ds4, p4, q4, rfl, rfl, rfl, h4, r4⟩ := trodAll_cons r3
  obtain ⟨rfl, rfl, rfl⟩ := trodAll_nil r4
  obtain rfl : args = #[v0, v1, v2, v3, v4] := by cases args; simp_all
  obtain ⟨rfl, rfl⟩ := trodVars_none hV
  have k0 := h0
  have lt0 : ∀ x ∈ p0, x.block < W.heap.size := by obtain ⟨m, hm⟩ := k0; exact DataW.trod_lt m _ _ _ hm
  have k1 := h1
  have lt1 : ∀ x ∈ p1, x.block < W.heap.size := by obtain ⟨m, hm⟩ := k1; exact DataW.trod_lt m _ _ _ hm
  have k2 := h2
  have lt2 : ∀ x ∈ p2, x.block < W.heap.size := by obtain ⟨m, hm⟩ := k2; exact DataW.trod_lt m _ _ _ hm
  have k3 := h3
  have lt3 : ∀ x ∈ p3, x.block < W.heap.size := by obtain ⟨m, hm⟩ := k3; exact DataW.trod_lt m _ _ _ hm
  have k4 := h4
  have lt4 : ∀ x ∈ p4, x.block < W.heap.size := by obtain ⟨m, hm⟩ := k4; exact DataW.trod_lt m _ _ _ hm
  obtain ⟨a0, n0, c0, x0, rfl, w0⟩ := open_items (hval 0 32 v0 rfl rfl) h0
  obtain ⟨a1, b1, c1, rfl⟩ := open_filter (hval 1 34 v1 rfl rfl) h1
  obtain ⟨a2, rfl, _, _, w2⟩ := open_int Try.underlying3 (hval 2 3 v2 rfl rfl) h2
  obtain ⟨a3, n3, c3, x3, rfl, w3⟩ := open_intS (hval 3 24 v3 rfl rfl) h3
  obtain ⟨a4, rfl, _, _, w4⟩ := open_int Try.underlying3 (hval 4 3 v4 rfl rfl) h4
  clear hA0 hval0
  refine (walk a0 n0 c0 x0 a1 b1 c1 a2 a3 n3 c3 x3 a4 W w0  w2 w3 w4).mono fun e W' ⟨he, bel0⟩ => ?_
  have bel := bel0.below
  subst he
  exact ⟨_, rfl, _, _, _, [], _, [], hW', trodAll_mk1 (shut_bool Try.underlying4 _), (trodAll_cons_mk (Below.trod laidOut (by kernel_rfl) (of_decide_eq_true (by kernel_rfl)) k0 bel lt0) (trodAll_cons_mk (Below.trod laidOut (by kernel_rfl) (of_decide_eq_true (by kernel_rfl)) k1 bel lt1) (trodAll_cons_mk (Below.trod laidOut (by kernel_rfl) (of_decide_eq_true (by kernel_rfl)) k2 bel lt2) (trodAll_cons_mk (Below.trod laidOut (by kernel_rfl) (of_decide_eq_true (by kernel_rfl)) k3 bel lt3) (trodAll_cons_mk (Below.trod laidOut (by kernel_rfl) (of_decide_eq_true (by kernel_rfl)) k4 bel lt4) trodAll_mk0))))), rfl, bel.frame _, fun h => by cases h⟩

theorem over : Rows.fnExactFilterNearestRow.holds Try.pinned (OpenSpec.ofChange Rows.fnExactFilterNearestSpec) :=
  OpenClaim.holds_of_wide 4 Try.f4 rfl rfl rfl rfl rfl rfl rfl ⟨rfl, rfl, rfl, rfl, rfl⟩ rfl rfl rfl rfl rfl (by kernel_rfl) Try.func4 (by kernel_rfl)
    (of_decide_eq_true (by kernel_rfl)) (by unfold Func.isWrapper; first | (rw [if_pos (by decide +kernel)]; kernel_rfl) | (rw [if_neg (by decide +kernel)]; exact ⟨rfl, rfl⟩))
    (fun os started H enc _ => lifted os started H enc)

theorem proved : Rows.FnExactFilterNearestSaid := over
#print axioms proved

end lawExactFilterNearest
end Go.Proofs.Ytkglmhhihpofiaa
