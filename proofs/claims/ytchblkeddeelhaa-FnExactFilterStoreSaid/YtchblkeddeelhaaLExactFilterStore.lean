/- FnExactFilterStore: the program's FilterStore answers as the reference's, and its answer's memory is its own. No condition. -/
import Derived.Test.YtchblkeddeelhaaLift2
import Derived.Test.YtchblkeddeelhaaLawI
import Derived.Test.YtchblkeddeelhaaStoreG
import Derived.Test.YtchblkeddeelhaaPFilt
import Derived.Deep.RegionHeld3
import Derived.Deep.DeepCutAuto
namespace Go.Proofs.Ytchblkeddeelhaa
open Go.ChangeShapes Go.WideShapes Go.ChangeAt Go.RowKit
set_option linter.unusedVariables false
set_option linter.unusedSimpArgs false
namespace lawExactFilterStore
/-- a list of items lies somewhere in the first hi blocks -/
def At9 (w : World) (hi : Nat) (A : Option Addr) (c : Nat) (xs : List It) : Prop := RItems w 0 hi A xs.length c xs
set_option maxHeartbeats 4000000 in
theorem walk (A : Option Addr) (n c : Nat) (xs : List It) (fa fb fc : Int) (w : World) (hx : RItems w 0 w.heap.size A n c xs) : Calls Try.prog 3 #[.slice A n c, .agg #[.int .i64 fa, .int .i64 fb, .int .i64 fc]] w fun e w' => e = .returned (.bool true) ∧ Chg No w w' := by
  have hnc := hx.le; have hcm := hx.cap
  have HX := hid hx
  have HB := hid (Box.new (w := w) [.int .i64 fa, .int .i64 fb, .int .i64 fc] 24 rfl)
  clear hx
  go_enter Try.func3, Try.ntmps3
  (go_wp2_with fail; (with_reducible refine (szItemS _ _ _ _ _ xs _ _ (HX.out.no (by (repeat (first | (with_reducible exact Chg.refl _ _) | ((with_reducible refine Chg.setNew ?_ _ ?_); rotate_left; first | (dsimp only; omega) | (simp; done) | (simp; omega)) | (with_reducible refine Chg.alloc ?_ _) | (with_reducible refine Chg.drew ?_) | (with_reducible refine Chg.drewN ?_ _) | (with_reducible refine Chg.no ?_ (by assumption)) | (with_reducible refine Chg.and_ ?_ (by assumption)) | ((with_reducible refine Chg.at_ ?_ (by assumption) ?_); rotate_left; (try simp only [World.size_alloc]); omega))))) (by omega) (by omega)).mono ?_); rintro e w1 ⟨r, rfl, hc1, hr0, hr1, hr2⟩)
  by_cases hr : r < 0
  · go_wp2
    go_ret
    exact ⟨rfl, by (repeat (first | (with_reducible exact Chg.refl _ _) | ((with_reducible refine Chg.setNew ?_ _ ?_); rotate_left; first | (dsimp only; omega) | (simp; done) | (simp; omega)) | (with_reducible refine Chg.alloc ?_ _) | (with_reducible refine Chg.drew ?_) | (with_reducible refine Chg.drewN ?_ _) | (with_reducible refine Chg.no ?_ (by assumption)) | (with_reducible refine Chg.and_ ?_ (by assumption)) | ((with_reducible refine Chg.at_ ?_ (by assumption) ?_); rotate_left; (try simp only [World.size_alloc]); omega)))⟩
  · have hr' : 0 ≤ r := by omega
    obtain ⟨hln, hlv⟩ := hr2 hr'
    have hn : n ≤ 1048576 := by have := HX.out.len; omega
    have HV := hid (show ∀ x ∈ xs, x.vec.length ≤ 1048576 from fun x hx => by have := hlv x hx; omega)
    have hcw1 : Chg No w w1 := by (repeat (first | (with_reducible exact Chg.refl _ _) | ((with_reducible refine Chg.setNew ?_ _ ?_); rotate_left; first | (dsimp only; omega) | (simp; done) | (simp; omega)) | (with_reducible refine Chg.alloc ?_ _) | (with_reducible refine Chg.drew ?_) | (with_reducible refine Chg.drewN ?_ _) | (with_reducible refine Chg.no ?_ (by assumption)) | (with_reducible refine Chg.and_ ?_ (by assumption)) | ((with_reducible refine Chg.at_ ?_ (by assumption) ?_); rotate_left; (try simp only [World.size_alloc]); omega)))
    obtain ⟨L, hL⟩ : ∃ L, filtF xs fa fb fc = L := ⟨_, rfl⟩
    have KS := hid (fun W lo hi A n c (h : RItems W lo hi A n c xs) => sFilterStore lo hi A n c xs fa fb fc W h)
    have KI := hid (fun W lo hi A n c (h : RItems W lo hi A n c xs) => iFilterStoreD lo hi A n c xs fa fb fc W h)
    have KT := hid (fun W (h : RItems W 0 w.heap.size A n c xs) => toItemS 0 w.heap.size A n c xs W h hn HV.out)
    have hLl : L.length ≤ 16 := by
      rw [← hL]; unfold filtF
      split
      · rename_i h9
        rw [Bool.and_eq_true] at h9
        exact Nat.le_trans (List.length_filter_le _ _) (storeB_len h9.1)
      · simp
    have hLv : ∀ x ∈ L, x.vec.length ≤ 4 := by
      rw [← hL]; unfold filtF
      split
      · rename_i h9
        rw [Bool.and_eq_true] at h9
        intro x hx
        have := vecB_len ((itemB_iff _).1 (storeB_mem h9.1 (List.mem_filter.1 hx).1)).2.1
        omega
      · intro x hx; cases hx
    have hcL := costI_le hLv
    have hcL0 := costI_nonneg L
    have hcx := costI_le HV.out
    have hcx0 := costI_nonneg xs
    have hxl : xs.length ≤ 1048576 := by omega
    have hcL2 : costI L ≤ 1000000 := by
      have : (L.length : Int) * (2 + ((4 : Nat) : Int)) ≤ 16 * 6 := Int.mul_le_mul (by omega) (by omega) (by omega) (by omega)
      omega
    have hcx2 : 1 + costI xs ≤ 1000000000000000 := by
      have : (xs.length : Int) * (2 + ((1048576 : Nat) : Int)) ≤ 1048576 * 1048578 := Int.mul_le_mul (by omega) (by omega) (by omega) (by omega)
      omega
    rw [hL] at KS KI
    have B1 := hid (HB.out.no hc1)
    have s1 := hcw1.size
    have z1 := B1.out.lt
    have q1 := B1.out.f3
    clear hr hr2 hln hlv hL hLl hLv hcL hcx hxl hr0 hr1
    go_wp2_with fail
    go_cut [6] (fun s6 wx => ∃ (A6 : Option Addr) (c6 : Nat), s6 = .slice A6 L.length c6 ∧ Chg No w1 wx ∧ Hid (RItems wx 0 wx.heap.size A6 L.length c6 L))
    case first =>
      go_region_held3 (fun w' => w'.cell? ⟨w.heap.size, 0, none⟩ = some (.int .i64 fa) ∧ w'.cell? ⟨w.heap.size, 1, none⟩ = some (.int .i64 fb) ∧ w'.cell? ⟨w.heap.size, 2, none⟩ = some (.int .i64 fc))
                      (first | go_keep | (go_split_ands; refine ⟨?_, ?_, ?_⟩ <;> exact cell_keep (by assumption) (by assumption) (fun e => e)))
                (first | (go_at_call 14; (with_reducible refine (KT.out _ (HX.out.no (by (repeat (first | (with_reducible exact Chg.refl _ _) | ((with_reducible refine Chg.setNew ?_ _ ?_); rotate_left; first | (dsimp only; omega) | (simp; done) | (simp; omega)) | (with_reducible refine Chg.alloc ?_ _) | (with_reducible refine Chg.drew ?_) | (with_reducible refine Chg.drewN ?_ _) | (with_reducible refine Chg.no ?_ (by assumption)) | (with_reducible refine Chg.and_ ?_ (by assumption)) | ((with_reducible refine Chg.at_ ?_ (by assumption) ?_); rotate_left; (try simp only [World.size_alloc]); omega)))))).mono ?_); rintro e wt ⟨vt, rfl, hot, hct⟩; obtain ⟨At, ct, rfl, hrt⟩ := OItems.read hot.plain; have hmt := hrt.cap; have hkt := hrt.le) | (go_at_call 15; (with_reducible refine (toFilter _ _ _ _).mono ?_); rintro e wf ⟨rfl, hcf⟩) | (go_at_call 13; (with_reducible refine (KS.out _ _ _ _ _ _ (hrt.no (by (repeat (first | (with_reducible exact Chg.refl _ _) | ((with_reducible refine Chg.setNew ?_ _ ?_); rotate_left; first | (dsimp only; omega) | (simp; done) | (simp; omega)) | (with_reducible refine Chg.alloc ?_ _) | (with_reducible refine Chg.drew ?_) | (with_reducible refine Chg.drewN ?_ _) | (with_reducible refine Chg.no ?_ (by assumption)) | (with_reducible refine Chg.and_ ?_ (by assumption)) | ((with_reducible refine Chg.at_ ?_ (by assumption) ?_); rotate_left; (try simp only [World.size_alloc]); omega)))))).mono ?_); rintro e ws ⟨vs, rfl, hos, hcs⟩; obtain ⟨As, cs, rfl, hrs⟩ := OItems.read hos))
      all_goals
        go_wp2_with fail
        go_meet
        refine ⟨_, _, rfl, by (repeat (first | (with_reducible exact Chg.refl _ _) | ((with_reducible refine Chg.setNew ?_ _ ?_); rotate_left; first | (dsimp only; omega) | (simp; done) | (simp; omega)) | (with_reducible refine Chg.alloc ?_ _) | (with_reducible refine Chg.drew ?_) | (with_reducible refine Chg.drewN ?_ _) | (with_reducible refine Chg.no ?_ (by assumption)) | (with_reducible refine Chg.and_ ?_ (by assumption)) | ((with_reducible refine Chg.at_ ?_ (by assumption) ?_); rotate_left; (try simp only [World.size_alloc]); omega))), ?_⟩
        exact hrs.wide (Nat.zero_le _) (Nat.le_refl _)
    case rest =>
      obtain ⟨A6, c6, rfl, hc6, HW⟩ := hcut
      obtain ⟨w2, rfl⟩ : ∃ W : World, W = wc := ⟨_, rfl⟩
      have hcw2 := hcw1.no hc6
      have s2 := hcw2.size
      have s2' := hc6.size
      have hm6 := HW.out.cap; have hk6 := HW.out.le
      (go_wp2_with fail; (with_reducible refine (KT.out _ (HX.out.no hcw2)).mono ?_); rintro e w3 ⟨v3, rfl, ho3, hc3⟩)
      obtain ⟨A3, c3, hv3, hr3⟩ := OItemsR.read ho3.r
      subst hv3
      have HX3 := hid ho3.r
      have hm3 := hr3.cap; have hk3 := hr3.le
      have HR3 := hid hr3
      have s3 := hc3.size
      have hcw3 := hcw2.no hc3
      have hc13 : Chg No w1 w3 := hc6.no hc3
      have q3 := (B1.out.no hc13).f3
      clear ho3 hr3
      (go_wp2_with fail; (with_reducible refine (toFilter _ _ _ _).mono ?_); rintro e w4 ⟨rfl, hc4⟩)
      (go_wp2_with fail; (with_reducible refine (KI.out _ _ _ _ _ _ (HR3.out.no hc4)).mono ?_); rintro e w5 ⟨v5, rfl, ho5, hc5⟩)
      obtain ⟨A5, c5, hv5, hr5⟩ := OItemsR.read ho5.r
      subst hv5
      have HG5 := hid ho5.r
      have hm5 := hr5.cap; have hk5 := hr5.le
      have HR5 := hid hr5
      have s4 := hc4.size
      have s5 := hc5.size
      have hc35 : Chg No w3 w5 := hc4.no hc5
      have hcw5 := hcw3.no hc35
      clear ho5 hr5
      (go_wp2_with fail; (with_reducible refine (eqItemS _ _ _ _ _ _ _ _ _ L _ HR5.out (HW.out.no (hc3.no hc35))).mono ?_); rintro e w6 ⟨rfl, hc6'⟩)
      have hcw6 := hcw5.no hc6'
      (go_wp2_with fail; (with_reducible refine (KT.out _ (HX.out.no hcw6)).mono ?_); rintro e w7 ⟨v7, rfl, ho7, hc7⟩)
      obtain ⟨A7, c7, hv7, hr7⟩ := OItems.read ho7.plain
      subst hv7
      have hm7 := hr7.cap; have hk7 := hr7.le
      have HR7 := hid hr7
      clear ho7 hr7
      have hc37 : Chg No w3 w7 := (hc35.no hc6').no hc7
      (go_wp2_with fail; (with_reducible refine (eqItemS _ _ _ _ _ _ _ _ _ xs _ (HR3.out.no hc37) HR7.out).mono ?_); rintro e w8 ⟨rfl, hc8⟩)
      have hc38 := hc37.no hc8
      have hcw8 := hcw3.no hc38
      have s8 := hc38.size
      (go_wp2_with fail; (with_reducible refine (markItemS _ _ _ _ _ xs 1 _ (HX3.out.no hc38) (by omega) hcx2).mono ?_); rintro e w9 ⟨rfl, _, hc9⟩)
      have hcw9 : Chg No w w9 := hcw8.trans hc9 (fun i hi h => by omega)
      have hc58 : Chg No w5 w8 := ((Chg.refl No w5).no hc6').no (hc7.no hc8)
      have HG9 := hid ((HG5.out.no hc58).keep hc9 (fun k h1 h2 h3 => by omega))
      have HR9 := hid ((HR5.out.no hc58).keep hc9 (fun k h1 h2 h3 => by omega))
      have HW9 := hid ((HW.out.no (hc3.no (hc38))).keep hc9 (fun k h1 h2 h3 => by omega))
      have B9 := hid ((B1.out.no (hc13.no hc38)).keep hc9 (fun h => by omega))
      have s9 := hc9.size
      have j1 : decide (1 + costI xs < 0) = false := decide_eq_false (by omega)
      (go_wp2_with fail; (with_reducible refine (eqItemS _ _ _ _ _ _ _ _ _ L _ HR9.out HW9.out).mono ?_); rintro e w10 ⟨rfl, hc10⟩)
      have s10 := hc10.size
      (go_wp2_with fail; (with_reducible refine (markItemS _ _ _ _ _ L 1 _ (HG9.out.no hc10) (by omega) (by omega)).mono ?_); rintro e w11 ⟨rfl, ho11, hc11⟩)
      have hcw11 : Chg No w w11 := (hcw9.no hc10).trans hc11 (fun i hi h => by omega)
      have HW11 := hid ((HW9.out.no hc10).keep hc11 (fun k h1 h2 h3 => by omega))
      have B11 := hid ((B9.out.no hc10).keep hc11 (fun h => by omega))
      obtain ⟨A11, c11, hv11, hr11⟩ := OItemsR.read ho11
      rw [markedI_len] at hv11 hr11
      injection hv11 with v1 v2 v3
      subst v1 v3
      have HM := hid hr11
      clear ho11 hr11 v2
      (go_wp2_with fail; (with_reducible refine (heldItemS _ _ _ _ _ L 1 _ HM.out (by omega) (by omega)).mono ?_); rintro e w12 ⟨rfl, rfl⟩)
      have j2 : decide (1 + costI L < 0) = false := decide_eq_false (by omega)
      have j3 : ((1 + costI L) != (1 + costI L)) = false := by simp
      have q11 := B11.out.f3
      have z11 := B11.out.lt
      have s11 := hcw11.size
      go_wp2_with fail
      go_cut [12] (fun s12 wx => ∃ (A12 : Option Addr) (c12 : Nat), s12 = .slice A12 L.length c12 ∧ Chg No w11 wx ∧ Hid (RItems wx 0 wx.heap.size A12 L.length c12 L))
      case first =>
        go_region_held3 (fun w' => w'.cell? ⟨w.heap.size, 0, none⟩ = some (.int .i64 fa) ∧ w'.cell? ⟨w.heap.size, 1, none⟩ = some (.int .i64 fb) ∧ w'.cell? ⟨w.heap.size, 2, none⟩ = some (.int .i64 fc))
                      (first | go_keep | (go_split_ands; refine ⟨?_, ?_, ?_⟩ <;> exact cell_keep (by assumption) (by assumption) (fun e => e)))
                (first | (go_at_call 14; (with_reducible refine (KT.out _ ((HX.out.no hcw11).no (by (repeat (first | (with_reducible exact Chg.refl _ _) | ((with_reducible refine Chg.setNew ?_ _ ?_); rotate_left; first | (dsimp only; omega) | (simp; done) | (simp; omega)) | (with_reducible refine Chg.alloc ?_ _) | (with_reducible refine Chg.drew ?_) | (with_reducible refine Chg.drewN ?_ _) | (with_reducible refine Chg.no ?_ (by assumption)) | (with_reducible refine Chg.and_ ?_ (by assumption)) | ((with_reducible refine Chg.at_ ?_ (by assumption) ?_); rotate_left; (try simp only [World.size_alloc]); omega)))))).mono ?_); rintro e wt ⟨vt, rfl, hot, hct⟩; obtain ⟨At, ct, rfl, hrt⟩ := OItems.read hot.plain; have hmt := hrt.cap; have hkt := hrt.le) | (go_at_call 15; (with_reducible refine (toFilter _ _ _ _).mono ?_); rintro e wf ⟨rfl, hcf⟩) | (go_at_call 16; (with_reducible refine (KI.out _ _ _ _ _ _ (hrt.no (by (repeat (first | (with_reducible exact Chg.refl _ _) | ((with_reducible refine Chg.setNew ?_ _ ?_); rotate_left; first | (dsimp only; omega) | (simp; done) | (simp; omega)) | (with_reducible refine Chg.alloc ?_ _) | (with_reducible refine Chg.drew ?_) | (with_reducible refine Chg.drewN ?_ _) | (with_reducible refine Chg.no ?_ (by assumption)) | (with_reducible refine Chg.and_ ?_ (by assumption)) | ((with_reducible refine Chg.at_ ?_ (by assumption) ?_); rotate_left; (try simp only [World.size_alloc]); omega)))))).mono ?_); rintro e ws ⟨vs, rfl, hos, hcs⟩; obtain ⟨As, cs, rfl, hrs⟩ := OItems.read hos.plain))
        all_goals
          go_wp2_with fail
          go_meet
          refine ⟨_, _, rfl, by (repeat (first | (with_reducible exact Chg.refl _ _) | ((with_reducible refine Chg.setNew ?_ _ ?_); rotate_left; first | (dsimp only; omega) | (simp; done) | (simp; omega)) | (with_reducible refine Chg.alloc ?_ _) | (with_reducible refine Chg.drew ?_) | (with_reducible refine Chg.drewN ?_ _) | (with_reducible refine Chg.no ?_ (by assumption)) | (with_reducible refine Chg.and_ ?_ (by assumption)) | ((with_reducible refine Chg.at_ ?_ (by assumption) ?_); rotate_left; (try simp only [World.size_alloc]); omega))), ?_⟩
          exact hrs.wide (Nat.zero_le _) (Nat.le_refl _)
      case rest =>
        obtain ⟨A12, c12, rfl, hc12, HH⟩ := hcut
        obtain ⟨w13, rfl⟩ : ∃ W : World, W = wc := ⟨_, rfl⟩
        have hm12 := HH.out.cap; have hk12 := HH.out.le
        (go_wp2_with fail; (with_reducible refine (eqItemS _ _ _ _ _ _ _ _ _ L _ HH.out (HW11.out.no hc12)).mono ?_); rintro e w14 ⟨rfl, hc14⟩)
        (go_wp2_with fail; (with_reducible refine (heldItemS _ _ _ _ _ L 1 _ (HM.out.no (hc12.no hc14)) (by omega) (by omega)).mono ?_); rintro e w15 ⟨rfl, rfl⟩)
        go_wp2
        go_ret
        exact ⟨rfl, (hcw11.no hc12).no hc14⟩

set_option maxRecDepth 100000 in
theorem lifted (os : Os) (started : os.Started) (H : Type) (enc : TypeId × Value → H) :
    ReturnsInHanded {} Try.checked os 3 .any (Rows.fnExactFilterStoreSpec.pre6 enc Try.prog Try.f3 Rows.fnExactFilterStoreRow.domain false) (Rows.fnExactFilterStoreSpec.post enc Try.prog Try.f3 false true false false) := by
  refine returnsInHanded_of_change (C := Try.checked) own started (by kernel_rfl) Try.func3
    (ChangeSpec.witness6 (enc := enc) (C := Try.checked) false ⟨#[], #[.slice none 0 0, .agg #[.int .i64 0, .int .i64 0, .int .i64 0]], []⟩ 8 (by kernel_rfl) (by kernel_rfl) (by kernel_rfl) (by kernel_rfl)) ?_
  intro W base args ds gs before hval0 hW hcnd _
  have hval : ∀ (j : Nat) t v, Try.f3.params[j]? = some t → args[j]? = some v → Value.okWide Try.prog W .any base t v := hval0
  have hW' := hW
  obtain ⟨p, q, hA0, hV, rfl, hfz, hnd⟩ := hW
  have hA : DataW.TrodAll enc Try.prog W 0 (fun _ => true) true Try.f3.params.toList args.toList ds p := hA0
  rw [Try.params3] at hA hval
  obtain ⟨v0, vs0, d0, ds0, p0, q0, hargs, rfl, rfl, h0, r0⟩ := trodAll_cons hA
  obtain ⟨v1, vs1, d1, ds1, p1, q1, rfl, rfl, rfl, h1, r1⟩ := trodAll_cons r0
  obtain ⟨rfl, rfl, rfl⟩ := trodAll_nil r1
  obtain rfl : args = #[v0, v1] := by cases args; simp_all
  obtain ⟨rfl, rfl⟩ := trodVars_none hV
  have k0 := h0
  have lt0 : ∀ x ∈ p0, x.block < W.heap.size := by obtain ⟨m, hm⟩ := k0; exact DataW.trod_lt m _ _ _ hm
  have k1 := h1
  have lt1 : ∀ x ∈ p1, x.block < W.heap.size := by obtain ⟨m, hm⟩ := k1; exact DataW.trod_lt m _ _ _ hm
  obtain ⟨a0, n0, c0, x0, rfl, w0⟩ := open_items (hval 0 22 v0 rfl rfl) h0
  obtain ⟨a1, b1, c1, rfl⟩ := open_filter (hval 1 24 v1 rfl rfl) h1
  clear hA0 hval0
  refine (walk a0 n0 c0 x0 a1 b1 c1 W w0 ).mono fun e W' ⟨he, bel0⟩ => ?_
  have bel := bel0.below
  subst he
  exact ⟨_, rfl, _, _, _, [], _, [], hW', trodAll_mk1 (shut_bool Try.underlying4 _), (trodAll_cons_mk (Below.trod laidOut (by kernel_rfl) (of_decide_eq_true (by kernel_rfl)) k0 bel lt0) (trodAll_cons_mk (Below.trod laidOut (by kernel_rfl) (of_decide_eq_true (by kernel_rfl)) k1 bel lt1) trodAll_mk0)), rfl, bel.frame _, fun h => by cases h⟩

theorem over : Rows.fnExactFilterStoreRow.holds Try.pinned (OpenSpec.ofChange Rows.fnExactFilterStoreSpec) :=
  OpenClaim.holds_of_wide 3 Try.f3 rfl rfl rfl rfl rfl rfl rfl ⟨rfl, rfl, rfl, rfl, rfl⟩ rfl rfl rfl rfl rfl (by kernel_rfl) Try.func3 (by kernel_rfl)
    (of_decide_eq_true (by kernel_rfl)) (by unfold Func.isWrapper; first | (rw [if_pos (by decide +kernel)]; kernel_rfl) | (rw [if_neg (by decide +kernel)]; exact ⟨rfl, rfl⟩))
    (fun os started H enc _ => lifted os started H enc)

theorem proved : Rows.FnExactFilterStoreSaid := over
#print axioms proved

end lawExactFilterStore
end Go.Proofs.Ytchblkeddeelhaa
