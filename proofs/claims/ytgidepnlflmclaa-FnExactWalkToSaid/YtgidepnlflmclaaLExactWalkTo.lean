/- FnExactWalkTo: the program's WalkTo answers as the reference's, and its answer's memory is its own. No condition. -/
import Derived.Test.YtgidepnlflmclaaLift2
import Derived.Test.YtgidepnlflmclaaLawI
import Derived.Test.YtgidepnlflmclaaWalk
import Derived.Test.YtgidepnlflmclaaWalkS
namespace Go.Proofs.Ytgidepnlflmclaa
open Go.ChangeShapes Go.WideShapes Go.ChangeAt Go.RowKit Go.Shelf
set_option linter.unusedVariables false
set_option linter.unusedSimpArgs false
namespace lawExactWalkTo
theorem walk_len16 {xs : List It} {kind many key : Int} {at_ : List Int} : (WalkF xs kind many key at_).length ≤ 16 := by
  unfold WalkF
  split
  · rename_i h
    unfold walkB at h
    rw [Bool.and_eq_true, Bool.and_eq_true, decide_eq_true_eq] at h
    have h16 := storeB_len (linkB_ok h.1).store
    have h9 := (walk_len (kind := kind) (many := many) (at_ := at_) (keyAt_mem.1 h.2.2)).2
    omega
  · simp
set_option maxRecDepth 100000 in
set_option maxHeartbeats 8000000 in
theorem walk (A : Option Addr) (n c : Nat) (xs : List It) (kind many key : Int) (A' : Option Addr) (n' c' : Nat) (at_ : List Int) (w : World)
    (hx : RItems w 0 w.heap.size A n c xs) (_ : (Lit.int .i64 kind).wf = true) (_ : (Lit.int .i64 many).wf = true) (_ : (Lit.int .i64 key).wf = true) (hy : RInts w 0 w.heap.size A' n' c' at_) : Calls Try.prog 3 #[.slice A n c, .int .i64 kind, .int .i64 many, .int .i64 key, .slice A' n' c'] w fun e w' => e = .returned (.bool true) ∧ Chg No w w' := by
  have hnc := hx.le; have hcm := hx.cap
  have hnc' := hy.le; have hcm' := hy.cap
  have HX := hid hx; have HY := hid hy
  clear hx hy
  by_cases hbig : (1048576 : Int) < n'
  · go_enter Try.func3, Try.ntmps3
    go_wp2
    go_ret
    exact ⟨rfl, by (repeat (first | (with_reducible exact Chg.refl _ _) | ((with_reducible refine Chg.setNew ?_ _ ?_); rotate_left; first | (dsimp only; omega) | (simp; done) | (simp; omega)) | (with_reducible refine Chg.alloc ?_ _) | (with_reducible refine Chg.drew ?_) | (with_reducible refine Chg.drewN ?_ _) | (with_reducible refine Chg.no ?_ (by assumption)) | (with_reducible refine Chg.and_ ?_ (by assumption)) | ((with_reducible refine Chg.at_ ?_ (by assumption) ?_); rotate_left; (try simp only [World.size_alloc]); omega)))⟩
  · have hb2 : n' ≤ 1048576 := by omega
    have hb3 : (n' : Int) ≤ 1048576 := by omega
    clear hbig
    go_enter Try.func3, Try.ntmps3
    (go_wp2_with fail; (with_reducible refine (szItemS _ _ _ _ _ xs _ _ HX.out (by omega) (by omega)).mono ?_); rintro e w1 ⟨r, rfl, hc1, hr0, hr1, hr2⟩)
    by_cases hr : r < 0
    · go_wp2
      go_ret
      exact ⟨rfl, by (repeat (first | (with_reducible exact Chg.refl _ _) | ((with_reducible refine Chg.setNew ?_ _ ?_); rotate_left; first | (dsimp only; omega) | (simp; done) | (simp; omega)) | (with_reducible refine Chg.alloc ?_ _) | (with_reducible refine Chg.drew ?_) | (with_reducible refine Chg.drewN ?_ _) | (with_reducible refine Chg.no ?_ (by assumption)) | (with_reducible refine Chg.and_ ?_ (by assumption)) | ((with_reducible refine Chg.at_ ?_ (by assumption) ?_); rotate_left; (try simp only [World.size_alloc]); omega)))⟩
    · have hr' : 0 ≤ r := by omega
      obtain ⟨hln, hlv⟩ := hr2 hr'
      have hn : n ≤ 1048576 := by have := HX.out.len; omega
      have HV := hid (show ∀ x ∈ xs, x.vec.length ≤ 1048576 from fun x hx => by have := hlv x hx; omega)
      have hL16 := walk_len16 (xs := xs) (kind := kind) (many := many) (key := key) (at_ := at_)
      obtain ⟨L, hL⟩ : ∃ L, WalkF xs kind many key at_ = L := ⟨_, rfl⟩
      obtain ⟨t, ht⟩ : ∃ t, walkB xs kind many key at_ = t := ⟨_, rfl⟩
      have KS := hid (fun W l0 h0 A n c l1 h1 A' n' c' (h : RItems W l0 h0 A n c xs) (h2 : RInts W l1 h1 A' n' c' at_) => sWalkTo l0 h0 A n c xs l1 h1 A' n' c' at_ kind many key W h h2)
      have KI := hid (fun W l0 h0 A n c l1 h1 A' n' c' (h : RItems W l0 h0 A n c xs) (h2 : RInts W l1 h1 A' n' c' at_) => iWalkTo l0 h0 A n c xs l1 h1 A' n' c' at_ kind many key W h h2)
      have KT := hid (fun W (h : RItems W 0 w.heap.size A n c xs) => toItemS 0 w.heap.size A n c xs W h hn HV.out)
      have KV := hid (fun W (h : RInts W 0 w.heap.size A' n' c' at_) => toIntS 0 w.heap.size A' n' c' at_ W h hb2)
      rw [hL, ht] at KS KI
      rw [hL] at hL16
      have hcx := costI_le HV.out
      have hcx0 := costI_nonneg xs
      have hxl : xs.length ≤ 1048576 := by omega
      have hcx2 : costI xs ≤ 100000000000000 := by
        have : (xs.length : Int) * (2 + ((1048576 : Nat) : Int)) ≤ 1048576 * 1048578 := Int.mul_le_mul (by omega) (by omega) (by omega) (by omega)
        omega
      have hal : at_.length = n' := HY.out.len
      have hal2 : at_.length ≤ 1048576 := by omega
      have s1 := hc1.size
      have j4 : (t != t) = false := by simp
      clear hr hr2 hln hlv hL hcx hxl hr0 hr1 hal ht
      (go_wp2_with fail; (with_reducible refine (KT.out _ (HX.out.no hc1)).mono ?_); rintro e w2 ⟨v2, rfl, ho2, hc2⟩)
      have q2 := hc1.no hc2
      obtain ⟨A2, c2, hv2, hr2⟩ := OItemsR.read ho2.r
      subst hv2
      have hp2 := hr2.cap; have hl2 := hr2.le
      have R2 := hid hr2
      have O2 := hid ho2.r
      have s2 := hc2.size
      clear hr2 ho2
      (go_wp2_with fail; (with_reducible refine (KV.out _ (HY.out.no q2)).mono ?_); rintro e w20 ⟨v20, rfl, ho20, hc20⟩)
      have q20 := q2.no hc20
      obtain ⟨A20, c20, rfl, ht20⟩ := OInts.typed ho20
      have hp20 := ht20.1.cap; have hl20 := ht20.1.le
      have T20 := hid ht20
      have s20 := hc20.size
      clear ho20 ht20
      (go_wp2_with fail; (with_reducible refine (KS.out _ _ _ _ _ _ _ _ _ _ _ (R2.out.no hc20) T20.out.r).mono ?_); rintro e w3 ⟨v3, rfl, ho3, hc3⟩)
      have q3 := q20.no hc3
      obtain ⟨A3, c3, rfl, hr3⟩ := OInts.read ho3
      have hp3 := hr3.cap; have hl3 := hr3.le
      have W3 := hid (hr3.wide (lo' := 0) (Nat.zero_le _) (Nat.le_refl _))
      have s3 := hc3.size
      clear ho3 hr3
      (go_wp2_with fail; (with_reducible refine (KT.out _ (HX.out.no q3)).mono ?_); rintro e w4 ⟨v4, rfl, ho4, hc4⟩)
      have q4 := q3.no hc4
      obtain ⟨A4, c4, hv4, hr4⟩ := OItemsR.read ho4.r
      subst hv4
      have hp4 := hr4.cap; have hl4 := hr4.le
      have R4 := hid hr4
      have O4 := hid ho4.r
      have s4 := hc4.size
      clear hr4 ho4
      (go_wp2_with fail; (with_reducible refine (KV.out _ (HY.out.no q4)).mono ?_); rintro e w21 ⟨v21, rfl, ho21, hc21⟩)
      have q21 := q4.no hc21
      obtain ⟨A21, c21, rfl, ht21⟩ := OInts.typed ho21
      have hp21 := ht21.1.cap; have hl21 := ht21.1.le
      have T21 := hid ht21
      have s21 := hc21.size
      clear ho21 ht21
      (go_wp2_with fail; (with_reducible refine (KI.out _ _ _ _ _ _ _ _ _ _ _ (R4.out.no hc21) T21.out.r).mono ?_); rintro e w5 ⟨v5, rfl, ho5, hc5⟩)
      have q5 := q21.no hc5
      obtain ⟨A5, c5, rfl, ht5⟩ := OInts.typed ho5
      have hp5 := ht5.1.cap; have hl5 := ht5.1.le
      have G5 := hid ht5
      have s5 := hc5.size
      have d35 : Chg No w3 w5 := (hc4.no hc21).no hc5
      clear ho5 ht5
      (go_wp2_with fail; (with_reducible refine (eqIntS _ _ _ _ _ _ _ _ _ L _ G5.out.r (W3.out.no d35)).mono ?_); rintro e w6 ⟨rfl, hc6⟩)
      have q6 := q5.no hc6
      (go_wp2_with fail; (with_reducible refine (KT.out _ (HX.out.no q6)).mono ?_); rintro e w7 ⟨v7, rfl, ho7, hc7⟩)
      have q7 := q6.no hc7
      obtain ⟨A7, c7, hv7, hr7⟩ := OItemsR.read ho7.r
      subst hv7
      have hp7 := hr7.cap; have hl7 := hr7.le
      have R7 := hid hr7
      have O7 := hid ho7.r
      have s7 := hc7.size
      clear hr7 ho7
      have d47 : Chg No w4 w7 := ((hc21.no hc5).no hc6).no hc7
      (go_wp2_with fail; (with_reducible refine (eqItemS _ _ _ _ _ _ _ _ _ xs _ (R4.out.no d47) R7.out).mono ?_); rintro e w8 ⟨rfl, hc8⟩)
      have q8 := q7.no hc8
      (go_wp2_with fail; (with_reducible refine (KV.out _ (HY.out.no q8)).mono ?_); rintro e w22 ⟨v22, rfl, ho22, hc22⟩)
      have q22 := q8.no hc22
      obtain ⟨A22, c22, rfl, ht22⟩ := OInts.typed ho22
      have hp22 := ht22.1.cap; have hl22 := ht22.1.le
      have T22 := hid ht22
      have s22 := hc22.size
      clear ho22 ht22
      have d2122 : Chg No w21 w22 := (((hc5.no hc6).no hc7).no hc8).no hc22
      (go_wp2_with fail; (with_reducible refine (eqIntS _ _ _ _ _ _ _ _ _ at_ _ (T21.out.r.no d2122) T22.out.r).mono ?_); rintro e w23 ⟨rfl, hc23⟩)
      have q23 := q22.no hc23
      have d21 : Chg No w21 w23 := d2122.no hc23
      have d4 : Chg No w4 w23 := hc21.no d21
      have d5 : Chg No w5 w23 := (((hc6.no hc7).no hc8).no hc22).no hc23
      have d3 : Chg No w3 w23 := d35.no d5
      have s23 := d5.size
      (go_wp2_with fail; (with_reducible refine (markItemS _ _ _ _ _ xs 1 _ (O4.out.no d4) (by omega) (by omega)).mono ?_); rintro e w9 ⟨rfl, _, hc9⟩)
      have s9 := hc9.size
      have T9 := hid ((T21.out.no' d21).keep hc9 (fun k h1 h2 h3 => by omega))
      (go_wp2_with fail; (with_reducible refine (markIntS _ _ _ _ _ at_ _ _ T9.out (by omega) (by omega)).mono ?_); rintro e w24 ⟨rfl, _, hc24'⟩)
      have hc24 := T9.out.blk (S := fun b => w4.heap.size ≤ b ∧ b < w21.heap.size) hc24' (fun k h1 h2 => ⟨h1, h2⟩)
      have s24 := hc24.size
      have W9 := hid (((W3.out.no d3).keep hc9 (fun k h1 h2 h3 => by omega)).keep hc24 (fun k h1 h2 h3 => by omega))
      have G9 := hid (((G5.out.no' d5).keep hc9 (fun k h1 h2 h3 => by omega)).keep hc24 (fun k h1 h2 h3 => by omega))
      have q9 : Chg No w w24 := (q23.trans hc9 (fun i hi h => by omega)).trans hc24 (fun i hi h => by omega)
      have j1 : decide (1 + costI xs + (at_.length : Int) < 0) = false := decide_eq_false (by omega)
      (go_wp2_with fail; (with_reducible refine (eqIntS _ _ _ _ _ _ _ _ _ L _ G9.out.r W9.out).mono ?_); rintro e w10 ⟨rfl, hc10⟩)
      have s10 := hc10.size
      (go_wp2_with fail; (with_reducible refine (markIntS _ _ _ _ _ L 1 _ (G9.out.no' hc10) (by omega) (by omega)).mono ?_); rintro e w11 ⟨rfl, hm11, hc11'⟩)
      have hc11 := (G9.out.no' hc10).blk (S := fun b => w21.heap.size ≤ b ∧ b < w5.heap.size) hc11' (fun k h1 h2 => ⟨h1, h2⟩)
      have s11 := hc11.size
      have W11 := hid ((W9.out.no hc10).keep hc11 (fun k h1 h2 h3 => by omega))
      have q11 : Chg No w w11 := (q9.no hc10).trans hc11 (fun i hi h => by omega)
      have M11 := hid hm11.1
      clear hm11
      (go_wp2_with fail; (with_reducible refine (heldIntS _ _ _ _ _ 1 _ M11.out (by omega) (by omega)).mono ?_); rintro e w12 ⟨rfl, rfl⟩)
      have j2 : decide (1 + (L.length : Int) < 0) = false := decide_eq_false (by omega)
      have j3 : ((1 + (L.length : Int)) != (1 + (L.length : Int))) = false := by simp
      (go_wp2_with fail; (with_reducible refine (KT.out _ (HX.out.no q11)).mono ?_); rintro e w13 ⟨v13, rfl, ho13, hc13⟩)
      have q13 := q11.no hc13
      obtain ⟨A13, c13, hv13, hr13⟩ := OItemsR.read ho13.r
      subst hv13
      have hp13 := hr13.cap; have hl13 := hr13.le
      have R13 := hid hr13
      have O13 := hid ho13.r
      have s13 := hc13.size
      clear hr13 ho13
      (go_wp2_with fail; (with_reducible refine (KV.out _ (HY.out.no q13)).mono ?_); rintro e w25 ⟨v25, rfl, ho25, hc25⟩)
      have q25 := q13.no hc25
      obtain ⟨A25, c25, rfl, ht25⟩ := OInts.typed ho25
      have hp25 := ht25.1.cap; have hl25 := ht25.1.le
      have T25 := hid ht25
      have s25 := hc25.size
      clear ho25 ht25
      (go_wp2_with fail; (with_reducible refine (KI.out _ _ _ _ _ _ _ _ _ _ _ (R13.out.no hc25) T25.out.r).mono ?_); rintro e w14 ⟨v14, rfl, ho14, hc14⟩)
      have q14 := q25.no hc14
      obtain ⟨A14, c14, rfl, hr14⟩ := OInts.read ho14
      have hp14 := hr14.cap; have hl14 := hr14.le
      have R14 := hid hr14
      have d11 : Chg No w11 w14 := (hc13.no hc25).no hc14
      clear ho14 hr14
      (go_wp2_with fail; (with_reducible refine (eqIntS _ _ _ _ _ _ _ _ _ L _ R14.out (W11.out.no d11)).mono ?_); rintro e w15 ⟨rfl, hc15⟩)
      (go_wp2_with fail; (with_reducible refine (heldIntS _ _ _ _ _ 1 _ (M11.out.no (d11.no hc15)) (by omega) (by omega)).mono ?_); rintro e w16 ⟨rfl, rfl⟩)
      go_wp2
      go_ret
      exact ⟨rfl, q14.no hc15⟩

set_option maxRecDepth 100000 in
theorem lifted (os : Os) (started : os.Started) (H : Type) (enc : TypeId × Value → H) :
    ReturnsInHanded {} Try.checked os 3 .any (Rows.fnExactWalkToSpec.pre6 enc Try.prog Try.f3 Rows.fnExactWalkToRow.domain false) (Rows.fnExactWalkToSpec.post enc Try.prog Try.f3 false true false false) := by
  refine returnsInHanded_of_change (C := Try.checked) own started (by kernel_rfl) Try.func3
    (ChangeSpec.witness6 (enc := enc) (C := Try.checked) false ⟨#[], #[.slice none 0 0, .int .i64 0, .int .i64 0, .int .i64 0, .slice none 0 0], []⟩ 8 (by kernel_rfl) (by kernel_rfl) (by kernel_rfl) (by kernel_rfl)) ?_
  intro W base args ds gs before hval0 hW hcnd _
  have hval : ∀ (j : Nat) t v, Try.f3.params[j]? = some t → args[j]? = some v → Value.okWide Try.prog W .any base t v := hval0
  have hW' := hW
  obtain ⟨p, q, hA0, hV, rfl, hfz, hnd⟩ := hW
  have hA : DataW.TrodAll enc Try.prog W 0 (fun _ => true) true Try.f3.params.toList args.toList ds p := hA0
  rw [Try.params3] at hA hval
  obtain ⟨v0, vs0, d0, ds0, p0, q0, hargs, rfl, rfl, h0, r0⟩ := trodAll_cons hA
  obtain ⟨v1, vs1, d1, ds1, p1, q1, rfl, rfl, rfl, h1, r1⟩ := trodAll_cons r0
  obtain ⟨v2, vs2, d2, ds2, p2, q2, rfl, rfl, rfl, h2, r2⟩ := trodAll_cons r1
  obtain ⟨v3, vs3, d3, ds3, p3, q3, rfl, rfl, rfl, h3, r3⟩ := trodAll_cons r2
  obtain ⟨v4, vs4, d4, ds4, p4, q4, rfl, rfl, rfl, h4, r4⟩ := trodAll_cons r3
  obtain ⟨rfl, rfl, rfl⟩ := trodAll_nil r4
  obtain rfl : args = #[v0, v1, v2, v3, v4] := by cases args; simp_all
  obtain ⟨rfl, rfl⟩ := trodVars_none hV
  have k0 := h0
  have lt0 : ∀ x ∈ p0, x.block < W.heap.size := by obtain ⟨m, hm⟩ := k0; exact DataW.trod_lt m _ _ _ hm
  have k1 := h1
  have lt1 : ∀ x ∈ p1, x.block < W.heap.size := by obtain ⟨m, hm⟩ := k1; exact DataW.trod_lt m _ _ _ hm
  have k2 := h2
  have lt2 : ∀ x ∈ p2, x.block < W.heap.size := by obtain ⟨m, hm⟩ := k2; exact DataW.trod_lt m _ _ _ hm
  have k3 := h3
  have lt3 : ∀ x ∈ p3, x.block < W.heap.size := by obtain ⟨m, hm⟩ := k3; exact DataW.trod_lt m _ _ _ hm
  have k4 := h4
  have lt4 : ∀ x ∈ p4, x.block < W.heap.size := by obtain ⟨m, hm⟩ := k4; exact DataW.trod_lt m _ _ _ hm
  obtain ⟨a0, n0, c0, x0, rfl, w0⟩ := open_items (hval 0 22 v0 rfl rfl) h0
  obtain ⟨a1, rfl, _, _, w1⟩ := open_int Try.underlying3 (hval 1 3 v1 rfl rfl) h1
  obtain ⟨a2, rfl, _, _, w2⟩ := open_int Try.underlying3 (hval 2 3 v2 rfl rfl) h2
  obtain ⟨a3, rfl, _, _, w3⟩ := open_int Try.underlying3 (hval 3 3 v3 rfl rfl) h3
  obtain ⟨a4, n4, c4, x4, rfl, w4⟩ := open_intS (hval 4 23 v4 rfl rfl) h4
  clear hA0 hval0
  refine (walk a0 n0 c0 x0 a1 a2 a3 a4 n4 c4 x4 W w0 w1 w2 w3 w4).mono fun e W' ⟨he, bel0⟩ => ?_
  have bel := bel0.below
  subst he
  exact ⟨_, rfl, _, _, _, [], _, [], hW', trodAll_mk1 (shut_bool Try.underlying4 _), (trodAll_cons_mk (Below.trod laidOut (by kernel_rfl) (of_decide_eq_true (by kernel_rfl)) k0 bel lt0) (trodAll_cons_mk (Below.trod laidOut (by kernel_rfl) (of_decide_eq_true (by kernel_rfl)) k1 bel lt1) (trodAll_cons_mk (Below.trod laidOut (by kernel_rfl) (of_decide_eq_true (by kernel_rfl)) k2 bel lt2) (trodAll_cons_mk (Below.trod laidOut (by kernel_rfl) (of_decide_eq_true (by kernel_rfl)) k3 bel lt3) (trodAll_cons_mk (Below.trod laidOut (by kernel_rfl) (of_decide_eq_true (by kernel_rfl)) k4 bel lt4) trodAll_mk0))))), rfl, bel.frame _, fun h => by cases h⟩

theorem over : Rows.fnExactWalkToRow.holds Try.pinned (OpenSpec.ofChange Rows.fnExactWalkToSpec) :=
  OpenClaim.holds_of_wide 3 Try.f3 rfl rfl rfl rfl rfl rfl rfl ⟨rfl, rfl, rfl, rfl, rfl⟩ rfl rfl rfl rfl rfl (by kernel_rfl) Try.func3 (by kernel_rfl)
    (of_decide_eq_true (by kernel_rfl)) (by unfold Func.isWrapper; first | (rw [if_pos (by decide +kernel)]; kernel_rfl) | (rw [if_neg (by decide +kernel)]; exact ⟨rfl, rfl⟩))
    (fun os started H enc _ => lifted os started H enc)

theorem proved : Rows.FnExactWalkToSaid := over
#print axioms proved

end lawExactWalkTo
end Go.Proofs.Ytgidepnlflmclaa
