/- FnExactValidHits, FnExactRankScore, FnExactRecallOf: the program's functions on hits answer as the reference's. No condition. -/
import Derived.Test.YthbakgblchhooaaLift2
import Derived.Test.YthbakgblchhooaaLawH
import Derived.Test.YthbakgblchhooaaHitsJ
namespace Go.Proofs.Ythbakgblchhooaa
open Go.ChangeShapes Go.WideShapes Go.ChangeAt Go.RowKit Go.Shelf
set_option linter.unusedVariables false
namespace lawExactValidHits
set_option maxHeartbeats 1000000 in
theorem walk (A : Option Addr) (n c : Nat) (xs : List (Int × Int)) (w : World) (hx : RHits w 0 w.heap.size A n c xs) : Calls Try.prog 3 #[.slice A n c] w fun e w' => e = .returned (.bool true) ∧ Chg No w w' := by
  obtain rfl : n = xs.length := hx.len.symm
  have hnc := hx.le; have hcm := hx.cap
  have HX1 := hid hx
  clear hx
  by_cases hbig : (1048576 : Int) < xs.length
  · skip
    go_enter Try.func3, Try.ntmps3
    (go_wp2_with fail; (with_reducible refine (szHitS_no _ _ _ _ _ (by omega) (by omega) (by omega) (by omega)).mono ?_); rintro e w1 ⟨rfl, rfl⟩)
    go_wp2
    go_ret
    exact ⟨rfl, Chg.refl _ _⟩
  · have hn : xs.length ≤ 1048576 := by omega
    have C0 : Chg No w w := Chg.refl _ _
    go_enter Try.func3, Try.ntmps3
    (go_wp2_with fail; (with_reducible refine (szHitS_ok _ _ _ _ _ (by omega) (by omega) (by omega) (by omega)).mono ?_); rintro e w1 ⟨rfl, rfl⟩)
    (go_wp2_with fail; (with_reducible refine (toHitS 0 _ _ _ _ xs _ (HX1.out.no C0) (by omega)).mono ?_); rintro e w2 ⟨v, rfl, ho, hc2⟩)
    obtain ⟨A2, c2, rfl, R2⟩ := ho.read
    have C2 := C0.no hc2
    have hm2 := R2.cap
    have hk2 := R2.le
    replace R2 := hid R2
    clear ho
    (go_wp2_with fail; (with_reducible refine (sVALIDHits _ _ _ _ _ xs _ R2.out).mono ?_); rintro e w3 ⟨rfl, hc3⟩)
    have C3 := C2.no hc3
    (go_wp2_with fail; (with_reducible refine (toHitS 0 _ _ _ _ xs _ (HX1.out.no C3) (by omega)).mono ?_); rintro e w4 ⟨v, rfl, ho, hc4⟩)
    obtain ⟨A4, c4, rfl, R4⟩ := ho.read
    have C4 := C3.no hc4
    have hm4 := R4.cap
    have hk4 := R4.le
    replace R4 := hid R4
    clear ho
    (go_wp2_with fail; (with_reducible refine (iVALIDHits _ _ _ _ _ xs _ R4.out).mono ?_); rintro e w5 ⟨rfl, hc5⟩)
    have C5 := C4.no hc5
    (go_wp2_with fail; (with_reducible refine (toHitS 0 _ _ _ _ xs _ (HX1.out.no C5) (by omega)).mono ?_); rintro e w6 ⟨v, rfl, ho, hc6⟩)
    obtain ⟨A6, c6, rfl, R6⟩ := ho.read
    have C6 := C5.no hc6
    have hm6 := R6.cap
    have hk6 := R6.le
    replace R6 := hid R6
    clear ho
    (go_wp2_with fail; (with_reducible refine (eqHitS _ _ _ _ _ _ _ _ _ xs _ (R4.out.no (hc5.no hc6)) R6.out).mono ?_); rintro e w7 ⟨rfl, hc7⟩)
    have C7 := C6.no hc7
    go_wp2
    go_ret
    exact ⟨rfl, C7⟩

set_option maxRecDepth 100000 in
theorem lifted (os : Os) (started : os.Started) (H : Type) (enc : TypeId × Value → H) :
    ReturnsInHanded {} Try.checked os 3 .any (Rows.fnExactValidHitsSpec.pre6 enc Try.prog Try.f3 Rows.fnExactValidHitsRow.domain false) (Rows.fnExactValidHitsSpec.post enc Try.prog Try.f3 false true false false) := by
  refine returnsInHanded_of_change (C := Try.checked) own started (by kernel_rfl) Try.func3
    (ChangeSpec.witness6 (enc := enc) (C := Try.checked) false ⟨#[], #[.slice none 0 0], []⟩ 8 (by kernel_rfl) (by kernel_rfl) (by kernel_rfl) (by kernel_rfl)) ?_
  intro W base args ds gs before hval0 hW hcnd _
  have hval : ∀ (j : Nat) t v, Try.f3.params[j]? = some t → args[j]? = some v → Value.okWide Try.prog W .any base t v := hval0
  have hW' := hW
  obtain ⟨p, q, hA0, hV, rfl, hfz, hnd⟩ := hW
  have hA : DataW.TrodAll enc Try.prog W 0 (fun _ => true) true Try.f3.params.toList args.toList ds p := hA0
  rw [Try.params3] at hA hval
  obtain ⟨v0, vs0, d0, ds0, p0, q0, hargs, rfl, rfl, h0, r0⟩ := trodAll_cons hA
  obtain ⟨rfl, rfl, rfl⟩ := trodAll_nil r0
  obtain rfl : args = #[v0] := by cases args; simp_all
  obtain ⟨rfl, rfl⟩ := trodVars_none hV
  have k0 := h0
  have lt0 : ∀ x ∈ p0, x.block < W.heap.size := by obtain ⟨m, hm⟩ := k0; exact DataW.trod_lt m _ _ _ hm
  obtain ⟨a0, n0, c0, x0, rfl, w0⟩ := open_hits (hval 0 22 v0 rfl rfl) h0
  clear hA0 hval0
  refine (walk a0 n0 c0 x0 W w0).mono fun e W' ⟨he, bel0⟩ => ?_
  have bel := bel0.below
  subst he
  exact ⟨_, rfl, _, _, _, [], _, [], hW', trodAll_mk1 (shut_bool Try.underlying4 _), (trodAll_cons_mk (Below.trod laidOut (by kernel_rfl) (of_decide_eq_true (by kernel_rfl)) k0 bel lt0) trodAll_mk0), rfl, bel.frame _, fun h => by cases h⟩

theorem over : Rows.fnExactValidHitsRow.holds Try.pinned (OpenSpec.ofChange Rows.fnExactValidHitsSpec) :=
  OpenClaim.holds_of_wide 3 Try.f3 rfl rfl rfl rfl rfl rfl rfl ⟨rfl, rfl, rfl, rfl, rfl⟩ rfl rfl rfl rfl rfl (by kernel_rfl) Try.func3 (by kernel_rfl)
    (of_decide_eq_true (by kernel_rfl)) (by unfold Func.isWrapper; first | (rw [if_pos (by decide +kernel)]; kernel_rfl) | (rw [if_neg (by decide +kernel)]; exact ⟨rfl, rfl⟩))
    (fun os started H enc _ => lifted os started H enc)

theorem proved : Rows.FnExactValidHitsSaid := over
#print axioms proved

end lawExactValidHits
namespace lawExactRankScore
set_option maxHeartbeats 1000000 in
theorem walk (A : Option Addr) (n c : Nat) (xs : List (Int × Int)) (key : Int) (w : World) (hx : RHits w 0 w.heap.size A n c xs) (_ : (Lit.int .i64 key).wf = true) : Calls Try.prog 4 #[.slice A n c, .int .i64 key] w fun e w' => e = .returned (.bool true) ∧ Chg No w w' := by
  obtain rfl : n = xs.length := hx.len.symm
  have hnc := hx.le; have hcm := hx.cap
  have HX1 := hid hx
  clear hx
  by_cases hbig : (1048576 : Int) < xs.length
  · skip
    go_enter Try.func4, Try.ntmps4
    (go_wp2_with fail; (with_reducible refine (szHitS_no _ _ _ _ _ (by omega) (by omega) (by omega) (by omega)).mono ?_); rintro e w1 ⟨rfl, rfl⟩)
    go_wp2
    go_ret
    exact ⟨rfl, Chg.refl _ _⟩
  · have hn : xs.length ≤ 1048576 := by omega
    have C0 : Chg No w w := Chg.refl _ _
    have e0 : (scoreF xs key != scoreF xs key) = false := by simp
    go_enter Try.func4, Try.ntmps4
    (go_wp2_with fail; (with_reducible refine (szHitS_ok _ _ _ _ _ (by omega) (by omega) (by omega) (by omega)).mono ?_); rintro e w1 ⟨rfl, rfl⟩)
    (go_wp2_with fail; (with_reducible refine (toHitS 0 _ _ _ _ xs _ (HX1.out.no C0) (by omega)).mono ?_); rintro e w2 ⟨v, rfl, ho, hc2⟩)
    obtain ⟨A2, c2, rfl, R2⟩ := ho.read
    have C2 := C0.no hc2
    have hm2 := R2.cap
    have hk2 := R2.le
    replace R2 := hid R2
    clear ho
    (go_wp2_with fail; (with_reducible refine (sRANKScore _ _ _ _ _ xs _ _ R2.out).mono ?_); rintro e w3 ⟨rfl, hc3⟩)
    have C3 := C2.no hc3
    (go_wp2_with fail; (with_reducible refine (toHitS 0 _ _ _ _ xs _ (HX1.out.no C3) (by omega)).mono ?_); rintro e w4 ⟨v, rfl, ho, hc4⟩)
    obtain ⟨A4, c4, rfl, R4⟩ := ho.read
    have C4 := C3.no hc4
    have hm4 := R4.cap
    have hk4 := R4.le
    replace R4 := hid R4
    clear ho
    (go_wp2_with fail; (with_reducible refine (iRANKScore _ _ _ _ _ xs _ _ R4.out).mono ?_); rintro e w5 ⟨rfl, hc5⟩)
    have C5 := C4.no hc5
    (go_wp2_with fail; (with_reducible refine (toHitS 0 _ _ _ _ xs _ (HX1.out.no C5) (by omega)).mono ?_); rintro e w6 ⟨v, rfl, ho, hc6⟩)
    obtain ⟨A6, c6, rfl, R6⟩ := ho.read
    have C6 := C5.no hc6
    have hm6 := R6.cap
    have hk6 := R6.le
    replace R6 := hid R6
    clear ho
    (go_wp2_with fail; (with_reducible refine (eqHitS _ _ _ _ _ _ _ _ _ xs _ (R4.out.no (hc5.no hc6)) R6.out).mono ?_); rintro e w7 ⟨rfl, hc7⟩)
    have C7 := C6.no hc7
    go_wp2
    go_ret
    exact ⟨rfl, C7⟩

set_option maxRecDepth 100000 in
theorem lifted (os : Os) (started : os.Started) (H : Type) (enc : TypeId × Value → H) :
    ReturnsInHanded {} Try.checked os 4 .any (Rows.fnExactRankScoreSpec.pre6 enc Try.prog Try.f4 Rows.fnExactRankScoreRow.domain false) (Rows.fnExactRankScoreSpec.post enc Try.prog Try.f4 false true false false) := by
  refine returnsInHanded_of_change (C := Try.checked) own started (by kernel_rfl) Try.func4
    (ChangeSpec.witness6 (enc := enc) (C := Try.checked) false ⟨#[], #[.slice none 0 0, .int .i64 0], []⟩ 8 (by kernel_rfl) (by kernel_rfl) (by kernel_rfl) (by kernel_rfl)) ?_
  intro W base args ds gs before hval0 hW hcnd _
  have hval : ∀ (j : Nat) t v, Try.f4.params[j]? = some t → args[j]? = some v → Value.okWide Try.prog W .any base t v := hval0
  have hW' := hW
  obtain ⟨p, q, hA0, hV, rfl, hfz, hnd⟩ := hW
  have hA : DataW.TrodAll enc Try.prog W 0 (fun _ => true) true Try.f4.params.toList args.toList ds p := hA0
  rw [Try.params4] at hA hval
  obtain ⟨v0, vs0, d0, ds0, p0, q0, hargs, rfl, rfl, h0, r0⟩ := trodAll_cons hA
  obtain ⟨v1, vs1, d1, ds1, p1, q1, rfl, rfl, rfl, h1, r1⟩ := trodAll_cons r0
  obtain ⟨rfl, rfl, rfl⟩ := trodAll_nil r1
  obtain rfl : args = #[v0, v1] := by cases args; simp_all
  obtain ⟨rfl, rfl⟩ := trodVars_none hV
  have k0 := h0
  have lt0 : ∀ x ∈ p0, x.block < W.heap.size := by obtain ⟨m, hm⟩ := k0; exact DataW.trod_lt m _ _ _ hm
  have k1 := h1
  have lt1 : ∀ x ∈ p1, x.block < W.heap.size := by obtain ⟨m, hm⟩ := k1; exact DataW.trod_lt m _ _ _ hm
  obtain ⟨a0, n0, c0, x0, rfl, w0⟩ := open_hits (hval 0 22 v0 rfl rfl) h0
  obtain ⟨a1, rfl, _, _, w1⟩ := open_int Try.underlying3 (hval 1 3 v1 rfl rfl) h1
  clear hA0 hval0
  refine (walk a0 n0 c0 x0 a1 W w0 w1).mono fun e W' ⟨he, bel0⟩ => ?_
  have bel := bel0.below
  subst he
  exact ⟨_, rfl, _, _, _, [], _, [], hW', trodAll_mk1 (shut_bool Try.underlying4 _), (trodAll_cons_mk (Below.trod laidOut (by kernel_rfl) (of_decide_eq_true (by kernel_rfl)) k0 bel lt0) (trodAll_cons_mk (Below.trod laidOut (by kernel_rfl) (of_decide_eq_true (by kernel_rfl)) k1 bel lt1) trodAll_mk0)), rfl, bel.frame _, fun h => by cases h⟩

theorem over : Rows.fnExactRankScoreRow.holds Try.pinned (OpenSpec.ofChange Rows.fnExactRankScoreSpec) :=
  OpenClaim.holds_of_wide 4 Try.f4 rfl rfl rfl rfl rfl rfl rfl ⟨rfl, rfl, rfl, rfl, rfl⟩ rfl rfl rfl rfl rfl (by kernel_rfl) Try.func4 (by kernel_rfl)
    (of_decide_eq_true (by kernel_rfl)) (by unfold Func.isWrapper; first | (rw [if_pos (by decide +kernel)]; kernel_rfl) | (rw [if_neg (by decide +kernel)]; exact ⟨rfl, rfl⟩))
    (fun os started H enc _ => lifted os started H enc)

theorem proved : Rows.FnExactRankScoreSaid := over
#print axioms proved

end lawExactRankScore
namespace lawExactRecallOf
set_option maxHeartbeats 1000000 in
theorem walk (A : Option Addr) (n c : Nat) (xs : List (Int × Int)) (B : Option Addr) (m d : Nat) (ys : List (Int × Int)) (w : World) (hx : RHits w 0 w.heap.size A n c xs) (hy : RHits w 0 w.heap.size B m d ys) : Calls Try.prog 5 #[.slice A n c, .slice B m d] w fun e w' => e = .returned (.bool true) ∧ Chg No w w' := by
  obtain rfl : n = xs.length := hx.len.symm
  obtain rfl : m = ys.length := hy.len.symm
  have hnc := hx.le; have hcm := hx.cap; have hmd := hy.le; have hdm := hy.cap
  have HX1 := hid hx; have HX2 := hid hy
  clear hx hy
  by_cases hbig : (1048576 : Int) < xs.length
  · skip
    go_enter Try.func5, Try.ntmps5
    (go_wp2_with fail; (with_reducible refine (szHitS_no _ _ _ _ _ (by omega) (by omega) (by omega) (by omega)).mono ?_); rintro e w1 ⟨rfl, rfl⟩)
    go_wp2
    go_ret
    exact ⟨rfl, Chg.refl _ _⟩
  · have hn : xs.length ≤ 1048576 := by omega
    by_cases hbig2 : (1048576 - (xs.length : Int)) < ys.length
    · go_enter Try.func5, Try.ntmps5
      (go_wp2_with fail; (with_reducible refine (szHitS_ok _ _ _ _ _ (by omega) (by omega) (by omega) (by omega)).mono ?_); rintro e w1 ⟨rfl, rfl⟩)
      (go_wp2_with fail; (with_reducible refine (szHitS_no _ _ _ _ _ (by omega) (by omega) (by omega) (by omega)).mono ?_); rintro e w1 ⟨rfl, rfl⟩)
      go_wp2
      go_ret
      exact ⟨rfl, Chg.refl _ _⟩
    · have hm : ys.length ≤ 1048576 := by omega
      have C0 : Chg No w w := Chg.refl _ _
      have e0 : (recF xs ys != recF xs ys) = false := by simp
      go_enter Try.func5, Try.ntmps5
      (go_wp2_with fail; (with_reducible refine (szHitS_ok _ _ _ _ _ (by omega) (by omega) (by omega) (by omega)).mono ?_); rintro e w1 ⟨rfl, rfl⟩)
      (go_wp2_with fail; (with_reducible refine (szHitS_ok _ _ _ _ _ (by omega) (by omega) (by omega) (by omega)).mono ?_); rintro e w1 ⟨rfl, rfl⟩)
      (go_wp2_with fail; (with_reducible refine (toHitS 0 _ _ _ _ xs _ (HX1.out.no C0) (by omega)).mono ?_); rintro e w2 ⟨v, rfl, ho, hc2⟩)
      obtain ⟨A2, c2, rfl, R2⟩ := ho.read
      have C2 := C0.no hc2
      have hm2 := R2.cap
      have hk2 := R2.le
      replace R2 := hid R2
      clear ho
      (go_wp2_with fail; (with_reducible refine (toHitS 0 _ _ _ _ ys _ (HX2.out.no C2) (by omega)).mono ?_); rintro e w3 ⟨v, rfl, ho, hc3⟩)
      obtain ⟨A3, c3, rfl, R3⟩ := ho.read
      have C3 := C2.no hc3
      have hm3 := R3.cap
      have hk3 := R3.le
      replace R3 := hid R3
      clear ho
      (go_wp2_with fail; (with_reducible refine (sRecallOf _ _ _ _ _ _ _ _ _ _ xs ys _ (R2.out.no hc3) R3.out).mono ?_); rintro e w4 ⟨rfl, hc4⟩)
      have C4 := C3.no hc4
      (go_wp2_with fail; (with_reducible refine (toHitS 0 _ _ _ _ xs _ (HX1.out.no C4) (by omega)).mono ?_); rintro e w5 ⟨v, rfl, ho, hc5⟩)
      obtain ⟨A5, c5, rfl, R5⟩ := ho.read
      have C5 := C4.no hc5
      have hm5 := R5.cap
      have hk5 := R5.le
      replace R5 := hid R5
      clear ho
      (go_wp2_with fail; (with_reducible refine (toHitS 0 _ _ _ _ ys _ (HX2.out.no C5) (by omega)).mono ?_); rintro e w6 ⟨v, rfl, ho, hc6⟩)
      obtain ⟨A6, c6, rfl, R6⟩ := ho.read
      have C6 := C5.no hc6
      have hm6 := R6.cap
      have hk6 := R6.le
      replace R6 := hid R6
      clear ho
      (go_wp2_with fail; (with_reducible refine (iRecallOf _ _ _ _ _ _ _ _ _ _ xs ys _ (R5.out.no hc6) R6.out).mono ?_); rintro e w7 ⟨rfl, hc7⟩)
      have C7 := C6.no hc7
      (go_wp2_with fail; (with_reducible refine (toHitS 0 _ _ _ _ xs _ (HX1.out.no C7) (by omega)).mono ?_); rintro e w8 ⟨v, rfl, ho, hc8⟩)
      obtain ⟨A8, c8, rfl, R8⟩ := ho.read
      have C8 := C7.no hc8
      have hm8 := R8.cap
      have hk8 := R8.le
      replace R8 := hid R8
      clear ho
      (go_wp2_with fail; (with_reducible refine (eqHitS _ _ _ _ _ _ _ _ _ xs _ (R5.out.no ((hc6.no hc7).no hc8)) R8.out).mono ?_); rintro e w9 ⟨rfl, hc9⟩)
      have C9 := C8.no hc9
      (go_wp2_with fail; (with_reducible refine (toHitS 0 _ _ _ _ ys _ (HX2.out.no C9) (by omega)).mono ?_); rintro e w10 ⟨v, rfl, ho, hc10⟩)
      obtain ⟨A10, c10, rfl, R10⟩ := ho.read
      have C10 := C9.no hc10
      have hm10 := R10.cap
      have hk10 := R10.le
      replace R10 := hid R10
      clear ho
      (go_wp2_with fail; (with_reducible refine (eqHitS _ _ _ _ _ _ _ _ _ ys _ (R6.out.no (((hc7.no hc8).no hc9).no hc10)) R10.out).mono ?_); rintro e w11 ⟨rfl, hc11⟩)
      have C11 := C10.no hc11
      go_wp2
      go_ret
      exact ⟨rfl, C11⟩

set_option maxRecDepth 100000 in
theorem lifted (os : Os) (started : os.Started) (H : Type) (enc : TypeId × Value → H) :
    ReturnsInHanded {} Try.checked os 5 .any (Rows.fnExactRecallOfSpec.pre6 enc Try.prog Try.f5 Rows.fnExactRecallOfRow.domain false) (Rows.fnExactRecallOfSpec.post enc Try.prog Try.f5 false true false false) := by
  refine returnsInHanded_of_change (C := Try.checked) own started (by kernel_rfl) Try.func5
    (ChangeSpec.witness6 (enc := enc) (C := Try.checked) false ⟨#[], #[.slice none 0 0, .slice none 0 0], []⟩ 8 (by kernel_rfl) (by kernel_rfl) (by kernel_rfl) (by kernel_rfl)) ?_
  intro W base args ds gs before hval0 hW hcnd _
  have hval : ∀ (j : Nat) t v, Try.f5.params[j]? = some t → args[j]? = some v → Value.okWide Try.prog W .any base t v := hval0
  have hW' := hW
  obtain ⟨p, q, hA0, hV, rfl, hfz, hnd⟩ := hW
  have hA : DataW.TrodAll enc Try.prog W 0 (fun _ => true) true Try.f5.params.toList args.toList ds p := hA0
  rw [Try.params5] at hA hval
  obtain ⟨v0, vs0, d0, ds0, p0, q0, hargs, rfl, rfl, h0, r0⟩ := trodAll_cons hA
  obtain ⟨v1, vs1, d1, ds1, p1, q1, rfl, rfl, rfl, h1, r1⟩ := trodAll_cons r0
  obtain ⟨rfl, rfl, rfl⟩ := trodAll_nil r1
  obtain rfl : args = #[v0, v1] := by cases args; simp_all
  obtain ⟨rfl, rfl⟩ := trodVars_none hV
  have k0 := h0
  have lt0 : ∀ x ∈ p0, x.block < W.heap.size := by obtain ⟨m, hm⟩ := k0; exact DataW.trod_lt m _ _ _ hm
  have k1 := h1
  have lt1 : ∀ x ∈ p1, x.block < W.heap.size := by obtain ⟨m, hm⟩ := k1; exact DataW.trod_lt m _ _ _ hm
  obtain ⟨a0, n0, c0, x0, rfl, w0⟩ := open_hits (hval 0 22 v0 rfl rfl) h0
  obtain ⟨a1, n1, c1, x1, rfl, w1⟩ := open_hits (hval 1 22 v1 rfl rfl) h1
  clear hA0 hval0
  refine (walk a0 n0 c0 x0 a1 n1 c1 x1 W w0 w1).mono fun e W' ⟨he, bel0⟩ => ?_
  have bel := bel0.below
  subst he
  exact ⟨_, rfl, _, _, _, [], _, [], hW', trodAll_mk1 (shut_bool Try.underlying4 _), (trodAll_cons_mk (Below.trod laidOut (by kernel_rfl) (of_decide_eq_true (by kernel_rfl)) k0 bel lt0) (trodAll_cons_mk (Below.trod laidOut (by kernel_rfl) (of_decide_eq_true (by kernel_rfl)) k1 bel lt1) trodAll_mk0)), rfl, bel.frame _, fun h => by cases h⟩

theorem over : Rows.fnExactRecallOfRow.holds Try.pinned (OpenSpec.ofChange Rows.fnExactRecallOfSpec) :=
  OpenClaim.holds_of_wide 5 Try.f5 rfl rfl rfl rfl rfl rfl rfl ⟨rfl, rfl, rfl, rfl, rfl⟩ rfl rfl rfl rfl rfl (by kernel_rfl) Try.func5 (by kernel_rfl)
    (of_decide_eq_true (by kernel_rfl)) (by unfold Func.isWrapper; first | (rw [if_pos (by decide +kernel)]; kernel_rfl) | (rw [if_neg (by decide +kernel)]; exact ⟨rfl, rfl⟩))
    (fun os started H enc _ => lifted os started H enc)

theorem proved : Rows.FnExactRecallOfSaid := over
#print axioms proved

end lawExactRecallOf
end Go.Proofs.Ythbakgblchhooaa
