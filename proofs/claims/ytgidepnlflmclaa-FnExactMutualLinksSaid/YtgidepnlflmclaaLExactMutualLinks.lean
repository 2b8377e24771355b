/- FnExactMutualLinks: the program's MutualLinks answers as the reference's, and its answer's memory is its own. No condition. -/
import Derived.Test.YtgidepnlflmclaaLift2
import Derived.Test.YtgidepnlflmclaaLawI
import Derived.Test.YtgidepnlflmclaaLinksJ
import Derived.Test.YtgidepnlflmclaaMutS
namespace Go.Proofs.Ytgidepnlflmclaa
open Go.ChangeShapes Go.WideShapes Go.ChangeAt Go.RowKit Go.Shelf
set_option linter.unusedVariables false
set_option linter.unusedSimpArgs false
namespace lawExactMutualLinks
theorem mut_cost {xs : List It} {kind many : Int} : (MutF xs kind many).length ≤ 256 ∧ ∀ r ∈ MutF xs kind many, r.length ≤ 16 := by
  unfold MutF
  split
  · rename_i h
    have hok := linkB_ok h
    have h16 := storeB_len hok.store
    refine ⟨?_, fun r hr => ?_⟩
    · have h1 := mutL_len xs kind many
      have h2 : xs.length * xs.length ≤ 16 * 16 := Nat.mul_le_mul h16 h16
      omega
    · obtain ⟨i, k, _, _, _, rfl⟩ := mutL_row hr
      simp
  · exact ⟨by simp, fun r hr => by cases hr⟩
set_option maxRecDepth 100000 in
set_option maxHeartbeats 8000000 in
theorem walk (A : Option Addr) (n c : Nat) (xs : List It) (kind many : Int) (w : World)
    (hx : RItems w 0 w.heap.size A n c xs) (_ : (Lit.int .i64 kind).wf = true) (_ : (Lit.int .i64 many).wf = true) : Calls Try.prog 8 #[.slice A n c, .int .i64 kind, .int .i64 many] w fun e w' => e = .returned (.bool true) ∧ Chg No w w' := by
  have hnc := hx.le; have hcm := hx.cap
  have HX := hid hx
  clear hx
  go_enter Try.func8, Try.ntmps8
  (go_wp2_with fail; (with_reducible refine (szItemS _ _ _ _ _ xs _ _ HX.out (by omega) (by omega)).mono ?_); rintro e w1 ⟨r, rfl, hc1, hr0, hr1, hr2⟩)
  by_cases hr : r < 0
  · go_wp2
    go_ret
    exact ⟨rfl, by (repeat (first | (with_reducible exact Chg.refl _ _) | ((with_reducible refine Chg.setNew ?_ _ ?_); rotate_left; first | (dsimp only; omega) | (simp; done) | (simp; omega)) | (with_reducible refine Chg.alloc ?_ _) | (with_reducible refine Chg.drew ?_) | (with_reducible refine Chg.drewN ?_ _) | (with_reducible refine Chg.no ?_ (by assumption)) | (with_reducible refine Chg.and_ ?_ (by assumption)) | ((with_reducible refine Chg.at_ ?_ (by assumption) ?_); rotate_left; (try simp only [World.size_alloc]); omega)))⟩
  · have hr' : 0 ≤ r := by omega
    obtain ⟨hln, hlv⟩ := hr2 hr'
    have hn : n ≤ 1048576 := by have := HX.out.len; omega
    have HV := hid (show ∀ x ∈ xs, x.vec.length ≤ 1048576 from fun x hx => by have := hlv x hx; omega)
    obtain ⟨hL16, hR16⟩ := mut_cost (xs := xs) (kind := kind) (many := many)
    obtain ⟨L, hL⟩ : ∃ L, MutF xs kind many = L := ⟨_, rfl⟩
    have KS := hid (fun W l0 h0 A n c (h : RItems W l0 h0 A n c xs) => sMutualLinks l0 h0 A n c xs kind many W h)
    have KI := hid (fun W l0 h0 A n c (h : RItems W l0 h0 A n c xs) => iMutualLinks l0 h0 A n c xs kind many W h)
    have KT := hid (fun W (h : RItems W 0 w.heap.size A n c xs) => toItemS 0 w.heap.size A n c xs W h hn HV.out)
    rw [hL] at KS KI hL16 hR16
    have hcx := costI_le HV.out
    have hcx0 := costI_nonneg xs
    have hxl : xs.length ≤ 1048576 := by omega
    have hcx2 : costI xs ≤ 100000000000000 := by
      have : (xs.length : Int) * (2 + ((1048576 : Nat) : Int)) ≤ 1048576 * 1048578 := Int.mul_le_mul (by omega) (by omega) (by omega) (by omega)
      omega
    have hcl := costR_le hR16
    have hcl0 := costR_nonneg L
    have hcl2 : costR L ≤ 1000000 := by
      have : (L.length : Int) * ((16 : Nat) : Int) ≤ 256 * 16 := Int.mul_le_mul (by omega) (by omega) (by omega) (by omega)
      omega
    have s1 := hc1.size
    clear hr hr2 hln hlv hL hcx hxl hcl hr0 hr1 hR16
    (go_wp2_with fail; (with_reducible refine (KT.out _ (HX.out.no hc1)).mono ?_); rintro e w2 ⟨v2, rfl, ho2, hc2⟩)
    have q2 := hc1.no hc2
    obtain ⟨A2, c2, hv2, hr2⟩ := OItemsR.read ho2.r
    subst hv2
    have hp2 := hr2.cap; have hl2 := hr2.le
    have R2 := hid hr2
    have O2 := hid ho2.r
    have s2 := hc2.size
    clear hr2 ho2
    (go_wp2_with fail; (with_reducible refine (KS.out _ _ _ _ _ _ R2.out).mono ?_); rintro e w3 ⟨v3, rfl, ho3, hc3⟩)
    have q3 := q2.no hc3
    obtain ⟨A3, c3, rfl, hr3⟩ := ORows.read ho3
    have hp3 := hr3.cap; have hl3 := hr3.le
    have W3 := hid (hr3.wide (lo' := 0) (Nat.zero_le _) (Nat.le_refl _))
    have s3 := hc3.size
    clear ho3 hr3
    (go_wp2_with fail; (with_reducible refine (KT.out _ (HX.out.no q3)).mono ?_); rintro e w4 ⟨v4, rfl, ho4, hc4⟩)
    have q4 := q3.no hc4
    obtain ⟨A4, c4, hv4, hr4⟩ := OItemsR.read ho4.r
    subst hv4
    have hp4 := hr4.cap; have hl4 := hr4.le
    have R4 := hid hr4
    have O4 := hid ho4.r
    have s4 := hc4.size
    clear hr4 ho4
    (go_wp2_with fail; (with_reducible refine (KI.out _ _ _ _ _ _ R4.out).mono ?_); rintro e w5 ⟨v5, rfl, ho5, hc5⟩)
    have q5 := q4.no hc5
    obtain ⟨A5, c5, rfl, hr5⟩ := ORows.read ho5
    have hp5 := hr5.cap; have hl5 := hr5.le
    have R5 := hid hr5; have O5 := hid ho5.r
    have s5 := hc5.size
    have d35 : Chg No w3 w5 := hc4.no hc5
    clear ho5 hr5
    (go_wp2_with fail; (with_reducible refine (eqIntSS _ _ _ _ _ _ _ _ _ L _ R5.out (W3.out.no d35)).mono ?_); rintro e w6 ⟨rfl, hc6⟩)
    have q6 := q5.no hc6
    (go_wp2_with fail; (with_reducible refine (KT.out _ (HX.out.no q6)).mono ?_); rintro e w7 ⟨v7, rfl, ho7, hc7⟩)
    have q7 := q6.no hc7
    obtain ⟨A7, c7, hv7, hr7⟩ := OItemsR.read ho7.r
    subst hv7
    have hp7 := hr7.cap; have hl7 := hr7.le
    have R7 := hid hr7
    have O7 := hid ho7.r
    have s7 := hc7.size
    clear hr7 ho7
    have d47 : Chg No w4 w7 := (hc5.no hc6).no hc7
    (go_wp2_with fail; (with_reducible refine (eqItemS _ _ _ _ _ _ _ _ _ xs _ (R4.out.no d47) R7.out).mono ?_); rintro e w8 ⟨rfl, hc8⟩)
    have q8 := q7.no hc8
    have d48 := d47.no hc8
    have d58 : Chg No w5 w8 := (hc6.no hc7).no hc8
    have d38 : Chg No w3 w8 := d35.no d58
    have s8 := d58.size
    (go_wp2_with fail; (with_reducible refine (markItemS _ _ _ _ _ xs 1 _ (O4.out.no d48) (by omega) (by omega)).mono ?_); rintro e w9 ⟨rfl, _, hc9⟩)
    have s9 := hc9.size
    have R9 := hid ((R5.out.no d58).keep hc9 (fun k h1 h2 h3 => by omega))
    have W9 := hid ((W3.out.no d38).keep hc9 (fun k h1 h2 h3 => by omega))
    have G9 := hid ((O5.out.no d58).keep hc9 (fun k h1 h2 h3 => by omega))
    have q9 : Chg No w w9 := q8.trans hc9 (fun i hi h => by omega)
    have j1 : decide (1 + costI xs < 0) = false := decide_eq_false (by omega)
    (go_wp2_with fail; (with_reducible refine (eqIntSS _ _ _ _ _ _ _ _ _ L _ R9.out W9.out).mono ?_); rintro e w10 ⟨rfl, hc10⟩)
    have s10 := hc10.size
    (go_wp2_with fail; (with_reducible refine (markIntSS _ _ _ _ _ L 1 _ (G9.out.no hc10) (by omega) (by omega)).mono ?_); rintro e w11 ⟨rfl, ho11, hc11⟩)
    have s11 := hc11.size
    have W11 := hid ((W9.out.no hc10).keep hc11 (fun k h1 h2 h3 => by omega))
    have q11 : Chg No w w11 := (q9.no hc10).trans hc11 (fun i hi h => by omega)
    obtain ⟨A11, c11, hv11, hr11⟩ := ORowsR.read ho11
    rw [markedR_len] at hv11 hr11
    injection hv11 with z1 z2 z3
    subst z1 z3
    have M11 := hid hr11
    clear ho11 hr11 z2
    (go_wp2_with fail; (with_reducible refine (heldIntSS _ _ _ _ _ L 1 _ M11.out (by omega) (by omega)).mono ?_); rintro e w12 ⟨rfl, rfl⟩)
    have j2 : decide (1 + costR L < 0) = false := decide_eq_false (by omega)
    have j3 : ((1 + costR L) != (1 + costR L)) = false := by simp
    (go_wp2_with fail; (with_reducible refine (KT.out _ (HX.out.no q11)).mono ?_); rintro e w13 ⟨v13, rfl, ho13, hc13⟩)
    have q13 := q11.no hc13
    obtain ⟨A13, c13, hv13, hr13⟩ := OItemsR.read ho13.r
    subst hv13
    have hp13 := hr13.cap; have hl13 := hr13.le
    have R13 := hid hr13
    have O13 := hid ho13.r
    have s13 := hc13.size
    clear hr13 ho13
    (go_wp2_with fail; (with_reducible refine (KI.out _ _ _ _ _ _ R13.out).mono ?_); rintro e w14 ⟨v14, rfl, ho14, hc14⟩)
    have q14 := q13.no hc14
    obtain ⟨A14, c14, rfl, hr14⟩ := ORows.read ho14
    have hp14 := hr14.cap; have hl14 := hr14.le
    have R14 := hid hr14
    have d11 : Chg No w11 w14 := hc13.no hc14
    clear ho14 hr14
    (go_wp2_with fail; (with_reducible refine (eqIntSS _ _ _ _ _ _ _ _ _ L _ R14.out (W11.out.no d11)).mono ?_); rintro e w15 ⟨rfl, hc15⟩)
    (go_wp2_with fail; (with_reducible refine (heldIntSS _ _ _ _ _ L 1 _ (M11.out.no (d11.no hc15)) (by omega) (by omega)).mono ?_); rintro e w16 ⟨rfl, rfl⟩)
    go_wp2
    go_ret
    exact ⟨rfl, q14.no hc15⟩

set_option maxRecDepth 100000 in
theorem lifted (os : Os) (started : os.Started) (H : Type) (enc : TypeId × Value → H) :
    ReturnsInHanded {} Try.checked os 8 .any (Rows.fnExactMutualLinksSpec.pre6 enc Try.prog Try.f8 Rows.fnExactMutualLinksRow.domain false) (Rows.fnExactMutualLinksSpec.post enc Try.prog Try.f8 false true false false) := by
  refine returnsInHanded_of_change (C := Try.checked) own started (by kernel_rfl) Try.func8
    (ChangeSpec.witness6 (enc := enc) (C := Try.checked) false ⟨#[], #[.slice none 0 0, .int .i64 0, .int .i64 0], []⟩ 8 (by kernel_rfl) (by kernel_rfl) (by kernel_rfl) (by kernel_rfl)) ?_
  intro W base args ds gs before hval0 hW hcnd _
  have hval : ∀ (j : Nat) t v, Try.f8.params[j]? = some t → args[j]? = some v → Value.okWide Try.prog W .any base t v := hval0
  have hW' := hW
  obtain ⟨p, q, hA0, hV, rfl, hfz, hnd⟩ := hW
  have hA : DataW.TrodAll enc Try.prog W 0 (fun _ => true) true Try.f8.params.toList args.toList ds p := hA0
  rw [Try.params8] at hA hval
  obtain ⟨v0, vs0, d0, ds0, p0, q0, hargs, rfl, rfl, h0, r0⟩ := trodAll_cons hA
  obtain ⟨v1, vs1, d1, ds1, p1, q1, rfl, rfl, rfl, h1, r1⟩ := trodAll_cons r0
  obtain ⟨v2, vs2, d2, ds2, p2, q2, rfl, rfl, rfl, h2, r2⟩ := trodAll_cons r1
  obtain ⟨rfl, rfl, rfl⟩ := trodAll_nil r2
  obtain rfl : args = #[v0, v1, v2] := by cases args; simp_all
  obtain ⟨rfl, rfl⟩ := trodVars_none hV
  have k0 := h0
  have lt0 : ∀ x ∈ p0, x.block < W.heap.size := by obtain ⟨m, hm⟩ := k0; exact DataW.trod_lt m _ _ _ hm
  have k1 := h1
  have lt1 : ∀ x ∈ p1, x.block < W.heap.size := by obtain ⟨m, hm⟩ := k1; exact DataW.trod_lt m _ _ _ hm
  have k2 := h2
  have lt2 : ∀ x ∈ p2, x.block < W.heap.size := by obtain ⟨m, hm⟩ := k2; exact DataW.trod_lt m _ _ _ hm
  obtain ⟨a0, n0, c0, x0, rfl, w0⟩ := open_items (hval 0 22 v0 rfl rfl) h0
  obtain ⟨a1, rfl, _, _, w1⟩ := open_int Try.underlying3 (hval 1 3 v1 rfl rfl) h1
  obtain ⟨a2, rfl, _, _, w2⟩ := open_int Try.underlying3 (hval 2 3 v2 rfl rfl) h2
  clear hA0 hval0
  refine (walk a0 n0 c0 x0 a1 a2 W w0 w1 w2).mono fun e W' ⟨he, bel0⟩ => ?_
  have bel := bel0.below
  subst he
  exact ⟨_, rfl, _, _, _, [], _, [], hW', trodAll_mk1 (shut_bool Try.underlying4 _), (trodAll_cons_mk (Below.trod laidOut (by kernel_rfl) (of_decide_eq_true (by kernel_rfl)) k0 bel lt0) (trodAll_cons_mk (Below.trod laidOut (by kernel_rfl) (of_decide_eq_true (by kernel_rfl)) k1 bel lt1) (trodAll_cons_mk (Below.trod laidOut (by kernel_rfl) (of_decide_eq_true (by kernel_rfl)) k2 bel lt2) trodAll_mk0))), rfl, bel.frame _, fun h => by cases h⟩

theorem over : Rows.fnExactMutualLinksRow.holds Try.pinned (OpenSpec.ofChange Rows.fnExactMutualLinksSpec) :=
  OpenClaim.holds_of_wide 8 Try.f8 rfl rfl rfl rfl rfl rfl rfl ⟨rfl, rfl, rfl, rfl, rfl⟩ rfl rfl rfl rfl rfl (by kernel_rfl) Try.func8 (by kernel_rfl)
    (of_decide_eq_true (by kernel_rfl)) (by unfold Func.isWrapper; first | (rw [if_pos (by decide +kernel)]; kernel_rfl) | (rw [if_neg (by decide +kernel)]; exact ⟨rfl, rfl⟩))
    (fun os started H enc _ => lifted os started H enc)

theorem proved : Rows.FnExactMutualLinksSaid := over
#print axioms proved

end lawExactMutualLinks
end Go.Proofs.Ytgidepnlflmclaa
