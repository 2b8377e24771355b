/- FnBothFiltersOrder: the filter for two is the same in both orders, and with the open filter it is the filter. No condition. -/
import Derived.Test.YtmkfmefkbcfjnaaLift
import Derived.Test.YtmkfmefkbcfjnaaFilt4
import Derived.Test.YtmkfmefkbcfjnaaFilt2
import Derived.Test.YtmkfmefkbcfjnaaBits
namespace Go.Proofs.Ytmkfmefkbcfjnaa.lawBothFiltersOrder
open Go.ChangeShapes Go.WideShapes Go.ChangeAt Go.RowKit
set_option linter.unusedVariables false
set_option maxHeartbeats 2000000 in
theorem walk (A : Option Addr) (n c : Nat) (w : World) (hC : Code w w.heap.size A n c) : Calls Try.prog 7 #[.slice A n c] w fun e w' => e = .returned (.bool true) ∧ Chg No w w' := by
  have hn1 := hC.1
  have hn2 := hC.2.1
  by_cases hbig : 1048576 < n
  · go_enter Try.func7, Try.ntmps7
    go_wp2
    go_ret
    exact ⟨rfl, Chg.refl _ _⟩
  · go_enter Try.func7, Try.ntmps7
    (go_wp2_with fail; refine (drawBothFilters A n c _ hC).mono ?_; rintro e w1 ⟨x1, x2, x3, y1, y2, y3, rfl, hc1⟩)
    cases hf : bothOk x1 x2 x3 y1 y2 y3 with
    | false =>
      (go_wp2_with fail; refine (iBothNo hf _).mono ?_; rintro e w2 ⟨rfl, hc2⟩)
      have BF2 := ((Box.new (g := w1.heap.size) [.int .i64 x1, .int .i64 x2, .int .i64 x3] _ rfl).alloc _).no hc2; have bF2 := BF2.f3; have lF2 := BF2.lt
      have BG2 := (Box.new (g := w1.heap.size + 1) [.int .i64 y1, .int .i64 y2, .int .i64 y3] _ (by simp)).no hc2; have bG2 := BG2.f3; have lG2 := BG2.lt
      (go_wp2_with fail; refine (sBothNo hf _).mono ?_; rintro e w3 ⟨rfl, hc3⟩)
      have BH3 := (Box.new (g := w2.heap.size) [.int .i64 0, .int .i64 0, .int .i64 0] _ rfl).no hc3; have bH3 := BH3.f3; have lH3 := BH3.lt
      go_wp2
      go_ret
      exact ⟨by simp, by (repeat (first | (with_reducible exact Chg.refl _ _) | ((with_reducible refine Chg.setNew ?_ _ ?_); rotate_left; first | (dsimp only; omega) | (simp; done) | (simp; omega)) | (with_reducible refine Chg.alloc ?_ _) | (with_reducible refine Chg.drew ?_) | (with_reducible refine Chg.drewN ?_ _) | (with_reducible refine Chg.no ?_ (by assumption)) | (with_reducible refine Chg.and_ ?_ (by assumption)) | ((with_reducible refine Chg.at_ ?_ (by assumption) ?_); rotate_left; (try simp only [World.size_alloc]); omega)))⟩
    | true =>
      have hf' : bothOk y1 y2 y3 x1 x2 x3 = true := by unfold bothOk at hf ⊢; simp_all; omega
      have hfil : filterB x1 x2 x3 = true := by unfold bothOk at hf; simp_all
      have hopen : bothOk x1 x2 x3 0 0 0 = true := by unfold bothOk; rw [hfil]; simp [filterB, tagsB, inB]
      have t1 : tagsB x1 = true ∧ tagsB x2 = true ∧ tagsB x3 = true := by unfold filterB at hfil; simp_all
      have o1 := or_zero_ t1.1; have o2 := or_zero_ t1.2.1; have o3 := or_zero_ t1.2.2
      obtain ⟨z1, hz1⟩ : ∃ z, bits .or .i64 x1 y1 = z := ⟨_, rfl⟩
      obtain ⟨z2, hz2⟩ : ∃ z, bits .or .i64 x2 y2 = z := ⟨_, rfl⟩
      obtain ⟨z3, hz3⟩ : ∃ z, bits .or .i64 x3 y3 = z := ⟨_, rfl⟩
      have K1 := hid (fun W => iBothYes hf hz1 hz2 hz3 W)
      have K2 := hid (fun W => sBothYes hf hz1 hz2 hz3 W)
      have K3 := hid (fun W => iBothYes hf' ((or_comm_ _ _).trans hz1) ((or_comm_ _ _).trans hz2) ((or_comm_ _ _).trans hz3) W)
      have K4 := hid (fun W => iBothYes hopen o1 o2 o3 W)
      clear o1 o2 o3 hz1 hz2 hz3 t1 hf' hfil hopen
      (go_wp2_with fail; refine (K1.out _).mono ?_; rintro e w2 ⟨rfl, hc2⟩)
      have BF2 := ((Box.new (g := w1.heap.size) [.int .i64 x1, .int .i64 x2, .int .i64 x3] _ rfl).alloc _).no hc2; have bF2 := BF2.f3; have lF2 := BF2.lt
      have BG2 := (Box.new (g := w1.heap.size + 1) [.int .i64 y1, .int .i64 y2, .int .i64 y3] _ (by simp)).no hc2; have bG2 := BG2.f3; have lG2 := BG2.lt
      (go_wp2_with fail; refine (K2.out _).mono ?_; rintro e w3 ⟨rfl, hc3⟩)
      have BH3 := (Box.new (g := w2.heap.size) [.int .i64 z1, .int .i64 z2, .int .i64 z3] _ rfl).no hc3; have bH3 := BH3.f3; have lH3 := BH3.lt
      have BF3 := BF2.no (Chg.no (by (repeat (first | (with_reducible exact Chg.refl _ _) | ((with_reducible refine Chg.setNew ?_ _ ?_); rotate_left; first | (dsimp only; omega) | (simp; done) | (simp; omega)) | (with_reducible refine Chg.alloc ?_ _) | (with_reducible refine Chg.drew ?_) | (with_reducible refine Chg.drewN ?_ _) | (with_reducible refine Chg.no ?_ (by assumption)) | (with_reducible refine Chg.and_ ?_ (by assumption)) | ((with_reducible refine Chg.at_ ?_ (by assumption) ?_); rotate_left; (try simp only [World.size_alloc]); omega)))) hc3); have bF3 := BF3.f3; have lF3 := BF3.lt
      have BG3 := BG2.no (Chg.no (by (repeat (first | (with_reducible exact Chg.refl _ _) | ((with_reducible refine Chg.setNew ?_ _ ?_); rotate_left; first | (dsimp only; omega) | (simp; done) | (simp; omega)) | (with_reducible refine Chg.alloc ?_ _) | (with_reducible refine Chg.drew ?_) | (with_reducible refine Chg.drewN ?_ _) | (with_reducible refine Chg.no ?_ (by assumption)) | (with_reducible refine Chg.and_ ?_ (by assumption)) | ((with_reducible refine Chg.at_ ?_ (by assumption) ?_); rotate_left; (try simp only [World.size_alloc]); omega)))) hc3); have bG3 := BG3.f3; have lG3 := BG3.lt
      (go_wp2_with fail; refine (K3.out _).mono ?_; rintro e w4 ⟨rfl, hc4⟩)
      have BH4 := BH3.no (Chg.no (by (repeat (first | (with_reducible exact Chg.refl _ _) | ((with_reducible refine Chg.setNew ?_ _ ?_); rotate_left; first | (dsimp only; omega) | (simp; done) | (simp; omega)) | (with_reducible refine Chg.alloc ?_ _) | (with_reducible refine Chg.drew ?_) | (with_reducible refine Chg.drewN ?_ _) | (with_reducible refine Chg.no ?_ (by assumption)) | (with_reducible refine Chg.and_ ?_ (by assumption)) | ((with_reducible refine Chg.at_ ?_ (by assumption) ?_); rotate_left; (try simp only [World.size_alloc]); omega)))) hc4); have bH4 := BH4.f3; have lH4 := BH4.lt
      have BF4 := BF3.no (Chg.no (by (repeat (first | (with_reducible exact Chg.refl _ _) | ((with_reducible refine Chg.setNew ?_ _ ?_); rotate_left; first | (dsimp only; omega) | (simp; done) | (simp; omega)) | (with_reducible refine Chg.alloc ?_ _) | (with_reducible refine Chg.drew ?_) | (with_reducible refine Chg.drewN ?_ _) | (with_reducible refine Chg.no ?_ (by assumption)) | (with_reducible refine Chg.and_ ?_ (by assumption)) | ((with_reducible refine Chg.at_ ?_ (by assumption) ?_); rotate_left; (try simp only [World.size_alloc]); omega)))) hc4); have bF4 := BF4.f3; have lF4 := BF4.lt
      (go_wp2_with fail; refine (K4.out _).mono ?_; rintro e w5 ⟨rfl, hc5⟩)
      have BA5 := (Box.new (g := w4.heap.size) [.int .i64 z1, .int .i64 z2, .int .i64 z3] _ rfl).no hc5; have bA5 := BA5.f3; have lA5 := BA5.lt
      have BH5 := BH4.no (Chg.no (by (repeat (first | (with_reducible exact Chg.refl _ _) | ((with_reducible refine Chg.setNew ?_ _ ?_); rotate_left; first | (dsimp only; omega) | (simp; done) | (simp; omega)) | (with_reducible refine Chg.alloc ?_ _) | (with_reducible refine Chg.drew ?_) | (with_reducible refine Chg.drewN ?_ _) | (with_reducible refine Chg.no ?_ (by assumption)) | (with_reducible refine Chg.and_ ?_ (by assumption)) | ((with_reducible refine Chg.at_ ?_ (by assumption) ?_); rotate_left; (try simp only [World.size_alloc]); omega)))) hc5); have bH5 := BH5.f3; have lH5 := BH5.lt
      have BF5 := BF4.no (Chg.no (by (repeat (first | (with_reducible exact Chg.refl _ _) | ((with_reducible refine Chg.setNew ?_ _ ?_); rotate_left; first | (dsimp only; omega) | (simp; done) | (simp; omega)) | (with_reducible refine Chg.alloc ?_ _) | (with_reducible refine Chg.drew ?_) | (with_reducible refine Chg.drewN ?_ _) | (with_reducible refine Chg.no ?_ (by assumption)) | (with_reducible refine Chg.and_ ?_ (by assumption)) | ((with_reducible refine Chg.at_ ?_ (by assumption) ?_); rotate_left; (try simp only [World.size_alloc]); omega)))) hc5); have bF5 := BF5.f3; have lF5 := BF5.lt
      go_wp2
      go_ret
      exact ⟨by simp, by (repeat (first | (with_reducible exact Chg.refl _ _) | ((with_reducible refine Chg.setNew ?_ _ ?_); rotate_left; first | (dsimp only; omega) | (simp; done) | (simp; omega)) | (with_reducible refine Chg.alloc ?_ _) | (with_reducible refine Chg.drew ?_) | (with_reducible refine Chg.drewN ?_ _) | (with_reducible refine Chg.no ?_ (by assumption)) | (with_reducible refine Chg.and_ ?_ (by assumption)) | ((with_reducible refine Chg.at_ ?_ (by assumption) ?_); rotate_left; (try simp only [World.size_alloc]); omega)))⟩

set_option maxRecDepth 100000 in
theorem lifted (os : Os) (started : os.Started) (H : Type) (enc : TypeId × Value → H) :
    ReturnsInHanded {} Try.checked os 7 .any (Rows.fnBothFiltersOrderSpec.pre6 enc Try.prog Try.f7 Rows.fnBothFiltersOrderRow.domain false) (Rows.fnBothFiltersOrderSpec.post enc Try.prog Try.f7 false true false false) := by
  refine returnsInHanded_of_change (C := Try.checked) own started (by kernel_rfl) Try.func7
    (ChangeSpec.witness6 (enc := enc) (C := Try.checked) false ⟨#[], #[.slice none 0 0], []⟩ 8 (by kernel_rfl) (by kernel_rfl) (by kernel_rfl) (by kernel_rfl)) ?_
  intro W base args ds gs before hval0 hW hcnd _
  have hval : ∀ (j : Nat) t v, Try.f7.params[j]? = some t → args[j]? = some v → Value.okWide Try.prog W .any base t v := hval0
  have hW' := hW
  obtain ⟨p, q, hA0, hV, rfl, hfz, hnd⟩ := hW
  have hA : DataW.TrodAll enc Try.prog W 0 (fun _ => true) true Try.f7.params.toList args.toList ds p := hA0
  rw [Try.params7] at hA hval
  obtain ⟨v0, vs0, d0, ds0, p0, q0, hargs, rfl, rfl, h0, r0⟩ := trodAll_cons hA
  obtain ⟨rfl, rfl, rfl⟩ := trodAll_nil r0
  obtain rfl : args = #[v0] := by cases args; simp_all
  obtain ⟨rfl, rfl⟩ := trodVars_none hV
  obtain ⟨a0, len0, cap0, rfl⟩ := okWide_slice Try.underlying34 (hval 0 34 v0 rfl rfl)
  have k0 := h0
  have lt0 : ∀ x ∈ p0, x.block < W.heap.size := by obtain ⟨m, hm⟩ := k0; exact DataW.trod_lt m _ _ _ hm
  have w0 : Code W W.heap.size a0 len0 cap0 := by
    obtain ⟨fuel, hf⟩ := h0
    rcases open_ints Try.underlying34 Try.underlying5 (by kernel_rfl) hf with ⟨hcs, _⟩ | ⟨x, l, c, zs, hcs, _, hl, hm, hz, _, hcell, hwz⟩
    · simp [Value.cells] at hcs
      obtain ⟨rfl, rfl, rfl⟩ := hcs
      exact code_nil _
    · simp [Value.cells] at hcs
      obtain ⟨rfl, rfl, rfl⟩ := hcs
      exact code_row hl hm (by simpa using hz) hcell hwz
  clear hA0 hval0
  refine (walk a0 len0 cap0 W w0).mono fun e W' ⟨he, bel0⟩ => ?_
  have bel := bel0.below
  subst he
  exact ⟨_, rfl, _, _, _, [], _, [], hW', trodAll_mk1 (shut_bool Try.underlying4 _), (trodAll_cons_mk (Below.trod laidOut (by kernel_rfl) (of_decide_eq_true (by kernel_rfl)) k0 bel lt0) trodAll_mk0), rfl, bel.frame _, fun h => by cases h⟩

theorem over : Rows.fnBothFiltersOrderRow.holds Try.pinned (OpenSpec.ofChange Rows.fnBothFiltersOrderSpec) :=
  OpenClaim.holds_of_wide 7 Try.f7 rfl rfl rfl rfl rfl rfl rfl ⟨rfl, rfl, rfl, rfl, rfl⟩ rfl rfl rfl rfl rfl (by kernel_rfl) Try.func7 (by kernel_rfl)
    (of_decide_eq_true (by kernel_rfl)) (by unfold Func.isWrapper; first | (rw [if_pos (by decide +kernel)]; kernel_rfl) | (rw [if_neg (by decide +kernel)]; exact ⟨rfl, rfl⟩))
    (fun os started H enc _ => lifted os started H enc)

theorem proved : Rows.FnBothFiltersOrderSaid := over
#print axioms proved

end Go.Proofs.Ytmkfmefkbcfjnaa.lawBothFiltersOrder
