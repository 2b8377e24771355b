/- FnValidFilter: a valid filter with a part that is 0 is valid. No condition. -/
import Derived.Test.YtmkfmefkbcfjnaaLift
import Derived.Test.YtmkfmefkbcfjnaaFilt4
import Derived.Test.YtmkfmefkbcfjnaaFilt
namespace Go.Proofs.Ytmkfmefkbcfjnaa.lawValidFilter
open Go.ChangeShapes Go.WideShapes Go.ChangeAt Go.RowKit
set_option linter.unusedVariables false
set_option maxHeartbeats 1000000 in
theorem walk (A : Option Addr) (n c : Nat) (w : World) (hC : Code w w.heap.size A n c) : Calls Try.prog 6 #[.slice A n c] w fun e w' => e = .returned (.bool true) ∧ Chg No w w' := by
  have hn1 := hC.1
  have hn2 := hC.2.1
  by_cases hbig : 1048576 < n
  · go_enter Try.func6, Try.ntmps6
    go_wp2
    go_ret
    exact ⟨rfl, Chg.refl _ _⟩
  · go_enter Try.func6, Try.ntmps6
    go_wp2_with fail
    refine (drawValidFilter A n c _ hC).mono ?_
    rintro e w1 ⟨x1, x2, x3, rfl, hc1⟩
    go_wp2_with fail
    refine (iValidFilter _ _ _ _).mono ?_
    rintro e w2 ⟨rfl, hc2⟩
    have b2 := Box.f3 ((Box.new [.int .i64 x1, .int .i64 x2, .int .i64 x3] _ rfl).no hc2)
    go_wp2_with fail
    refine (sValidFilter _ _ _ _).mono ?_
    rintro e w3 ⟨rfl, hc3⟩
    have b3 := Box.f3 (((Box.new [.int .i64 x1, .int .i64 x2, .int .i64 x3] _ rfl).no hc2).no hc3)
    cases hf : filterB x1 x2 x3 with
    | false =>
      go_wp2_with fail
      refine (sValidFilter _ _ _ _).mono ?_
      rintro e w4 ⟨rfl, hc4⟩
      go_wp2
      go_ret
      exact ⟨rfl, by (repeat (first | (with_reducible exact Chg.refl _ _) | ((with_reducible refine Chg.setNew ?_ _ ?_); rotate_left; first | (dsimp only; omega) | (simp; done) | (simp; omega)) | (with_reducible refine Chg.alloc ?_ _) | (with_reducible refine Chg.drew ?_) | (with_reducible refine Chg.drewN ?_ _) | (with_reducible refine Chg.no ?_ (by assumption)) | (with_reducible refine Chg.and_ ?_ (by assumption)) | ((with_reducible refine Chg.at_ ?_ (by assumption) ?_); rotate_left; (try simp only [World.size_alloc]); omega)))⟩
    | true =>
      have f1 : filterB x1 0 0 = true := by simp_all [filterB, tagsB, inB]
      have f2 : filterB 0 x2 0 = true := by simp_all [filterB, tagsB, inB]
      have f3 : filterB 0 0 x3 = true := by simp_all [filterB, tagsB, inB]
      go_wp2_with fail
      refine (iValidFilter _ _ _ _).mono ?_
      rintro e w4 ⟨rfl, hc4⟩
      have b4 := Box.f3 ((((Box.new [.int .i64 x1, .int .i64 x2, .int .i64 x3] _ rfl).no hc2).no hc3).no hc4)
      go_wp2_with fail
      refine (iValidFilter _ _ _ _).mono ?_
      rintro e w5 ⟨rfl, hc5⟩
      have b5 := Box.f3 (((((Box.new [.int .i64 x1, .int .i64 x2, .int .i64 x3] _ rfl).no hc2).no hc3).no hc4).no hc5)
      go_wp2_with fail
      refine (iValidFilter _ _ _ _).mono ?_
      rintro e w6 ⟨rfl, hc6⟩
      go_wp2
      go_ret
      exact ⟨rfl, by (repeat (first | (with_reducible exact Chg.refl _ _) | ((with_reducible refine Chg.setNew ?_ _ ?_); rotate_left; first | (dsimp only; omega) | (simp; done) | (simp; omega)) | (with_reducible refine Chg.alloc ?_ _) | (with_reducible refine Chg.drew ?_) | (with_reducible refine Chg.drewN ?_ _) | (with_reducible refine Chg.no ?_ (by assumption)) | (with_reducible refine Chg.and_ ?_ (by assumption)) | ((with_reducible refine Chg.at_ ?_ (by assumption) ?_); rotate_left; (try simp only [World.size_alloc]); omega)))⟩

set_option maxRecDepth 100000 in
theorem lifted (os : Os) (started : os.Started) (H : Type) (enc : TypeId × Value → H) :
    ReturnsInHanded {} Try.checked os 6 .any (Rows.fnValidFilterSpec.pre6 enc Try.prog Try.f6 Rows.fnValidFilterRow.domain false) (Rows.fnValidFilterSpec.post enc Try.prog Try.f6 false true false false) := by
  refine returnsInHanded_of_change (C := Try.checked) own started (by kernel_rfl) Try.func6
    (ChangeSpec.witness6 (enc := enc) (C := Try.checked) false ⟨#[], #[.slice none 0 0], []⟩ 8 (by kernel_rfl) (by kernel_rfl) (by kernel_rfl) (by kernel_rfl)) ?_
  intro W base args ds gs before hval0 hW hcnd _
  have hval : ∀ (j : Nat) t v, Try.f6.params[j]? = some t → args[j]? = some v → Value.okWide Try.prog W .any base t v := hval0
  have hW' := hW
  obtain ⟨p, q, hA0, hV, rfl, hfz, hnd⟩ := hW
  have hA : DataW.TrodAll enc Try.prog W 0 (fun _ => true) true Try.f6.params.toList args.toList ds p := hA0
  rw [Try.params6] at hA hval
  obtain ⟨v0, vs0, d0, ds0, p0, q0, hargs, rfl, rfl, h0, r0⟩ := trodAll_cons hA
  obtain ⟨rfl, rfl, rfl⟩ := trodAll_nil r0
  obtain rfl : args = #[v0] := by cases args; simp_all
  obtain ⟨rfl, rfl⟩ := trodVars_none hV
  obtain ⟨a0, len0, cap0, rfl⟩ := okWide_slice Try.underlying34 (hval 0 34 v0 rfl rfl)
  have k0 := h0
  have lt0 : ∀ x ∈ p0, x.block < W.heap.size := by obtain ⟨m, hm⟩ := k0; exact DataW.trod_lt m _ _ _ hm
  have w0 : Code W W.heap.size a0 len0 cap0 := by
    obtain ⟨fuel, hf⟩ := h0
    rcases open_ints Try.underlying34 Try.underlying5 (by kernel_rfl) hf with ⟨hcs, _⟩ | ⟨x, l, c, zs, hcs, _, hl, hm, hz, _, hcell, hwz⟩
    · simp [Value.cells] at hcs
      obtain ⟨rfl, rfl, rfl⟩ := hcs
      exact code_nil _
    · simp [Value.cells] at hcs
      obtain ⟨rfl, rfl, rfl⟩ := hcs
      exact code_row hl hm (by simpa using hz) hcell hwz
  clear hA0 hval0
  refine (walk a0 len0 cap0 W w0).mono fun e W' ⟨he, bel0⟩ => ?_
  have bel := bel0.below
  subst he
  exact ⟨_, rfl, _, _, _, [], _, [], hW', trodAll_mk1 (shut_bool Try.underlying4 _), (trodAll_cons_mk (Below.trod laidOut (by kernel_rfl) (of_decide_eq_true (by kernel_rfl)) k0 bel lt0) trodAll_mk0), rfl, bel.frame _, fun h => by cases h⟩

theorem over : Rows.fnValidFilterRow.holds Try.pinned (OpenSpec.ofChange Rows.fnValidFilterSpec) :=
  OpenClaim.holds_of_wide 6 Try.f6 rfl rfl rfl rfl rfl rfl rfl ⟨rfl, rfl, rfl, rfl, rfl⟩ rfl rfl rfl rfl rfl (by kernel_rfl) Try.func6 (by kernel_rfl)
    (of_decide_eq_true (by kernel_rfl)) (by unfold Func.isWrapper; first | (rw [if_pos (by decide +kernel)]; kernel_rfl) | (rw [if_neg (by decide +kernel)]; exact ⟨rfl, rfl⟩))
    (fun os started H enc _ => lifted os started H enc)

theorem proved : Rows.FnValidFilterSaid := over
#print axioms proved

end Go.Proofs.Ytmkfmefkbcfjnaa.lawValidFilter
