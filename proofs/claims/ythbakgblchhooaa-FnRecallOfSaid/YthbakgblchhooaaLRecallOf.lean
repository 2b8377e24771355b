/- FnRecallOf: a list recalls itself whole, and nothing recalls nothing. No condition. -/
import Derived.Test.YthbakgblchhooaaLift
import Derived.Test.YthbakgblchhooaaDraw3
import Derived.Test.YthbakgblchhooaaHitsJ
namespace Go.Proofs.Ythbakgblchhooaa
open Go.ChangeShapes Go.WideShapes Go.ChangeAt Go.RowKit
set_option linter.unusedVariables false
set_option linter.unusedSimpArgs false
namespace lawRecallOf
set_option maxHeartbeats 2000000 in
theorem walk (A : Option Addr) (n c : Nat) (w : World) (hC : Code w w.heap.size A n c) : Calls Try.prog 7 #[.slice A n c] w fun e w' => e = .returned (.bool true) ∧ Chg No w w' := by
  have hn1 := hC.1
  have hn2 := hC.2.1
  by_cases hbig : 1048576 < n
  · skip
    go_enter Try.func7, Try.ntmps7
    go_wp2
    go_ret
    exact ⟨rfl, Chg.refl _ _⟩
  · skip
    have hbig' : n ≤ 1048576 := by omega
    go_enter Try.func7, Try.ntmps7
    (go_wp2_with fail; (with_reducible refine (drawRecallOf A n c _ hC).mono ?_); rintro e w1 ⟨v1, v2, xs, ys, rfl, ho1, ho2, hl1, hl2, hc1⟩)
    obtain ⟨A1, c1, rfl, hr1⟩ := OHits.read ho1
    obtain ⟨A2, c2, rfl, hr2⟩ := OHits.read ho2
    have hm1 := hr1.cap; have hm2 := hr2.cap; have hk1 := hr1.le; have hk2 := hr2.le
    have HX := hid hr1; have HY := hid hr2
    clear ho1 ho2 hr1 hr2
    (go_wp2_with fail; (with_reducible refine (iRecallOf _ _ _ _ _ _ _ _ _ _ xs ys _ HX.out HY.out).mono ?_); rintro e w2 ⟨rfl, hc2⟩)
    (go_wp2_with fail; (with_reducible refine (sRecallOf _ _ _ _ _ _ _ _ _ _ xs ys _ (HX.out.no hc2) (HY.out.no hc2)).mono ?_); rintro e w3 ⟨rfl, hc3⟩)
    have e0 : (recF xs ys != recF xs ys) = false := by simp
    have hc13 : Chg No w1 w3 := hc2.no hc3
    cases hb : recB xs ys with
    | false =>
      have hr : recF xs ys = -1 := by unfold recF; rw [hb]; rfl
      have K := hid (fun W (h1 : RHits W w.heap.size w1.heap.size A1 xs.length c1 xs) (h2 : RHits W w.heap.size w1.heap.size A2 ys.length c2 ys) => sRecallOf _ _ _ _ _ _ _ _ _ _ xs ys W h1 h2)
      rw [hr] at K ⊢
      clear hr e0
      (go_wp2_with fail; (with_reducible refine (K.out _ (HX.out.no hc13) (HY.out.no hc13)).mono ?_); rintro e w4 ⟨rfl, hc4⟩)
      go_wp2
      go_ret
      exact ⟨rfl, by (repeat (first | (with_reducible exact Chg.refl _ _) | ((with_reducible refine Chg.setNew ?_ _ ?_); rotate_left; first | (dsimp only; omega) | (simp; done) | (simp; omega)) | (with_reducible refine Chg.alloc ?_ _) | (with_reducible refine Chg.drew ?_) | (with_reducible refine Chg.drewN ?_ _) | (with_reducible refine Chg.no ?_ (by assumption)) | (with_reducible refine Chg.and_ ?_ (by assumption)) | ((with_reducible refine Chg.at_ ?_ (by assumption) ?_); rotate_left; (try simp only [World.size_alloc]); omega)))⟩
    | true =>
      have hb' := hb
      unfold recB at hb'
      simp only [Bool.and_eq_true, decide_eq_true_eq] at hb'
      obtain ⟨hv1, hv2, hlen⟩ := hb'
      have hr : recF xs ys = recallF xs ys := by unfold recF; rw [hb]; rfl
      have hbd := recall_bd xs ys hlen
      have hself : recF xs xs = 1000 := by rw [recF_4 hv1 hv1 hlen, recall_self hlen]
      have hnil : recF xs [] = 0 := by rw [recF_4 hv1 hitsB_nil hlen, recall_nil]
      have K1 := hid (fun W (h1 : RHits W w.heap.size w1.heap.size A1 xs.length c1 xs) => iRecallOf _ _ _ _ _ _ _ _ _ _ xs xs W h1 h1)
      have K2 := hid (fun W (h1 : RHits W w.heap.size w1.heap.size A1 xs.length c1 xs) => iRecallOf _ _ 0 0 _ none _ _ 0 0 xs [] W h1 (RSl.nil_ _ _ (by unfold maxLen; omega)))
      rw [hself] at K1
      rw [hnil] at K2
      rw [hr]
      generalize recallF xs ys = r at hbd
      have hb1 := hbd.1; have hb2 := hbd.2
      clear hr hself hnil e0 hbd hb hv1 hv2
      (go_wp2_with fail; (with_reducible refine (K1.out _ (HX.out.no hc13)).mono ?_); rintro e w4 ⟨rfl, hc4⟩)
      (go_wp2_with fail; (with_reducible refine (K2.out _ (HX.out.no (hc13.no hc4))).mono ?_); rintro e w5 ⟨rfl, hc5⟩)
      go_wp2
      go_ret
      exact ⟨rfl, by (repeat (first | (with_reducible exact Chg.refl _ _) | ((with_reducible refine Chg.setNew ?_ _ ?_); rotate_left; first | (dsimp only; omega) | (simp; done) | (simp; omega)) | (with_reducible refine Chg.alloc ?_ _) | (with_reducible refine Chg.drew ?_) | (with_reducible refine Chg.drewN ?_ _) | (with_reducible refine Chg.no ?_ (by assumption)) | (with_reducible refine Chg.and_ ?_ (by assumption)) | ((with_reducible refine Chg.at_ ?_ (by assumption) ?_); rotate_left; (try simp only [World.size_alloc]); omega)))⟩

set_option maxRecDepth 100000 in
theorem lifted (os : Os) (started : os.Started) (H : Type) (enc : TypeId × Value → H) :
    ReturnsInHanded {} Try.checked os 7 .any (Rows.fnRecallOfSpec.pre6 enc Try.prog Try.f7 Rows.fnRecallOfRow.domain false) (Rows.fnRecallOfSpec.post enc Try.prog Try.f7 false true false false) := by
  refine returnsInHanded_of_change (C := Try.checked) own started (by kernel_rfl) Try.func7
    (ChangeSpec.witness6 (enc := enc) (C := Try.checked) false ⟨#[], #[.slice none 0 0], []⟩ 8 (by kernel_rfl) (by kernel_rfl) (by kernel_rfl) (by kernel_rfl)) ?_
  intro W base args ds gs before hval0 hW hcnd _
  have hval : ∀ (j : Nat) t v, Try.f7.params[j]? = some t → args[j]? = some v → Value.okWide Try.prog W .any base t v := hval0
  have hW' := hW
  obtain ⟨p, q, hA0, hV, rfl, hfz, hnd⟩ := hW
  have hA : DataW.TrodAll enc Try.prog W 0 (fun _ => true) true Try.f7.params.toList args.toList ds p := hA0
  rw [Try.params7] at hA hval
  obtain ⟨v0, vs0, d0, ds0, p0, q0, hargs, rfl, rfl, h0, r0⟩ := trodAll_cons hA
  obtain ⟨rfl, rfl, rfl⟩ := trodAll_nil r0
  obtain rfl : args = #[v0] := by cases args; simp_all
  obtain ⟨rfl, rfl⟩ := trodVars_none hV
  obtain ⟨a0, len0, cap0, rfl⟩ := okWide_slice Try.underlying33 (hval 0 33 v0 rfl rfl)
  have k0 := h0
  have lt0 : ∀ x ∈ p0, x.block < W.heap.size := by obtain ⟨m, hm⟩ := k0; exact DataW.trod_lt m _ _ _ hm
  have w0 : Code W W.heap.size a0 len0 cap0 := by
    obtain ⟨fuel, hf⟩ := h0
    rcases open_ints Try.underlying33 Try.underlying5 (by kernel_rfl) hf with ⟨hcs, _⟩ | ⟨x, l, c, zs, hcs, _, hl, hm, hz, _, hcell, hwz⟩
    · simp [Value.cells] at hcs
      obtain ⟨rfl, rfl, rfl⟩ := hcs
      exact code_nil _
    · simp [Value.cells] at hcs
      obtain ⟨rfl, rfl, rfl⟩ := hcs
      exact code_row hl hm (by simpa using hz) hcell hwz
  clear hA0 hval0
  refine (walk a0 len0 cap0 W w0).mono fun e W' ⟨he, bel0⟩ => ?_
  have bel := bel0.below
  subst he
  exact ⟨_, rfl, _, _, _, [], _, [], hW', trodAll_mk1 (shut_bool Try.underlying4 _), (trodAll_cons_mk (Below.trod laidOut (by kernel_rfl) (of_decide_eq_true (by kernel_rfl)) k0 bel lt0) trodAll_mk0), rfl, bel.frame _, fun h => by cases h⟩

theorem over : Rows.fnRecallOfRow.holds Try.pinned (OpenSpec.ofChange Rows.fnRecallOfSpec) :=
  OpenClaim.holds_of_wide 7 Try.f7 rfl rfl rfl rfl rfl rfl rfl ⟨rfl, rfl, rfl, rfl, rfl⟩ rfl rfl rfl rfl rfl (by kernel_rfl) Try.func7 (by kernel_rfl)
    (of_decide_eq_true (by kernel_rfl)) (by unfold Func.isWrapper; first | (rw [if_pos (by decide +kernel)]; kernel_rfl) | (rw [if_neg (by decide +kernel)]; exact ⟨rfl, rfl⟩))
    (fun os started H enc _ => lifted os started H enc)

theorem proved : Rows.FnRecallOfSaid := over
#print axioms proved

end lawRecallOf
end Go.Proofs.Ythbakgblchhooaa
