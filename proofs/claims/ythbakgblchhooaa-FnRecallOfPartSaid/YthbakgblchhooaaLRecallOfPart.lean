/- FnRecallOfPart: the first and the last hits of a list recall their part of it. No condition. -/
import Derived.Test.YthbakgblchhooaaLift
import Derived.Test.YthbakgblchhooaaDraw3
import Derived.Test.YthbakgblchhooaaHitsJ
namespace Go.Proofs.Ythbakgblchhooaa
open Go.ChangeShapes Go.WideShapes Go.ChangeAt Go.RowKit
set_option linter.unusedVariables false
set_option linter.unusedSimpArgs false
namespace lawRecallOfPart
set_option maxHeartbeats 2000000 in
theorem walk (A : Option Addr) (n c : Nat) (w : World) (hC : Code w w.heap.size A n c) : Calls Try.prog 8 #[.slice A n c] w fun e w' => e = .returned (.bool true) ∧ Chg No w w' := by
  have hn1 := hC.1
  have hn2 := hC.2.1
  by_cases hbig : 1048576 < n
  · skip
    go_enter Try.func8, Try.ntmps8
    go_wp2
    go_ret
    exact ⟨rfl, Chg.refl _ _⟩
  · skip
    have hbig' : n ≤ 1048576 := by omega
    go_enter Try.func8, Try.ntmps8
    (go_wp2_with fail; (with_reducible refine (drawRecallOf A n c _ hC).mono ?_); rintro e w1 ⟨v1, v2, xs, ys, rfl, ho1, ho2, hl1, hl2, hc1⟩)
    obtain ⟨A1, c1, rfl, hr1⟩ := OHits.read ho1
    obtain ⟨A2, c2, rfl, hr2⟩ := OHits.read ho2
    have hm1 := hr1.cap; have hm2 := hr2.cap; have hk1 := hr1.le; have hk2 := hr2.le
    have HX := hid hr1; have HY := hid hr2
    clear ho1 ho2 hr1 hr2
    (go_wp2_with fail; (with_reducible refine (iRecallOf _ _ _ _ _ _ _ _ _ _ xs ys _ HX.out HY.out).mono ?_); rintro e w2 ⟨rfl, hc2⟩)
    (go_wp2_with fail; (with_reducible refine (sRecallOf _ _ _ _ _ _ _ _ _ _ xs ys _ (HX.out.no hc2) (HY.out.no hc2)).mono ?_); rintro e w3 ⟨rfl, hc3⟩)
    have e0 : (recF xs ys != recF xs ys) = false := by simp
    have hc13 : Chg No w1 w3 := hc2.no hc3
    cases hb : recB xs ys with
    | false =>
      have hr : recF xs ys = -1 := by unfold recF; rw [hb]; rfl
      have K := hid (fun W (h1 : RHits W w.heap.size w1.heap.size A1 xs.length c1 xs) (h2 : RHits W w.heap.size w1.heap.size A2 ys.length c2 ys) => sRecallOf _ _ _ _ _ _ _ _ _ _ xs ys W h1 h2)
      rw [hr] at K ⊢
      clear hr e0
      (go_wp2_with fail; (with_reducible refine (K.out _ (HX.out.no hc13) (HY.out.no hc13)).mono ?_); rintro e w4 ⟨rfl, hc4⟩)
      go_wp2
      go_ret
      exact ⟨rfl, by (repeat (first | (with_reducible exact Chg.refl _ _) | ((with_reducible refine Chg.setNew ?_ _ ?_); rotate_left; first | (dsimp only; omega) | (simp; done) | (simp; omega)) | (with_reducible refine Chg.alloc ?_ _) | (with_reducible refine Chg.drew ?_) | (with_reducible refine Chg.drewN ?_ _) | (with_reducible refine Chg.no ?_ (by assumption)) | (with_reducible refine Chg.and_ ?_ (by assumption)) | ((with_reducible refine Chg.at_ ?_ (by assumption) ?_); rotate_left; (try simp only [World.size_alloc]); omega)))⟩
    | true =>
      have hb' := hb
      unfold recB at hb'
      simp only [Bool.and_eq_true, decide_eq_true_eq] at hb'
      obtain ⟨hv1, hv2, hlen⟩ := hb'
      have H1 := hitsB_ok hv1
      have hl16 := H1.len
      obtain ⟨h, hh⟩ : ∃ h : Nat, h = xs.length / 2 := ⟨_, rfl⟩
      have hh1 : (xs.length : Int) / 2 = h := by omega
      have hlt : h < xs.length := by omega
      have hne : ¬ c1 = h := by omega
      have v1 : recF xs (xs.take h) = 1000 * (h : Int) / xs.length := by
        rw [recF_4 hv1 (H1.sub (List.take_sublist _ _)).b hlen]; unfold recallF; rw [found_take H1 (by omega)]
      have v2 : recF xs (xs.drop h) = 1000 * ((xs.length : Int) - h) / xs.length := by
        rw [recF_4 hv1 (H1.sub (List.drop_sublist _ _)).b hlen]; unfold recallF; rw [found_drop H1 (by omega)]
      have hr : recF xs ys = recallF xs ys := by unfold recF; rw [hb]; rfl
      have hbd := recall_bd xs ys hlen
      obtain ⟨gg, oo, hA1, _, _, _⟩ := HX.out.2.2.2 hlen
      subst hA1
      have HT := hid (RSl.take HX.out (k := h) (by omega))
      have HD := RSl.drop HX.out (k := h) (by omega)
      rw [if_neg hne] at HD
      simp only [Option.map_some, Addr.add_lit] at HD
      have HD := hid HD
      have K1 := hid (fun W (hc : Chg No w1 W) => iRecallOf _ _ _ _ _ _ _ _ _ _ xs (xs.take h) W (HX.out.no hc) (RHits.no HT.out hc))
      have K2 := hid (fun W (hc : Chg No w1 W) => iRecallOf _ _ _ _ _ _ _ _ _ _ xs (xs.drop h) W (HX.out.no hc) (RHits.no HD.out hc))
      rw [v1] at K1
      rw [v2] at K2
      rw [hr]
      generalize recallF xs ys = r at hbd
      have hb1 := hbd.1; have hb2 := hbd.2
      have m1 : IntKind.i64.wrap (1000 * (h : Int)) = 1000 * (h : Int) := by rw [IntKind.wrap_i64]; omega
      have m2 : IntKind.i64.wrap ((xs.length : Int) - h) = (xs.length : Int) - h := by rw [IntKind.wrap_i64]; omega
      have m3 : IntKind.i64.wrap (1000 * ((xs.length : Int) - h)) = 1000 * ((xs.length : Int) - h) := by rw [IntKind.wrap_i64]; omega
      clear hr e0 hbd hb hv1 hv2 H1 v1 v2 hh HT HD
      go_wp2_with fail
      (refine wp_region_nb (by kernel_rfl) (by kernel_rfl) ?_; (repeat (first | go_big_quiet_step ((first | (go_at_call 19; (with_reducible exact nb_of (K1.out _ (hc13.no (NB.h _))))) | (go_at_call 19; (with_reducible exact nb_of (K2.out _ (hc13.no (NB.h _))))))) | quiet_step ((first | (go_at_call 19; (with_reducible exact nb_of (K1.out _ (hc13.no (NB.h _))))) | (go_at_call 19; (with_reducible exact nb_of (K2.out _ (hc13.no (NB.h _))))))))); (with_reducible refine wpQuiet_nil ?_); intro wq hw1; have hq := nb_out hw1; clear hw1)
      go_wp2
      go_ret
      exact ⟨rfl, by (repeat (first | (with_reducible exact Chg.refl _ _) | ((with_reducible refine Chg.setNew ?_ _ ?_); rotate_left; first | (dsimp only; omega) | (simp; done) | (simp; omega)) | (with_reducible refine Chg.alloc ?_ _) | (with_reducible refine Chg.drew ?_) | (with_reducible refine Chg.drewN ?_ _) | (with_reducible refine Chg.no ?_ (by assumption)) | (with_reducible refine Chg.and_ ?_ (by assumption)) | ((with_reducible refine Chg.at_ ?_ (by assumption) ?_); rotate_left; (try simp only [World.size_alloc]); omega)))⟩

set_option maxRecDepth 100000 in
theorem lifted (os : Os) (started : os.Started) (H : Type) (enc : TypeId × Value → H) :
    ReturnsInHanded {} Try.checked os 8 .any (Rows.fnRecallOfPartSpec.pre6 enc Try.prog Try.f8 Rows.fnRecallOfPartRow.domain false) (Rows.fnRecallOfPartSpec.post enc Try.prog Try.f8 false true false false) := by
  refine returnsInHanded_of_change (C := Try.checked) own started (by kernel_rfl) Try.func8
    (ChangeSpec.witness6 (enc := enc) (C := Try.checked) false ⟨#[], #[.slice none 0 0], []⟩ 8 (by kernel_rfl) (by kernel_rfl) (by kernel_rfl) (by kernel_rfl)) ?_
  intro W base args ds gs before hval0 hW hcnd _
  have hval : ∀ (j : Nat) t v, Try.f8.params[j]? = some t → args[j]? = some v → Value.okWide Try.prog W .any base t v := hval0
  have hW' := hW
  obtain ⟨p, q, hA0, hV, rfl, hfz, hnd⟩ := hW
  have hA : DataW.TrodAll enc Try.prog W 0 (fun _ => true) true Try.f8.params.toList args.toList ds p := hA0
  rw [Try.params8] at hA hval
  obtain ⟨v0, vs0, d0, ds0, p0, q0, hargs, rfl, rfl, h0, r0⟩ := trodAll_cons hA
  obtain ⟨rfl, rfl, rfl⟩ := trodAll_nil r0
  obtain rfl : args = #[v0] := by cases args; simp_all
  obtain ⟨rfl, rfl⟩ := trodVars_none hV
  obtain ⟨a0, len0, cap0, rfl⟩ := okWide_slice Try.underlying33 (hval 0 33 v0 rfl rfl)
  have k0 := h0
  have lt0 : ∀ x ∈ p0, x.block < W.heap.size := by obtain ⟨m, hm⟩ := k0; exact DataW.trod_lt m _ _ _ hm
  have w0 : Code W W.heap.size a0 len0 cap0 := by
    obtain ⟨fuel, hf⟩ := h0
    rcases open_ints Try.underlying33 Try.underlying5 (by kernel_rfl) hf with ⟨hcs, _⟩ | ⟨x, l, c, zs, hcs, _, hl, hm, hz, _, hcell, hwz⟩
    · simp [Value.cells] at hcs
      obtain ⟨rfl, rfl, rfl⟩ := hcs
      exact code_nil _
    · simp [Value.cells] at hcs
      obtain ⟨rfl, rfl, rfl⟩ := hcs
      exact code_row hl hm (by simpa using hz) hcell hwz
  clear hA0 hval0
  refine (walk a0 len0 cap0 W w0).mono fun e W' ⟨he, bel0⟩ => ?_
  have bel := bel0.below
  subst he
  exact ⟨_, rfl, _, _, _, [], _, [], hW', trodAll_mk1 (shut_bool Try.underlying4 _), (trodAll_cons_mk (Below.trod laidOut (by kernel_rfl) (of_decide_eq_true (by kernel_rfl)) k0 bel lt0) trodAll_mk0), rfl, bel.frame _, fun h => by cases h⟩

theorem over : Rows.fnRecallOfPartRow.holds Try.pinned (OpenSpec.ofChange Rows.fnRecallOfPartSpec) :=
  OpenClaim.holds_of_wide 8 Try.f8 rfl rfl rfl rfl rfl rfl rfl ⟨rfl, rfl, rfl, rfl, rfl⟩ rfl rfl rfl rfl rfl (by kernel_rfl) Try.func8 (by kernel_rfl)
    (of_decide_eq_true (by kernel_rfl)) (by unfold Func.isWrapper; first | (rw [if_pos (by decide +kernel)]; kernel_rfl) | (rw [if_neg (by decide +kernel)]; exact ⟨rfl, rfl⟩))
    (fun os started H enc _ => lifted os started H enc)

theorem proved : Rows.FnRecallOfPartSaid := over
#print axioms proved

end lawRecallOfPart
end Go.Proofs.Ythbakgblchhooaa
