/- FnHashNearestRecall: more bits are right more often. No condition. -/
import Derived.Test.YtifdcdpdihfbjaaLift
import Derived.Test.YtifdcdpdihfbjaaDrawQ
import Derived.Test.YtifdcdpdihfbjaaPHashN
import Derived.Test.YtifdcdpdihfbjaaEqH
import Derived.Test.YtifdcdpdihfbjaaHitsJ
import Derived.Deep.RegionHeld3
import Derived.Deep.RegionWith
import Derived.Deep.DeepCutAuto
namespace Go.Proofs.Ytifdcdpdihfbjaa
open Go.ChangeShapes Go.WideShapes Go.ChangeAt Go.RowKit Go.Shelf
set_option linter.unusedVariables false
set_option linter.unusedSimpArgs false
namespace lawHashNearestRecall
set_option maxRecDepth 100000 in
set_option maxHeartbeats 8000000 in
theorem walk (A : Option Addr) (n c : Nat) (w : World) (hC : Code w w.heap.size A n c) : Calls Try.prog 6 #[.slice A n c] w fun e w' => e = .returned (.bool true) ∧ Chg No w w' := by
  have hn1 := hC.1
  have hn2 := hC.2.1
  by_cases hbig : 1048576 < n
  · skip
    go_enter Try.func6, Try.ntmps6
    go_wp2
    go_ret
    exact ⟨rfl, Chg.refl _ _⟩
  · skip
    have hbig' : n ≤ 1048576 := by omega
    go_enter Try.func6, Try.ntmps6
    (go_wp2_with fail; (with_reducible refine (drawHashNearest A n c _ hC).mono ?_); rintro e w1 ⟨v1, ps, v2, xs, AV, nv, cv, at_, bt, k, rfl, ho1, hl1, hi1, hm1, ht1, hn1', hbt, hk9, hc1⟩)
    obtain ⟨A1, c1, rfl, hr1⟩ := ORows.read ho1
    obtain ⟨A0, c0, rfl, hr0⟩ := OItems.read hi1
    have hx1 := hr1.cap; have hk1 := hr1.le; have hx2 := hr0.cap; have hk2 := hr0.le; have hx3 := ht1.1.cap; have hk3 := ht1.1.le
    have HP := hid hr1; have HX := hid hr0; have HY := hid ht1.1
    have hbt1 := hbt.1; have hbt2 := hbt.2; have hkd1 := hk9.1; have hkd2 := hk9.2
    have s1 := hc1.size
    clear ho1 hr1 hi1 hr0 ht1 hbt hk9
    obtain ⟨L, hL⟩ : ∃ L, HnearF ps xs at_ bt k = L := ⟨_, rfl⟩
    have KI := hid (fun W (h : Chg No w1 W) => iHashNearest _ _ _ _ _ ps _ _ _ _ _ xs _ _ _ _ _ at_ bt k W (HP.out.no h) (HX.out.no h) (HY.out.no h))
    have KS := hid (fun W (h : Chg No w1 W) => sHashNearest _ _ _ _ _ ps _ _ _ _ _ xs _ _ _ _ _ at_ bt k W (HP.out.no h) (HX.out.no h) (HY.out.no h))
    rw [hL] at KS KI
    have HL := hid hL
    clear hL
    (go_wp2_with fail; (with_reducible refine (KI.out _ (Chg.refl _ _)).mono ?_); rintro e w2 ⟨v2, rfl, ho2, hc2⟩)
    obtain ⟨A2, c2, rfl, hr2⟩ := OHits.read ho2
    have hp2 := hr2.cap; have hl2 := hr2.le
    have R2 := hid hr2
    have s2 := hc2.size
    clear ho2 hr2
    (go_wp2_with fail; (with_reducible refine (KS.out _ hc2).mono ?_); rintro e w3 ⟨v3, rfl, ho3, hc3⟩)
    obtain ⟨A3, c3, rfl, hr3⟩ := OHits.read ho3
    have hp3 := hr3.cap; have hl3 := hr3.le
    have R3 := hid hr3
    have s3 := hc3.size
    clear ho3 hr3
    have q3 : Chg No w1 w3 := hc2.no hc3
    (go_wp2_with fail; (with_reducible refine (equalHits _ _ _ _ _ _ _ _ _ L _ (R2.out.no hc3) R3.out).mono ?_); rintro e w4 ⟨rfl, hc4⟩)
    have q4 : Chg No w1 w4 := q3.no hc4
    have r4 : Chg No w2 w4 := hc3.no hc4
    have s4 := hc4.size
    clear R3
    by_cases h6 : bt = 6
    · subst h6
      by_cases hL0 : L.length = 0
      · have e0 : ((L.length : Int) == 0) = true := by simp; exact List.eq_nil_of_length_eq_zero hL0
        clear hL0
        (go_wp2_with fail; (with_reducible refine (KS.out _ q4).mono ?_); rintro e w8 ⟨v8, rfl, ho8, hc8⟩)
        obtain ⟨A8, c8, rfl, hr8⟩ := OHits.read ho8
        have hp8 := hr8.cap; have hl8 := hr8.le
        have R8 := hid hr8
        have s8 := hc8.size
        clear ho8 hr8
        (go_wp2_with fail; (with_reducible refine (equalHits _ _ _ _ _ _ _ _ _ L _ (R2.out.no (r4.no hc8)) R8.out).mono ?_); rintro e w9 ⟨rfl, hc9⟩)
        go_wp2
        go_ret
        exact ⟨rfl, hc1.no ((q4.no hc8).no hc9)⟩
      · have e0 : ((L.length : Int) == 0) = false := by simp; intro h; subst h; simp at hL0
        clear hL0
        (go_wp2_with fail; (with_reducible refine (KS.out _ q4).mono ?_); rintro e w8 ⟨v8, rfl, ho8, hc8⟩)
        obtain ⟨A8, c8, rfl, hr8⟩ := OHits.read ho8
        have hp8 := hr8.cap; have hl8 := hr8.le
        have R8 := hid hr8
        have s8 := hc8.size
        clear ho8 hr8
        (go_wp2_with fail; (with_reducible refine (equalHits _ _ _ _ _ _ _ _ _ L _ (R2.out.no (r4.no hc8)) R8.out).mono ?_); rintro e w9 ⟨rfl, hc9⟩)
        go_wp2
        go_ret
        exact ⟨rfl, hc1.no ((q4.no hc8).no hc9)⟩
    · have e6 : (bt == 6) = false := by simp; exact h6
      by_cases hL0 : L.length = 0
      · have e0 : ((L.length : Int) == 0) = true := by simp; exact List.eq_nil_of_length_eq_zero hL0
        clear hL0
        (go_wp2_with fail; (with_reducible refine (KS.out _ q4).mono ?_); rintro e w8 ⟨v8, rfl, ho8, hc8⟩)
        obtain ⟨A8, c8, rfl, hr8⟩ := OHits.read ho8
        have hp8 := hr8.cap; have hl8 := hr8.le
        have R8 := hid hr8
        have s8 := hc8.size
        clear ho8 hr8
        (go_wp2_with fail; (with_reducible refine (equalHits _ _ _ _ _ _ _ _ _ L _ (R2.out.no (r4.no hc8)) R8.out).mono ?_); rintro e w9 ⟨rfl, hc9⟩)
        go_wp2
        go_ret
        exact ⟨rfl, hc1.no ((q4.no hc8).no hc9)⟩
      · have e0 : ((L.length : Int) == 0) = false := by simp; intro h; subst h; simp at hL0
        have hLpos : 0 < L.length := by omega
        have hok := hnOk_ok (hnear_ne (ps := ps) (l := xs) (at_ := at_) (bt := bt) (k := k) (by rw [HL.out]; exact hLpos))
        have hL16 : L.length ≤ 16 := by
          have h9 := congrArg List.length (HnearF_ok hok.ok)
          rw [HL.out, nearestF_length] at h9
          have := hok.k16
          omega
        clear hL0
        have hmore := hnear_more hok h6 (by rw [HL.out]; exact hLpos)
        rw [HL.out] at hmore
        have hb6 := hok.b6; have hb0 := hok.b0
        have hcan := hok.can.can hok.k1 hok.k16
        have KN := hid (fun W (h : Chg No w1 W) => iNEAREST _ _ _ _ _ xs _ _ _ _ _ at_ 3 k W (HX.out.no h) (HY.out.no h))
        rw [NearestF_ok hcan] at KN
        have KM := hid (fun W (h : Chg No w1 W) => iHashNearest _ _ _ _ _ ps _ _ _ _ _ xs _ _ _ _ _ at_ (bt + 1) k W (HP.out.no h) (HX.out.no h) (HY.out.no h))
        clear hok hcan KI KS HL h6
        generalize nearestF xs 3 at_ k = R at *
        generalize HnearF ps xs at_ (bt + 1) k = M at *
        (go_wp2_with fail; (with_reducible refine (KN.out _ q4).mono ?_); rintro e w5 ⟨v5, rfl, ho5, hc5⟩)
        obtain ⟨A5, c5, rfl, hr5⟩ := OHits.read ho5
        have hp5 := hr5.cap; have hl5 := hr5.le
        have R5 := hid hr5
        have s5 := hc5.size
        clear ho5 hr5
        have q5 := q4.no hc5
        (go_wp2_with fail; (with_reducible refine (KM.out _ q5).mono ?_); rintro e w6 ⟨v6, rfl, ho6, hc6⟩)
        obtain ⟨A6, c6, rfl, hr6⟩ := OHits.read ho6
        have hp6 := hr6.cap; have hl6 := hr6.le
        have R6 := hid hr6
        have s6 := hc6.size
        clear ho6 hr6
        have q6 := q5.no hc6
        have r6 : Chg No w2 w6 := (r4.no hc5).no hc6
        have K1 := hid (fun W (hc : Chg No w6 W) => iRecallOf _ _ _ _ _ _ _ _ _ _ R M W (R5.out.no (hc6.no hc)) (R6.out.no hc))
        have K2 := hid (fun W (hc : Chg No w6 W) => iRecallOf _ _ _ _ _ _ _ _ _ _ R L W (R5.out.no (hc6.no hc)) (R2.out.no (r6.no hc)))
        generalize recF R M = x1 at *
        generalize recF R L = x2 at *
        have e1 : decide (x2 ≤ x1) = true := decide_eq_true hmore
        clear KN KM
        (go_wp2_with fail; (with_reducible refine (K1.out _ (Chg.refl _ _)).mono ?_); rintro e w7 ⟨rfl, hc7⟩)
        (go_wp2_with fail; (with_reducible refine (K2.out _ hc7).mono ?_); rintro e w8 ⟨rfl, hc8⟩)
        go_wp2
        go_ret
        exact ⟨rfl, hc1.no ((q6.no hc7).no hc8)⟩

set_option maxRecDepth 100000 in
theorem lifted (os : Os) (started : os.Started) (H : Type) (enc : TypeId × Value → H) :
    ReturnsInHanded {} Try.checked os 6 .any (Rows.fnHashNearestRecallSpec.pre6 enc Try.prog Try.f6 Rows.fnHashNearestRecallRow.domain false) (Rows.fnHashNearestRecallSpec.post enc Try.prog Try.f6 false true false false) := by
  refine returnsInHanded_of_change (C := Try.checked) own started (by kernel_rfl) Try.func6
    (ChangeSpec.witness6 (enc := enc) (C := Try.checked) false ⟨#[], #[.slice none 0 0], []⟩ 8 (by kernel_rfl) (by kernel_rfl) (by kernel_rfl) (by kernel_rfl)) ?_
  intro W base args ds gs before hval0 hW hcnd _
  have hval : ∀ (j : Nat) t v, Try.f6.params[j]? = some t → args[j]? = some v → Value.okWide Try.prog W .any base t v := hval0
  have hW' := hW
  obtain ⟨p, q, hA0, hV, rfl, hfz, hnd⟩ := hW
  have hA : DataW.TrodAll enc Try.prog W 0 (fun _ => true) true Try.f6.params.toList args.toList ds p := hA0
  rw [Try.params6] at hA hval
  obtain ⟨v0, vs0, d0, ds0, p0, q0, hargs, rfl, rfl, h0, r0⟩ := trodAll_cons hA
  obtain ⟨rfl, rfl, rfl⟩ := trodAll_nil r0
  obtain rfl : args = #[v0] := by cases args; simp_all
  obtain ⟨rfl, rfl⟩ := trodVars_none hV
  obtain ⟨a0, len0, cap0, rfl⟩ := okWide_slice Try.underlying22 (hval 0 22 v0 rfl rfl)
  have k0 := h0
  have lt0 : ∀ x ∈ p0, x.block < W.heap.size := by obtain ⟨m, hm⟩ := k0; exact DataW.trod_lt m _ _ _ hm
  have w0 : Code W W.heap.size a0 len0 cap0 := by
    obtain ⟨fuel, hf⟩ := h0
    rcases open_ints Try.underlying22 Try.underlying5 (by kernel_rfl) hf with ⟨hcs, _⟩ | ⟨x, l, c, zs, hcs, _, hl, hm, hz, _, hcell, hwz⟩
    · simp [Value.cells] at hcs
      obtain ⟨rfl, rfl, rfl⟩ := hcs
      exact code_nil _
    · simp [Value.cells] at hcs
      obtain ⟨rfl, rfl, rfl⟩ := hcs
      exact code_row hl hm (by simpa using hz) hcell hwz
  clear hA0 hval0
  refine (walk a0 len0 cap0 W w0).mono fun e W' ⟨he, bel0⟩ => ?_
  have bel := bel0.below
  subst he
  exact ⟨_, rfl, _, _, _, [], _, [], hW', trodAll_mk1 (shut_bool Try.underlying4 _), (trodAll_cons_mk (Below.trod laidOut (by kernel_rfl) (of_decide_eq_true (by kernel_rfl)) k0 bel lt0) trodAll_mk0), rfl, bel.frame _, fun h => by cases h⟩

theorem over : Rows.fnHashNearestRecallRow.holds Try.pinned (OpenSpec.ofChange Rows.fnHashNearestRecallSpec) :=
  OpenClaim.holds_of_wide 6 Try.f6 rfl rfl rfl rfl rfl rfl rfl ⟨rfl, rfl, rfl, rfl, rfl⟩ rfl rfl rfl rfl rfl (by kernel_rfl) Try.func6 (by kernel_rfl)
    (of_decide_eq_true (by kernel_rfl)) (by unfold Func.isWrapper; first | (rw [if_pos (by decide +kernel)]; kernel_rfl) | (rw [if_neg (by decide +kernel)]; exact ⟨rfl, rfl⟩))
    (fun os started H enc _ => lifted os started H enc)

theorem proved : Rows.FnHashNearestRecallSaid := over
#print axioms proved

end lawHashNearestRecall
end Go.Proofs.Ytifdcdpdihfbjaa
