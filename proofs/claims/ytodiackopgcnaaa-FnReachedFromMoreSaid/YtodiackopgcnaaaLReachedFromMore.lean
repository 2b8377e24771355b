/- FnReachedFromMore: more neighbours reach more. No condition. -/
import Derived.Test.YtodiackopgcnaaaLift
import Derived.Test.YtodiackopgcnaaaDrawW
import Derived.Test.YtodiackopgcnaaaReachS
import Derived.Deep.RegionHeld3
import Derived.Deep.RegionWith
import Derived.Deep.DeepCutAuto
namespace Go.Proofs.Ytodiackopgcnaaa
open Go.ChangeShapes Go.WideShapes Go.ChangeAt Go.RowKit Go.Shelf
set_option linter.unusedVariables false
set_option linter.unusedSimpArgs false
namespace lawReachedFromMore
set_option maxRecDepth 100000 in
set_option maxHeartbeats 8000000 in
theorem walk (A : Option Addr) (n c : Nat) (w : World) (hC : Code w w.heap.size A n c) : Calls Try.prog 3 #[.slice A n c] w fun e w' => e = .returned (.bool true) ∧ Chg No w w' := by
  have hn1 := hC.1
  have hn2 := hC.2.1
  by_cases hbig : 1048576 < n
  · skip
    go_enter Try.func3, Try.ntmps3
    go_wp2
    go_ret
    exact ⟨rfl, Chg.refl _ _⟩
  · skip
    have hbig' : n ≤ 1048576 := by omega
    go_enter Try.func3, Try.ntmps3
    (go_wp2_with fail; (with_reducible refine (drawReachedFrom A n c _ hC).mono ?_); rintro e w1 ⟨v1, xs, kind, many, key, rfl, ho1, hl1, hkd, hmd, hc1⟩)
    obtain ⟨A1, c1, rfl, hr1⟩ := OItems.read ho1
    have hm1 := hr1.cap; have hk1 := hr1.le
    have HX := hid hr1
    have hkd0 := hkd.1; have hkd5 := hkd.2; have hmd0 := hmd.1; have hmd6 := hmd.2
    have s1 := hc1.size
    clear ho1 hr1 hkd hmd
    obtain ⟨L, hL⟩ : ∃ L, ReachF xs kind many key = L := ⟨_, rfl⟩
    have KS := hid (fun W (h : Chg No w1 W) => sReachedFrom _ _ _ _ _ xs kind many key W (HX.out.no h))
    have KI := hid (fun W (h : Chg No w1 W) => iReachedFrom _ _ _ _ _ xs kind many key W (HX.out.no h))
    rw [hL] at KS KI
    have HL := hid hL
    clear hL
    (go_wp2_with fail; (with_reducible refine (KI.out _ (Chg.refl _ _)).mono ?_); rintro e w2 ⟨v2, rfl, ho2, hc2⟩)
    obtain ⟨A2, c2, rfl, hr2⟩ := OInts.read ho2
    have hp2 := hr2.cap; have hl2 := hr2.le
    have R2 := hid hr2
    have s2 := hc2.size
    clear ho2 hr2
    (go_wp2_with fail; (with_reducible refine (KS.out _ hc2).mono ?_); rintro e w3 ⟨v3, rfl, ho3, hc3⟩)
    obtain ⟨A3, c3, rfl, hr3⟩ := OInts.read ho3
    have hp3 := hr3.cap; have hl3 := hr3.le
    have R3 := hid hr3
    have s3 := hc3.size
    clear ho3 hr3
    have q3 : Chg No w1 w3 := hc2.no hc3
    (go_wp2_with fail; (with_reducible refine (equalInts _ _ _ _ _ _ _ _ _ L _ (R2.out.no hc3) R3.out).mono ?_); rintro e w4 ⟨rfl, hc4⟩)
    have q4 : Chg No w1 w4 := q3.no hc4
    have r4 : Chg No w2 w4 := hc3.no hc4
    have s4 := hc4.size
    clear R3
    by_cases hL0 : L.length = 0
    · have e0 : ((L.length : Int) == 0) = true := by simp; exact List.eq_nil_of_length_eq_zero hL0
      clear hL0
      (go_wp2_with fail; (with_reducible refine (KS.out _ q4).mono ?_); rintro e w8 ⟨v8, rfl, ho8, hc8⟩)
      obtain ⟨A8, c8, rfl, hr8⟩ := OInts.read ho8
      have hp8 := hr8.cap; have hl8 := hr8.le
      have R8 := hid hr8
      have s8 := hc8.size
      clear ho8 hr8
      (go_wp2_with fail; (with_reducible refine (equalInts _ _ _ _ _ _ _ _ _ L _ (R2.out.no (r4.no hc8)) R8.out).mono ?_); rintro e w9 ⟨rfl, hc9⟩)
      go_wp2
      go_ret
      exact ⟨rfl, hc1.no ((q4.no hc8).no hc9)⟩
    · have e0 : ((L.length : Int) == 0) = false := by simp; intro h; subst h; simp at hL0
      have hLpos : 0 < L.length := by omega
      clear hL0
      by_cases hm5 : many = 5
      · have e5 : (many == 5) = true := by simp [hm5]
        clear hm5
        (go_wp2_with fail; (with_reducible refine (KS.out _ q4).mono ?_); rintro e w8 ⟨v8, rfl, ho8, hc8⟩)
        obtain ⟨A8, c8, rfl, hr8⟩ := OInts.read ho8
        have hp8 := hr8.cap; have hl8 := hr8.le
        have R8 := hid hr8
        have s8 := hc8.size
        clear ho8 hr8
        (go_wp2_with fail; (with_reducible refine (equalInts _ _ _ _ _ _ _ _ _ L _ (R2.out.no (r4.no hc8)) R8.out).mono ?_); rintro e w9 ⟨rfl, hc9⟩)
        go_wp2
        go_ret
        exact ⟨rfl, hc1.no ((q4.no hc8).no hc9)⟩
      · have e5 : (many == 5) = false := by simp [hm5]
        have hrk : reachOk xs kind many key = true := by
          cases h : reachOk xs kind many key with
          | true => rfl
          | false => have h9 := HL.out; rw [ReachF_no h] at h9; rw [← h9] at hLpos; simp at hLpos
        have hrk2 := hrk
        unfold reachOk at hrk2
        rw [Bool.and_eq_true, decide_eq_true_eq] at hrk2
        have hok := linkB_ok hrk2.1
        have hka := keyAt_mem.1 hrk2.2
        have hLL : reachL xs kind many key = L := by rw [← ReachF_ok hrk]; exact HL.out
        have hx16 : xs.length ≤ 16 := storeB_len hok.store
        have hup : L.Pairwise (· < ·) := by rw [← hLL]; exact reachL_up hok.store _ _ _
        have hL16 : L.length ≤ 16 := by
          have h9 : (reachL xs kind many key).length ≤ (xs.map (·.key)).length := List.length_filter_le _ _
          rw [List.length_map, hLL] at h9
          omega
        have hm4 : many + 1 ≤ 5 := by have := hok.many5; omega
        have hok2 : LinkOk xs kind (many + 1) := ⟨hok.store, hok.kind1, hok.kind4, by omega, hm4⟩
        have hrk3 : reachOk xs kind (many + 1) key = true := by unfold reachOk; rw [hok2.b, decide_eq_true hrk2.2]; rfl
        have K2 := hid (fun W (h : Chg No w1 W) => iReachedFrom _ _ _ _ _ xs kind (many + 1) key W (HX.out.no h))
        rw [ReachF_ok hrk3] at K2
        have HIN := hid (show ∀ z ∈ L, z ∈ reachL xs kind (many + 1) key from fun z hz => reach_more hmd0 hka (by rw [hLL]; exact hz))
        have hMl : (reachL xs kind (many + 1) key).length ≤ 16 := by
          have h9 : (reachL xs kind (many + 1) key).length ≤ (xs.map (·.key)).length := List.length_filter_le _ _
          rw [List.length_map] at h9
          omega
        generalize reachL xs kind (many + 1) key = M at *
        have HUP := hid hup
        clear hm5 hrk hrk2 hrk3 hok hok2 hka hLL hup KI KS
        (go_wp2_with fail; (with_reducible refine (K2.out _ q4).mono ?_); rintro e w5 ⟨v5, rfl, ho5, hc5⟩)
        obtain ⟨A5, c5, rfl, hr5⟩ := OInts.read ho5
        have hp5 := hr5.cap; have hl5 := hr5.le
        have R5 := hid hr5
        have s5 := hc5.size
        clear ho5 hr5
        have q5 := q4.no hc5
        have r5 := r4.no hc5
        go_wp2
        go_loopw [9] (fun i wr => ∃ j : Nat, j ≤ L.length ∧ i = .int .i64 j ∧ Chg No w5 wr) (fun i _ => L.length - (intOf i).toNat)
        case atStart => exact ⟨0, Nat.zero_le _, rfl, Chg.refl _ _⟩
        case round =>
          obtain ⟨j, hj, rfl, hc⟩ := hrel
          obtain ⟨wo, rfl⟩ : ∃ W : World, W = wr := ⟨_, rfl⟩
          by_cases hlt : j < L.length
          · obtain ⟨b, o, z, rfl, _, _, hz, hE⟩ := (R2.out.no (r5.no hc)).at_ hlt
            have f1 : ∀ p : NB wo, p.wd.cell? ⟨b, o + j, none⟩ = some (.int .i64 z) := nb_cell (by simpa [EInt] using hE)
            have KN := hid (fun W (h : Chg No wo W) => isInL _ _ A5 M.length c5 M z W (R5.out.no (hc.no h)))
            rw [decide_eq_true (HIN.out z (List.mem_of_getElem? hz))] at KN
            have HZ := hid hz
            clear hz hE
            by_cases h0 : j = 0
            · have d1 : decide (0 < j) = false := decide_eq_false (by omega)
              have d2 : decide ((0 : Int) < (j : Int)) = false := decide_eq_false (by omega)
              clear h0
              go_wp2_with fail
              (refine wp_region_nb (by kernel_rfl) (by kernel_rfl) ?_; (repeat (first | go_big_quiet_step ((go_at_call 15; exact nb_same ((KN.out _ (NB.h _)).mono fun e w' h => ⟨h.1, h.2⟩))) | quiet_step ((go_at_call 15; exact nb_same ((KN.out _ (NB.h _)).mono fun e w' h => ⟨h.1, h.2⟩))))); (with_reducible refine wpQuiet_nil ?_); intro wq hw1; have hq := nb_out hw1; clear hw1)
              go_wp2
              go_roundw
              case rel => exact ⟨j + 1, by omega, by go_num, hc.no hq⟩
              case measure => simp [intOf]; omega
            · obtain ⟨i, rfl⟩ : ∃ i, j = i + 1 := ⟨j - 1, by omega⟩
              obtain ⟨b', o', y, hA', _, _, hy, hE'⟩ := (R2.out.no (r5.no hc)).at_ (k := i) (by omega)
              injection hA' with hA'
              injection hA' with e1 e2 _
              subst e1 e2
              have f2 : ∀ p : NB wo, p.wd.cell? ⟨b, o + i, none⟩ = some (.int .i64 y) := nb_cell (by simpa [EInt] using hE')
              have hyz : y < z := by
                have hi1 := List.getElem?_eq_some_iff.1 hy
                have hi2 := List.getElem?_eq_some_iff.1 HZ.out
                have := (List.pairwise_iff_getElem.1 HUP.out) i (i + 1) hi1.1 hi2.1 (by omega)
                rw [hi1.2, hi2.2] at this
                exact this
              have d1 : decide (0 < i + 1) = true := by simp
              have d3 : decide (z ≤ y) = false := decide_eq_false (by omega)
              have i1 : ((i : Int) + 1 - 1) = i := by omega
              have i2 : i < L.length := by omega
              have i3 : ((i : Int) + 1).toNat = i + 1 := by omega
              clear hy hE' h0
              go_wp2_with fail
              (refine wp_region_nb (by kernel_rfl) (by kernel_rfl) ?_; (repeat (first | go_big_quiet_step ((go_at_call 15; exact nb_same ((KN.out _ (NB.h _)).mono fun e w' h => ⟨h.1, h.2⟩))) | quiet_step ((go_at_call 15; exact nb_same ((KN.out _ (NB.h _)).mono fun e w' h => ⟨h.1, h.2⟩))))); (with_reducible refine wpQuiet_nil ?_); intro wq hw1; have hq := nb_out hw1; clear hw1)
              go_wp2
              go_roundw
              case rel => exact ⟨i + 1 + 1, by omega, by go_num, hc.no hq⟩
              case measure => simp [intOf]; omega
          · go_wp2
            go_ret
            exact ⟨rfl, hc1.no (q5.no hc)⟩

set_option maxRecDepth 100000 in
theorem lifted (os : Os) (started : os.Started) (H : Type) (enc : TypeId × Value → H) :
    ReturnsInHanded {} Try.checked os 3 .any (Rows.fnReachedFromMoreSpec.pre6 enc Try.prog Try.f3 Rows.fnReachedFromMoreRow.domain false) (Rows.fnReachedFromMoreSpec.post enc Try.prog Try.f3 false true false false) := by
  refine returnsInHanded_of_change (C := Try.checked) own started (by kernel_rfl) Try.func3
    (ChangeSpec.witness6 (enc := enc) (C := Try.checked) false ⟨#[], #[.slice none 0 0], []⟩ 8 (by kernel_rfl) (by kernel_rfl) (by kernel_rfl) (by kernel_rfl)) ?_
  intro W base args ds gs before hval0 hW hcnd _
  have hval : ∀ (j : Nat) t v, Try.f3.params[j]? = some t → args[j]? = some v → Value.okWide Try.prog W .any base t v := hval0
  have hW' := hW
  obtain ⟨p, q, hA0, hV, rfl, hfz, hnd⟩ := hW
  have hA : DataW.TrodAll enc Try.prog W 0 (fun _ => true) true Try.f3.params.toList args.toList ds p := hA0
  rw [Try.params3] at hA hval
  obtain ⟨v0, vs0, d0, ds0, p0, q0, hargs, rfl, rfl, h0, r0⟩ := trodAll_cons hA
  obtain ⟨rfl, rfl, rfl⟩ := trodAll_nil r0
  obtain rfl : args = #[v0] := by cases args; simp_all
  obtain ⟨rfl, rfl⟩ := trodVars_none hV
  obtain ⟨a0, len0, cap0, rfl⟩ := okWide_slice Try.underlying22 (hval 0 22 v0 rfl rfl)
  have k0 := h0
  have lt0 : ∀ x ∈ p0, x.block < W.heap.size := by obtain ⟨m, hm⟩ := k0; exact DataW.trod_lt m _ _ _ hm
  have w0 : Code W W.heap.size a0 len0 cap0 := by
    obtain ⟨fuel, hf⟩ := h0
    rcases open_ints Try.underlying22 Try.underlying5 (by kernel_rfl) hf with ⟨hcs, _⟩ | ⟨x, l, c, zs, hcs, _, hl, hm, hz, _, hcell, hwz⟩
    · simp [Value.cells] at hcs
      obtain ⟨rfl, rfl, rfl⟩ := hcs
      exact code_nil _
    · simp [Value.cells] at hcs
      obtain ⟨rfl, rfl, rfl⟩ := hcs
      exact code_row hl hm (by simpa using hz) hcell hwz
  clear hA0 hval0
  refine (walk a0 len0 cap0 W w0).mono fun e W' ⟨he, bel0⟩ => ?_
  have bel := bel0.below
  subst he
  exact ⟨_, rfl, _, _, _, [], _, [], hW', trodAll_mk1 (shut_bool Try.underlying4 _), (trodAll_cons_mk (Below.trod laidOut (by kernel_rfl) (of_decide_eq_true (by kernel_rfl)) k0 bel lt0) trodAll_mk0), rfl, bel.frame _, fun h => by cases h⟩

theorem over : Rows.fnReachedFromMoreRow.holds Try.pinned (OpenSpec.ofChange Rows.fnReachedFromMoreSpec) :=
  OpenClaim.holds_of_wide 3 Try.f3 rfl rfl rfl rfl rfl rfl rfl ⟨rfl, rfl, rfl, rfl, rfl⟩ rfl rfl rfl rfl rfl (by kernel_rfl) Try.func3 (by kernel_rfl)
    (of_decide_eq_true (by kernel_rfl)) (by unfold Func.isWrapper; first | (rw [if_pos (by decide +kernel)]; kernel_rfl) | (rw [if_neg (by decide +kernel)]; exact ⟨rfl, rfl⟩))
    (fun os started H enc _ => lifted os started H enc)

theorem proved : Rows.FnReachedFromMoreSaid := over
#print axioms proved

end lawReachedFromMore
end Go.Proofs.Ytodiackopgcnaaa
