/- FnWalkToOnce: walks meet nobody twice. No condition. -/
import Derived.Test.YtgidepnlflmclaaLift
import Derived.Test.YtgidepnlflmclaaDrawW
import Derived.Test.YtgidepnlflmclaaWalk
import Derived.Test.YtgidepnlflmclaaWalkS
import Derived.Test.YtgidepnlflmclaaEqI
import Derived.Deep.RegionHeld3
import Derived.Deep.RegionWith
import Derived.Deep.DeepCutAuto
namespace Go.Proofs.Ytgidepnlflmclaa
open Go.ChangeShapes Go.WideShapes Go.ChangeAt Go.RowKit Go.Shelf
set_option linter.unusedVariables false
set_option linter.unusedSimpArgs false
namespace lawWalkToOnce
set_option maxRecDepth 100000 in
set_option maxHeartbeats 8000000 in
theorem walk (A : Option Addr) (n c : Nat) (w : World) (hC : Code w w.heap.size A n c) : Calls Try.prog 5 #[.slice A n c] w fun e w' => e = .returned (.bool true) ∧ Chg No w w' := by
  have hn1 := hC.1
  have hn2 := hC.2.1
  by_cases hbig : 1048576 < n
  · skip
    go_enter Try.func5, Try.ntmps5
    go_wp2
    go_ret
    exact ⟨rfl, Chg.refl _ _⟩
  · skip
    have hbig' : n ≤ 1048576 := by omega
    go_enter Try.func5, Try.ntmps5
    (go_wp2_with fail; (with_reducible refine (drawWalkTo A n c _ hC).mono ?_); rintro e w1 ⟨v1, xs, kind, many, key, A0, n0, c0, at_, rfl, ho1, hl1, hr0, hn0, hkd, hmd, hc1⟩)
    obtain ⟨A1, c1, rfl, hr1⟩ := OItems.read ho1
    have hm1 := hr1.cap; have hk1 := hr1.le; have hm0 := hr0.cap; have hk0 := hr0.le
    have HX := hid hr1; have HY := hid hr0
    have hkd0 := hkd.1; have hkd5 := hkd.2; have hmd0 := hmd.1; have hmd6 := hmd.2
    have s1 := hc1.size
    clear ho1 hr1 hr0 hkd hmd
    obtain ⟨L, hL⟩ : ∃ L, WalkF xs kind many key at_ = L := ⟨_, rfl⟩
    obtain ⟨t, ht⟩ : ∃ t, walkB xs kind many key at_ = t := ⟨_, rfl⟩
    have KS := hid (fun W (h : Chg No w1 W) => sWalkTo _ _ _ _ _ xs _ _ _ _ _ at_ kind many key W (HX.out.no h) (HY.out.no h))
    have KI := hid (fun W (h : Chg No w1 W) => iWalkTo _ _ _ _ _ xs _ _ _ _ _ at_ kind many key W (HX.out.no h) (HY.out.no h))
    rw [hL, ht] at KS KI
    have HL := hid hL
    clear hL
    cases t with
    | false =>
      clear ht
      (go_wp2_with fail; (with_reducible refine (KI.out _ (Chg.refl _ _)).mono ?_); rintro e w2 ⟨v2, rfl, ho2, hc2⟩)
      obtain ⟨A2, c2, rfl, hr2⟩ := OInts.read ho2
      have hp2 := hr2.cap; have hl2 := hr2.le
      have R2 := hid hr2
      have s2 := hc2.size
      clear ho2 hr2
      (go_wp2_with fail; (with_reducible refine (KS.out _ hc2).mono ?_); rintro e w3 ⟨v3, rfl, ho3, hc3⟩)
      obtain ⟨A3, c3, rfl, hr3⟩ := OInts.read ho3
      have hp3 := hr3.cap; have hl3 := hr3.le
      have R3 := hid hr3
      have s3 := hc3.size
      clear ho3 hr3
      (go_wp2_with fail; (with_reducible refine (equalInts _ _ _ _ _ _ _ _ _ L _ (R2.out.no hc3) R3.out).mono ?_); rintro e w4 ⟨rfl, hc4⟩)
      (go_wp2_with fail; (with_reducible refine (equalInts _ _ _ _ _ _ _ _ _ L _ (R2.out.no (hc3.no hc4)) (R3.out.no hc4)).mono ?_); rintro e w5 ⟨rfl, hc5⟩)
      go_wp2
      go_ret
      exact ⟨rfl, (((hc1.no hc2).no hc3).no hc4).no hc5⟩
    | true =>
      have hLL : walkL xs kind many at_ key = L := by rw [← WalkF_ok ht]; exact HL.out
      have hwb := ht
      unfold walkB at hwb
      rw [Bool.and_eq_true, Bool.and_eq_true, decide_eq_true_eq] at hwb
      have hlk := hwb.1
      have hok := linkB_ok hwb.1
      have hvb := hwb.2.1
      have hka := keyAt_mem.1 hwb.2.2
      have hx16 : xs.length ≤ 16 := storeB_len hok.store
      have hwl := walk_len (kind := kind) (many := many) (at_ := at_) hka
      rw [hLL] at hwl
      have hL1 : 1 ≤ L.length := hwl.1
      have hL16 : L.length ≤ xs.length := hwl.2
      have e0 : ((L.length : Int) == 0) = false := by simp; intro h; subst h; simp at hL1
      clear hwb hwl ht
      (go_wp2_with fail; (with_reducible refine (KI.out _ (Chg.refl _ _)).mono ?_); rintro e w2 ⟨v2, rfl, ho2, hc2⟩)
      obtain ⟨A2, c2, rfl, hr2⟩ := OInts.read ho2
      have hp2 := hr2.cap; have hl2 := hr2.le
      have R2 := hid hr2
      have s2 := hc2.size
      clear ho2 hr2
      (go_wp2_with fail; (with_reducible refine (KS.out _ hc2).mono ?_); rintro e w3 ⟨v3, rfl, ho3, hc3⟩)
      obtain ⟨A3, c3, rfl, hr3⟩ := OInts.read ho3
      have hp3 := hr3.cap; have hl3 := hr3.le
      have R3 := hid hr3
      have s3 := hc3.size
      clear ho3 hr3
      (go_wp2_with fail; (with_reducible refine (equalInts _ _ _ _ _ _ _ _ _ L _ (R2.out.no hc3) R3.out).mono ?_); rintro e w4 ⟨rfl, hc4⟩)
      have q4 : Chg No w1 w4 := (hc2.no hc3).no hc4
      have r4 : Chg No w2 w4 := hc3.no hc4
      have s4 := hc4.size
      clear R3 KI KS
      have HND := hid (show L.Nodup from by rw [← hLL]; exact walk_nodup _ _ _ _ _)
      clear hlk hok hvb hka hLL
      go_wp2
      go_loopw [12] (fun i wr => ∃ j : Nat, j ≤ L.length ∧ i = .int .i64 j ∧ Chg No w4 wr) (fun i _ => L.length - (intOf i).toNat)
      case atStart => exact ⟨0, Nat.zero_le _, rfl, Chg.refl _ _⟩
      case round =>
        obtain ⟨j, hj, rfl, hc⟩ := hrel
        obtain ⟨wo, rfl⟩ : ∃ W : World, W = wr := ⟨_, rfl⟩
        by_cases hlt : j < L.length
        · have HR := hid (R2.out.no (r4.no hc))
          have KN0 := fun z W (h : Chg No wo W) => isInL _ _ _ j c2 (L.take j) z W (RInts.no (RSl.take HR.out (k := j) (by omega)) h)
          obtain ⟨b, o, z, rfl, _, _, hz, hE⟩ := HR.out.at_ hlt
          have f1 : ∀ p : NB wo, p.wd.cell? ⟨b, o + j, none⟩ = some (.int .i64 z) := nb_cell (by simpa [EInt] using hE)
          have KN := hid (KN0 z)
          have hno : decide (z ∈ L.take j) = false := decide_eq_false (fun h => by
            obtain ⟨i, hi⟩ := List.getElem?_of_mem h
            have hij : i < j := by
              have h9 := (List.getElem?_eq_some_iff.1 hi).1
              rw [List.length_take] at h9
              omega
            rw [List.getElem?_take, if_pos hij] at hi
            have h1 := List.getElem?_eq_some_iff.1 hi
            have h2 := List.getElem?_eq_some_iff.1 hz
            have h3 := (List.pairwise_iff_getElem.1 HND.out) i j h1.1 h2.1 hij
            exact h3 (by rw [h1.2, h2.2]))
          rw [hno] at KN
          have hjc : j ≤ c2 := by omega
          clear hz hE KN0 hno HR
          go_wp2_with fail
          (refine wp_region_nb (by kernel_rfl) (by kernel_rfl) ?_; (repeat (first | go_big_quiet_step ((go_at_call 24; exact nb_same (KN.out _ (NB.h _)))) | quiet_step ((go_at_call 24; exact nb_same (KN.out _ (NB.h _)))))); (with_reducible refine wpQuiet_nil ?_); intro wq hw1; have hq := nb_out hw1; clear hw1)
          go_wp2
          go_roundw
          case rel => exact ⟨j + 1, by omega, by go_num, hc.no hq⟩
          case measure => simp [intOf]; omega
        · have d1 : decide (1 ≤ L.length) = true := decide_eq_true hL1
          have d2 : decide ((1 : Int) ≤ (L.length : Int)) = true := decide_eq_true (by omega)
          have d3 : decide (L.length ≤ xs.length) = true := decide_eq_true hL16
          have d4 : decide ((L.length : Int) ≤ (xs.length : Int)) = true := decide_eq_true (by omega)
          go_wp2
          go_ret
          exact ⟨rfl, hc1.no (q4.no hc)⟩

set_option maxRecDepth 100000 in
theorem lifted (os : Os) (started : os.Started) (H : Type) (enc : TypeId × Value → H) :
    ReturnsInHanded {} Try.checked os 5 .any (Rows.fnWalkToOnceSpec.pre6 enc Try.prog Try.f5 Rows.fnWalkToOnceRow.domain false) (Rows.fnWalkToOnceSpec.post enc Try.prog Try.f5 false true false false) := by
  refine returnsInHanded_of_change (C := Try.checked) own started (by kernel_rfl) Try.func5
    (ChangeSpec.witness6 (enc := enc) (C := Try.checked) false ⟨#[], #[.slice none 0 0], []⟩ 8 (by kernel_rfl) (by kernel_rfl) (by kernel_rfl) (by kernel_rfl)) ?_
  intro W base args ds gs before hval0 hW hcnd _
  have hval : ∀ (j : Nat) t v, Try.f5.params[j]? = some t → args[j]? = some v → Value.okWide Try.prog W .any base t v := hval0
  have hW' := hW
  obtain ⟨p, q, hA0, hV, rfl, hfz, hnd⟩ := hW
  have hA : DataW.TrodAll enc Try.prog W 0 (fun _ => true) true Try.f5.params.toList args.toList ds p := hA0
  rw [Try.params5] at hA hval
  obtain ⟨v0, vs0, d0, ds0, p0, q0, hargs, rfl, rfl, h0, r0⟩ := trodAll_cons hA
  obtain ⟨rfl, rfl, rfl⟩ := trodAll_nil r0
  obtain rfl : args = #[v0] := by cases args; simp_all
  obtain ⟨rfl, rfl⟩ := trodVars_none hV
  obtain ⟨a0, len0, cap0, rfl⟩ := okWide_slice Try.underlying35 (hval 0 35 v0 rfl rfl)
  have k0 := h0
  have lt0 : ∀ x ∈ p0, x.block < W.heap.size := by obtain ⟨m, hm⟩ := k0; exact DataW.trod_lt m _ _ _ hm
  have w0 : Code W W.heap.size a0 len0 cap0 := by
    obtain ⟨fuel, hf⟩ := h0
    rcases open_ints Try.underlying35 Try.underlying5 (by kernel_rfl) hf with ⟨hcs, _⟩ | ⟨x, l, c, zs, hcs, _, hl, hm, hz, _, hcell, hwz⟩
    · simp [Value.cells] at hcs
      obtain ⟨rfl, rfl, rfl⟩ := hcs
      exact code_nil _
    · simp [Value.cells] at hcs
      obtain ⟨rfl, rfl, rfl⟩ := hcs
      exact code_row hl hm (by simpa using hz) hcell hwz
  clear hA0 hval0
  refine (walk a0 len0 cap0 W w0).mono fun e W' ⟨he, bel0⟩ => ?_
  have bel := bel0.below
  subst he
  exact ⟨_, rfl, _, _, _, [], _, [], hW', trodAll_mk1 (shut_bool Try.underlying4 _), (trodAll_cons_mk (Below.trod laidOut (by kernel_rfl) (of_decide_eq_true (by kernel_rfl)) k0 bel lt0) trodAll_mk0), rfl, bel.frame _, fun h => by cases h⟩

theorem over : Rows.fnWalkToOnceRow.holds Try.pinned (OpenSpec.ofChange Rows.fnWalkToOnceSpec) :=
  OpenClaim.holds_of_wide 5 Try.f5 rfl rfl rfl rfl rfl rfl rfl ⟨rfl, rfl, rfl, rfl, rfl⟩ rfl rfl rfl rfl rfl (by kernel_rfl) Try.func5 (by kernel_rfl)
    (of_decide_eq_true (by kernel_rfl)) (by unfold Func.isWrapper; first | (rw [if_pos (by decide +kernel)]; kernel_rfl) | (rw [if_neg (by decide +kernel)]; exact ⟨rfl, rfl⟩))
    (fun os started H enc _ => lifted os started H enc)

theorem proved : Rows.FnWalkToOnceSaid := over
#print axioms proved

end lawWalkToOnce
end Go.Proofs.Ytgidepnlflmclaa
