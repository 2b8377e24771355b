/- FnWalkToEnd: walks end where no neighbour is nearer. No condition. -/
import Derived.Test.YtgidepnlflmclaaLift
import Derived.Test.YtgidepnlflmclaaDrawW
import Derived.Test.YtgidepnlflmclaaWalk
import Derived.Test.YtgidepnlflmclaaWalkS
import Derived.Test.YtgidepnlflmclaaEqI
import Derived.Deep.RegionHeld3
import Derived.Deep.RegionWith
import Derived.Deep.DeepCutAuto
namespace Go.Proofs.Ytgidepnlflmclaa
open Go.ChangeShapes Go.WideShapes Go.ChangeAt Go.RowKit Go.Shelf
set_option linter.unusedVariables false
set_option linter.unusedSimpArgs false
namespace lawWalkToEnd
set_option maxRecDepth 100000 in
set_option maxHeartbeats 8000000 in
theorem walk (A : Option Addr) (n c : Nat) (w : World) (hC : Code w w.heap.size A n c) : Calls Try.prog 4 #[.slice A n c] w fun e w' => e = .returned (.bool true) ∧ Chg No w w' := by
  have hn1 := hC.1
  have hn2 := hC.2.1
  by_cases hbig : 1048576 < n
  · skip
    go_enter Try.func4, Try.ntmps4
    go_wp2
    go_ret
    exact ⟨rfl, Chg.refl _ _⟩
  · skip
    have hbig' : n ≤ 1048576 := by omega
    go_enter Try.func4, Try.ntmps4
    (go_wp2_with fail; (with_reducible refine (drawWalkTo A n c _ hC).mono ?_); rintro e w1 ⟨v1, xs, kind, many, key, A0, n0, c0, at_, rfl, ho1, hl1, hr0, hn0, hkd, hmd, hc1⟩)
    obtain ⟨A1, c1, rfl, hr1⟩ := OItems.read ho1
    have hm1 := hr1.cap; have hk1 := hr1.le; have hm0 := hr0.cap; have hk0 := hr0.le
    have HX := hid hr1; have HY := hid hr0
    have hkd0 := hkd.1; have hkd5 := hkd.2; have hmd0 := hmd.1; have hmd6 := hmd.2
    have s1 := hc1.size
    clear ho1 hr1 hr0 hkd hmd
    obtain ⟨L, hL⟩ : ∃ L, WalkF xs kind many key at_ = L := ⟨_, rfl⟩
    obtain ⟨t, ht⟩ : ∃ t, walkB xs kind many key at_ = t := ⟨_, rfl⟩
    have KS := hid (fun W (h : Chg No w1 W) => sWalkTo _ _ _ _ _ xs _ _ _ _ _ at_ kind many key W (HX.out.no h) (HY.out.no h))
    have KI := hid (fun W (h : Chg No w1 W) => iWalkTo _ _ _ _ _ xs _ _ _ _ _ at_ kind many key W (HX.out.no h) (HY.out.no h))
    rw [hL, ht] at KS KI
    have HL := hid hL
    clear hL
    cases t with
    | false =>
      clear ht
      (go_wp2_with fail; (with_reducible refine (KI.out _ (Chg.refl _ _)).mono ?_); rintro e w2 ⟨v2, rfl, ho2, hc2⟩)
      obtain ⟨A2, c2, rfl, hr2⟩ := OInts.read ho2
      have hp2 := hr2.cap; have hl2 := hr2.le
      have R2 := hid hr2
      have s2 := hc2.size
      clear ho2 hr2
      (go_wp2_with fail; (with_reducible refine (KS.out _ hc2).mono ?_); rintro e w3 ⟨v3, rfl, ho3, hc3⟩)
      obtain ⟨A3, c3, rfl, hr3⟩ := OInts.read ho3
      have hp3 := hr3.cap; have hl3 := hr3.le
      have R3 := hid hr3
      have s3 := hc3.size
      clear ho3 hr3
      (go_wp2_with fail; (with_reducible refine (equalInts _ _ _ _ _ _ _ _ _ L _ (R2.out.no hc3) R3.out).mono ?_); rintro e w4 ⟨rfl, hc4⟩)
      (go_wp2_with fail; (with_reducible refine (equalInts _ _ _ _ _ _ _ _ _ L _ (R2.out.no (hc3.no hc4)) (R3.out.no hc4)).mono ?_); rintro e w5 ⟨rfl, hc5⟩)
      go_wp2
      go_ret
      exact ⟨rfl, (((hc1.no hc2).no hc3).no hc4).no hc5⟩
    | true =>
      have hLL : walkL xs kind many at_ key = L := by rw [← WalkF_ok ht]; exact HL.out
      have hwb := ht
      unfold walkB at hwb
      rw [Bool.and_eq_true, Bool.and_eq_true, decide_eq_true_eq] at hwb
      have hlk := hwb.1
      have hok := linkB_ok hwb.1
      have hvb := hwb.2.1
      have hka := keyAt_mem.1 hwb.2.2
      have hx16 : xs.length ≤ 16 := storeB_len hok.store
      have hwl := walk_len (kind := kind) (many := many) (at_ := at_) hka
      rw [hLL] at hwl
      have hL1 : 1 ≤ L.length := hwl.1
      have hL16 : L.length ≤ xs.length := hwl.2
      have e0 : ((L.length : Int) == 0) = false := by simp; intro h; subst h; simp at hL1
      clear hwb hwl ht
      (go_wp2_with fail; (with_reducible refine (KI.out _ (Chg.refl _ _)).mono ?_); rintro e w2 ⟨v2, rfl, ho2, hc2⟩)
      obtain ⟨A2, c2, rfl, hr2⟩ := OInts.read ho2
      have hp2 := hr2.cap; have hl2 := hr2.le
      have R2 := hid hr2
      have s2 := hc2.size
      clear ho2 hr2
      (go_wp2_with fail; (with_reducible refine (KS.out _ hc2).mono ?_); rintro e w3 ⟨v3, rfl, ho3, hc3⟩)
      obtain ⟨A3, c3, rfl, hr3⟩ := OInts.read ho3
      have hp3 := hr3.cap; have hl3 := hr3.le
      have R3 := hid hr3
      have s3 := hc3.size
      clear ho3 hr3
      (go_wp2_with fail; (with_reducible refine (equalInts _ _ _ _ _ _ _ _ _ L _ (R2.out.no hc3) R3.out).mono ?_); rintro e w4 ⟨rfl, hc4⟩)
      have q4 : Chg No w1 w4 := (hc2.no hc3).no hc4
      have r4 : Chg No w2 w4 := hc3.no hc4
      have s4 := hc4.size
      clear R3 KI KS
      obtain ⟨z, hz, hzn⟩ := walk_end xs kind many at_ key
      have hzk := walk_keys hka z (List.mem_of_getLast? hz)
      rw [hLL] at hz
      obtain ⟨m, hm⟩ : ∃ m, L.length = m + 1 := ⟨L.length - 1, by omega⟩
      have hzm : L[m]? = some z := by
        rw [List.getLast?_eq_getElem?, hm] at hz
        exact hz
      have hstay : walkB xs kind many z at_ = true := by unfold walkB; rw [hlk, hvb, decide_eq_true (keyAt_mem.2 hzk)]; rfl
      have K5 := hid (fun W (h : Chg No w1 W) => iWalkTo _ _ _ _ _ xs _ _ _ _ _ at_ kind many z W (HX.out.no h) (HY.out.no h))
      rw [WalkF_ok hstay, hstay, walkL_none hzn] at K5
      clear hstay
      clear hz hzn hlk hok hvb hka hLL hzk
      have i1 : ((L.length : Int) - 1).toNat = m := by omega
      have i2 : 0 ≤ (L.length : Int) - 1 := by omega
      have i3 : (L.length : Int) - 1 < (L.length : Int) := by omega
      obtain ⟨b, o, y, rfl, _, _, hy, hE⟩ := (R2.out.no r4).at_ (k := m) (by omega)
      have e9 : y = z := by rw [hy] at hzm; injection hzm
      subst e9
      have f1 : w4.cell? ⟨b, o + m, none⟩ = some (.int .i64 y) := by simpa [EInt] using hE
      clear hy hE hzm hm
      (go_wp2_with fail; (with_reducible refine (K5.out _ q4).mono ?_); rintro e w5 ⟨v5, rfl, ho5, hc5⟩)
      obtain ⟨A5, c5, rfl, hr5⟩ := OInts.read ho5
      have hp5 := hr5.cap; have hl5 := hr5.le
      have R5 := hid hr5
      have s5 := hc5.size
      clear ho5 hr5
      have R59 := hid (show RInts w5 _ _ A5 1 c5 [y] from R5.out)
      have HA := hid (RInts.lit (w := w5.alloc (.cells #[.int .i64 y] 3)) (n := 1) (heap_top rfl) [y] rfl rfl (by omega))
      have h56 : Chg No w5 (w5.alloc (.cells #[.int .i64 y] 3)) := (Chg.refl _ _).alloc _
      (go_wp2_with fail; (with_reducible refine (equalInts _ _ _ _ _ _ _ _ _ [y] _ (R59.out.no h56) HA.out).mono ?_); rintro e w6 ⟨rfl, hc6⟩)
      go_wp2
      go_ret
      exact ⟨rfl, hc1.no (((q4.no hc5).no h56).no hc6)⟩

set_option maxRecDepth 100000 in
theorem lifted (os : Os) (started : os.Started) (H : Type) (enc : TypeId × Value → H) :
    ReturnsInHanded {} Try.checked os 4 .any (Rows.fnWalkToEndSpec.pre6 enc Try.prog Try.f4 Rows.fnWalkToEndRow.domain false) (Rows.fnWalkToEndSpec.post enc Try.prog Try.f4 false true false false) := by
  refine returnsInHanded_of_change (C := Try.checked) own started (by kernel_rfl) Try.func4
    (ChangeSpec.witness6 (enc := enc) (C := Try.checked) false ⟨#[], #[.slice none 0 0], []⟩ 8 (by kernel_rfl) (by kernel_rfl) (by kernel_rfl) (by kernel_rfl)) ?_
  intro W base args ds gs before hval0 hW hcnd _
  have hval : ∀ (j : Nat) t v, Try.f4.params[j]? = some t → args[j]? = some v → Value.okWide Try.prog W .any base t v := hval0
  have hW' := hW
  obtain ⟨p, q, hA0, hV, rfl, hfz, hnd⟩ := hW
  have hA : DataW.TrodAll enc Try.prog W 0 (fun _ => true) true Try.f4.params.toList args.toList ds p := hA0
  rw [Try.params4] at hA hval
  obtain ⟨v0, vs0, d0, ds0, p0, q0, hargs, rfl, rfl, h0, r0⟩ := trodAll_cons hA
  obtain ⟨rfl, rfl, rfl⟩ := trodAll_nil r0
  obtain rfl : args = #[v0] := by cases args; simp_all
  obtain ⟨rfl, rfl⟩ := trodVars_none hV
  obtain ⟨a0, len0, cap0, rfl⟩ := okWide_slice Try.underlying35 (hval 0 35 v0 rfl rfl)
  have k0 := h0
  have lt0 : ∀ x ∈ p0, x.block < W.heap.size := by obtain ⟨m, hm⟩ := k0; exact DataW.trod_lt m _ _ _ hm
  have w0 : Code W W.heap.size a0 len0 cap0 := by
    obtain ⟨fuel, hf⟩ := h0
    rcases open_ints Try.underlying35 Try.underlying5 (by kernel_rfl) hf with ⟨hcs, _⟩ | ⟨x, l, c, zs, hcs, _, hl, hm, hz, _, hcell, hwz⟩
    · simp [Value.cells] at hcs
      obtain ⟨rfl, rfl, rfl⟩ := hcs
      exact code_nil _
    · simp [Value.cells] at hcs
      obtain ⟨rfl, rfl, rfl⟩ := hcs
      exact code_row hl hm (by simpa using hz) hcell hwz
  clear hA0 hval0
  refine (walk a0 len0 cap0 W w0).mono fun e W' ⟨he, bel0⟩ => ?_
  have bel := bel0.below
  subst he
  exact ⟨_, rfl, _, _, _, [], _, [], hW', trodAll_mk1 (shut_bool Try.underlying4 _), (trodAll_cons_mk (Below.trod laidOut (by kernel_rfl) (of_decide_eq_true (by kernel_rfl)) k0 bel lt0) trodAll_mk0), rfl, bel.frame _, fun h => by cases h⟩

theorem over : Rows.fnWalkToEndRow.holds Try.pinned (OpenSpec.ofChange Rows.fnWalkToEndSpec) :=
  OpenClaim.holds_of_wide 4 Try.f4 rfl rfl rfl rfl rfl rfl rfl ⟨rfl, rfl, rfl, rfl, rfl⟩ rfl rfl rfl rfl rfl (by kernel_rfl) Try.func4 (by kernel_rfl)
    (of_decide_eq_true (by kernel_rfl)) (by unfold Func.isWrapper; first | (rw [if_pos (by decide +kernel)]; kernel_rfl) | (rw [if_neg (by decide +kernel)]; exact ⟨rfl, rfl⟩))
    (fun os started H enc _ => lifted os started H enc)

theorem proved : Rows.FnWalkToEndSaid := over
#print axioms proved

end lawWalkToEnd
end Go.Proofs.Ytgidepnlflmclaa
