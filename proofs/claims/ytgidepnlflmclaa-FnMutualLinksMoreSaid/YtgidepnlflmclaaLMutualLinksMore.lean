/- FnMutualLinksMore: more neighbours are more mutual. No condition. -/
import Derived.Test.YtgidepnlflmclaaLift
import Derived.Test.YtgidepnlflmclaaLinksJ
import Derived.Test.YtgidepnlflmclaaMutS
import Derived.Test.YtgidepnlflmclaaDrawU
import Derived.Test.YtgidepnlflmclaaEqG
import Derived.Deep.RegionHeld3
import Derived.Deep.RegionWith
import Derived.Deep.DeepCutAuto
namespace Go.Proofs.Ytgidepnlflmclaa
open Go.ChangeShapes Go.WideShapes Go.ChangeAt Go.RowKit Go.Shelf
set_option linter.unusedVariables false
set_option linter.unusedSimpArgs false
namespace lawMutualLinksMore
set_option maxRecDepth 100000 in
set_option maxHeartbeats 8000000 in
theorem walk (A : Option Addr) (n c : Nat) (w : World) (hC : Code w w.heap.size A n c) : Calls Try.prog 9 #[.slice A n c] w fun e w' => e = .returned (.bool true) ∧ Chg No w w' := by
  have hn1 := hC.1
  have hn2 := hC.2.1
  by_cases hbig : 1048576 < n
  · skip
    go_enter Try.func9, Try.ntmps9
    go_wp2
    go_ret
    exact ⟨rfl, Chg.refl _ _⟩
  · skip
    have hbig' : n ≤ 1048576 := by omega
    go_enter Try.func9, Try.ntmps9
    (go_wp2_with fail; (with_reducible refine (drawMutualLinks A n c _ hC).mono ?_); rintro e w1 ⟨v1, xs, kind, many, rfl, ho1, hl1, hkd, hmd, hc1⟩)
    obtain ⟨A1, c1, rfl, hr1⟩ := OItems.read ho1
    have hm1 := hr1.cap; have hk1 := hr1.le
    have HX := hid hr1
    have hkd0 := hkd.1; have hkd5 := hkd.2; have hmd0 := hmd.1; have hmd6 := hmd.2
    have s1 := hc1.size
    clear ho1 hr1 hkd hmd
    obtain ⟨L, hL⟩ : ∃ L, MutF xs kind many = L := ⟨_, rfl⟩
    have KS := hid (fun W (h : Chg No w1 W) => sMutualLinks _ _ _ _ _ xs kind many W (HX.out.no h))
    have KI := hid (fun W (h : Chg No w1 W) => iMutualLinks _ _ _ _ _ xs kind many W (HX.out.no h))
    rw [hL] at KS KI
    have HL := hid hL
    clear hL
    (go_wp2_with fail; (with_reducible refine (KI.out _ (Chg.refl _ _)).mono ?_); rintro e w2 ⟨v2, rfl, ho2, hc2⟩)
    obtain ⟨A2, c2, rfl, hr2⟩ := ORows.read ho2
    have hp2 := hr2.cap; have hl2 := hr2.le
    have R2 := hid hr2
    have s2 := hc2.size
    clear ho2 hr2
    (go_wp2_with fail; (with_reducible refine (KS.out _ hc2).mono ?_); rintro e w3 ⟨v3, rfl, ho3, hc3⟩)
    obtain ⟨A3, c3, rfl, hr3⟩ := ORows.read ho3
    have hp3 := hr3.cap; have hl3 := hr3.le
    have R3 := hid hr3
    have s3 := hc3.size
    clear ho3 hr3
    have q3 : Chg No w1 w3 := hc2.no hc3
    (go_wp2_with fail; (with_reducible refine (equalLists _ _ _ _ _ _ _ _ _ L _ (R2.out.no hc3) R3.out).mono ?_); rintro e w4 ⟨rfl, hc4⟩)
    have q4 : Chg No w1 w4 := q3.no hc4
    have r4 : Chg No w2 w4 := hc3.no hc4
    have s4 := hc4.size
    clear R3
    by_cases hL0 : L.length = 0
    · have e0 : ((L.length : Int) == 0) = true := by simp; exact List.eq_nil_of_length_eq_zero hL0
      clear hL0
      (go_wp2_with fail; (with_reducible refine (KS.out _ q4).mono ?_); rintro e w8 ⟨v8, rfl, ho8, hc8⟩)
      obtain ⟨A8, c8, rfl, hr8⟩ := ORows.read ho8
      have hp8 := hr8.cap; have hl8 := hr8.le
      have R8 := hid hr8
      have s8 := hc8.size
      clear ho8 hr8
      (go_wp2_with fail; (with_reducible refine (equalLists _ _ _ _ _ _ _ _ _ L _ (R2.out.no (r4.no hc8)) R8.out).mono ?_); rintro e w9 ⟨rfl, hc9⟩)
      go_wp2
      go_ret
      exact ⟨rfl, hc1.no ((q4.no hc8).no hc9)⟩
    · have e0 : ((L.length : Int) == 0) = false := by simp; intro h; subst h; simp at hL0
      have hLpos : 0 < L.length := by omega
      clear hL0
      by_cases hm5 : many = 5
      · have e5 : (many == 5) = true := by simp [hm5]
        clear hm5
        (go_wp2_with fail; (with_reducible refine (KS.out _ q4).mono ?_); rintro e w8 ⟨v8, rfl, ho8, hc8⟩)
        obtain ⟨A8, c8, rfl, hr8⟩ := ORows.read ho8
        have hp8 := hr8.cap; have hl8 := hr8.le
        have R8 := hid hr8
        have s8 := hc8.size
        clear ho8 hr8
        (go_wp2_with fail; (with_reducible refine (equalLists _ _ _ _ _ _ _ _ _ L _ (R2.out.no (r4.no hc8)) R8.out).mono ?_); rintro e w9 ⟨rfl, hc9⟩)
        go_wp2
        go_ret
        exact ⟨rfl, hc1.no ((q4.no hc8).no hc9)⟩
      · have e5 : (many == 5) = false := by simp [hm5]
        have hlk : linkB xs kind many = true := by
          cases h : linkB xs kind many with
          | true => rfl
          | false => have h9 := HL.out; rw [MutF_no h] at h9; rw [← h9] at hLpos; simp at hLpos
        have hok := linkB_ok hlk
        have hLL : mutL xs kind many = L := by rw [← MutF_ok hlk]; exact HL.out
        have hx16 : xs.length ≤ 16 := storeB_len hok.store
        have hL256 : L.length ≤ 256 := by
          have h1 := mutL_len xs kind many
          rw [hLL] at h1
          have h2 : xs.length * xs.length ≤ 16 * 16 := Nat.mul_le_mul hx16 hx16
          omega
        have hm4 : many + 1 ≤ 5 := by have := hok.many5; omega
        have hok2 : LinkOk xs kind (many + 1) := ⟨hok.store, hok.kind1, hok.kind4, by omega, hm4⟩
        have K2 := hid (fun W (h : Chg No w1 W) => iMutualLinks _ _ _ _ _ xs kind (many + 1) W (HX.out.no h))
        rw [MutF_ok hok2.b] at K2
        obtain ⟨M, hM⟩ : ∃ M, mutL xs kind (many + 1) = M := ⟨_, rfl⟩
        rw [hM] at K2
        have hM256 : M.length ≤ 256 := by
          have h1 := mutL_len xs kind (many + 1)
          rw [hM] at h1
          have h2 : xs.length * xs.length ≤ 16 * 16 := Nat.mul_le_mul hx16 hx16
          omega
        have HMM := hid (show ∀ r, r ∈ L → r ∈ M from fun r h => by rw [← hLL] at h; rw [← hM]; exact mut_more hmd0 h)
        clear hm5 hlk hok hok2 hLL hM KI KS
        (go_wp2_with fail; (with_reducible refine (K2.out _ q4).mono ?_); rintro e w5 ⟨v5, rfl, ho5, hc5⟩)
        obtain ⟨A5, c5, rfl, hr5⟩ := ORows.read ho5
        have hp5 := hr5.cap; have hl5 := hr5.le
        have R5 := hid hr5
        have s5 := hc5.size
        clear ho5 hr5
        have q5 := q4.no hc5
        have r5 := r4.no hc5
        go_wp2
        go_loopw [8, 9, 10] (fun i s9 s10 wr => ∃ j : Nat, j ≤ L.length ∧ i = .int .i64 j ∧ Chg No w5 wr) (fun i _ _ _ => L.length - (intOf i).toNat)
        case atStart => exact ⟨0, Nat.zero_le _, rfl, Chg.refl _ _⟩
        case round =>
          obtain ⟨j, hj, rfl, hc⟩ := hrel
          obtain ⟨wo, rfl⟩ : ∃ W : World, W = wr := ⟨_, rfl⟩
          by_cases hlt : j < L.length
          · obtain ⟨b, o, r, Ar, nr, cr, rfl, _, _, hr, f1', hv1⟩ := (R2.out.no (r5.no hc)).at_ hlt
            have HRM := hid (HMM.out r (List.mem_of_getElem? hr))
            have HF1 := hid f1'; have HV1 := hid hv1
            clear hr f1' hv1
            go_wp2
            go_loopw [9, 10] (fun s i wr => ∃ (m : Nat) (t : Bool), m ≤ M.length ∧ i = .int .i64 m ∧ s = .bool t ∧ Chg No wo wr ∧ Hid (t = decide (r ∈ M.take m))) (fun _ i _ => M.length - (intOf i).toNat)
            case atStart => exact ⟨0, false, Nat.zero_le _, rfl, rfl, Chg.refl _ _, by (show false = _; simp)⟩
            case round =>
              obtain ⟨m, t, hm, rfl, rfl, hcm, HT⟩ := hrel
              obtain ⟨wi, rfl⟩ : ∃ W : World, W = wr := ⟨_, rfl⟩
              by_cases hlm : m < M.length
              · obtain ⟨b2, o2, u, Au, nu, cu, rfl, _, _, hu, f2', hv2⟩ := (R5.out.no (hc.no hcm)).at_ hlm
                have hTK := take_snoc hu
                have HTK := hid hTK
                have f1 : ∀ p : NB wi, p.wd.cell? ⟨b, o + j, none⟩ = some (.slice Ar nr cr) := nb_cell (cell_keep hcm HF1.out (fun e => e))
                have f2 : ∀ p : NB wi, p.wd.cell? ⟨b2, o2 + m, none⟩ = some (.slice Au nu cu) := nb_cell f2'
                cases t with
                | true =>
                  have HT2 := hid (show true = decide (r ∈ M.take (m + 1)) from by
                    have h9 := of_decide_eq_true HT.out.symm
                    rw [HTK.out, decide_eq_true (List.mem_append.2 (Or.inl h9))])
                  clear hu f2' hv2 hTK
                  go_wp2_with fail
                  (refine wp_region_nb (by kernel_rfl) (by kernel_rfl) ?_; (repeat (first | go_big_quiet_step (fail) | quiet_step (fail))); (with_reducible refine wpQuiet_nil ?_); intro wq hw1; have hq := nb_out hw1; clear hw1)
                  go_wp2
                  go_roundw
                  case rel => exact ⟨m + 1, true, by omega, by go_num, rfl, hcm.no hq, HT2⟩
                  case measure => simp [intOf]; omega
                | false =>
                  have KE := hid (fun W (h : Chg No wi W) => equalIntsG _ _ _ _ Au Ar nu cu nr cr u r W (hv2.no h) (HV1.out.no (hcm.no h)))
                  have hnt : ¬ r ∈ M.take m := of_decide_eq_false HT.out.symm
                  by_cases hur : u = r
                  · rw [decide_eq_true hur] at KE
                    have HT2 := hid (show true = decide (r ∈ M.take (m + 1)) from by
                      rw [hTK, decide_eq_true (List.mem_append.2 (Or.inr (List.mem_singleton.2 hur.symm)))])
                    clear hu f2' hv2 hTK hur hnt
                    go_wp2_with fail
                    (refine wp_region_nb (by kernel_rfl) (by kernel_rfl) ?_; (repeat (first | go_big_quiet_step ((go_at_call 23; exact nb_of (KE.out _ (NB.h _)))) | quiet_step ((go_at_call 23; exact nb_of (KE.out _ (NB.h _)))))); (with_reducible refine wpQuiet_nil ?_); intro wq hw1; have hq := nb_out hw1; clear hw1)
                    go_wp2
                    go_roundw
                    case rel => exact ⟨m + 1, true, by omega, by go_num, rfl, hcm.no hq, HT2⟩
                    case measure => simp [intOf]; omega
                  · rw [decide_eq_false hur] at KE
                    have HT2 := hid (show false = decide (r ∈ M.take (m + 1)) from by
                      rw [hTK, decide_eq_false]
                      intro h9
                      rcases List.mem_append.1 h9 with h9 | h9
                      · exact hnt h9
                      · exact hur (List.mem_singleton.1 h9).symm)
                    clear hu f2' hv2 hTK hur hnt
                    go_wp2_with fail
                    (refine wp_region_nb (by kernel_rfl) (by kernel_rfl) ?_; (repeat (first | go_big_quiet_step ((go_at_call 23; exact nb_of (KE.out _ (NB.h _)))) | quiet_step ((go_at_call 23; exact nb_of (KE.out _ (NB.h _)))))); (with_reducible refine wpQuiet_nil ?_); intro wq hw1; have hq := nb_out hw1; clear hw1)
                    go_wp2
                    go_roundw
                    case rel => exact ⟨m + 1, false, by omega, by go_num, rfl, hcm.no hq, HT2⟩
                    case measure => simp [intOf]; omega
              · have hmm : m = M.length := by omega
                have ht : t = true := by rw [HT.out, hmm, List.take_length, decide_eq_true HRM.out]
                clear hmm HT
                subst ht
                go_wp2
                go_roundw
                case rel => exact ⟨j + 1, by omega, by go_num, hc.no hcm⟩
                case measure => simp [intOf]; omega
          · go_wp2
            go_ret
            exact ⟨rfl, hc1.no (q5.no hc)⟩

set_option maxRecDepth 100000 in
theorem lifted (os : Os) (started : os.Started) (H : Type) (enc : TypeId × Value → H) :
    ReturnsInHanded {} Try.checked os 9 .any (Rows.fnMutualLinksMoreSpec.pre6 enc Try.prog Try.f9 Rows.fnMutualLinksMoreRow.domain false) (Rows.fnMutualLinksMoreSpec.post enc Try.prog Try.f9 false true false false) := by
  refine returnsInHanded_of_change (C := Try.checked) own started (by kernel_rfl) Try.func9
    (ChangeSpec.witness6 (enc := enc) (C := Try.checked) false ⟨#[], #[.slice none 0 0], []⟩ 8 (by kernel_rfl) (by kernel_rfl) (by kernel_rfl) (by kernel_rfl)) ?_
  intro W base args ds gs before hval0 hW hcnd _
  have hval : ∀ (j : Nat) t v, Try.f9.params[j]? = some t → args[j]? = some v → Value.okWide Try.prog W .any base t v := hval0
  have hW' := hW
  obtain ⟨p, q, hA0, hV, rfl, hfz, hnd⟩ := hW
  have hA : DataW.TrodAll enc Try.prog W 0 (fun _ => true) true Try.f9.params.toList args.toList ds p := hA0
  rw [Try.params9] at hA hval
  obtain ⟨v0, vs0, d0, ds0, p0, q0, hargs, rfl, rfl, h0, r0⟩ := trodAll_cons hA
  obtain ⟨rfl, rfl, rfl⟩ := trodAll_nil r0
  obtain rfl : args = #[v0] := by cases args; simp_all
  obtain ⟨rfl, rfl⟩ := trodVars_none hV
  obtain ⟨a0, len0, cap0, rfl⟩ := okWide_slice Try.underlying35 (hval 0 35 v0 rfl rfl)
  have k0 := h0
  have lt0 : ∀ x ∈ p0, x.block < W.heap.size := by obtain ⟨m, hm⟩ := k0; exact DataW.trod_lt m _ _ _ hm
  have w0 : Code W W.heap.size a0 len0 cap0 := by
    obtain ⟨fuel, hf⟩ := h0
    rcases open_ints Try.underlying35 Try.underlying5 (by kernel_rfl) hf with ⟨hcs, _⟩ | ⟨x, l, c, zs, hcs, _, hl, hm, hz, _, hcell, hwz⟩
    · simp [Value.cells] at hcs
      obtain ⟨rfl, rfl, rfl⟩ := hcs
      exact code_nil _
    · simp [Value.cells] at hcs
      obtain ⟨rfl, rfl, rfl⟩ := hcs
      exact code_row hl hm (by simpa using hz) hcell hwz
  clear hA0 hval0
  refine (walk a0 len0 cap0 W w0).mono fun e W' ⟨he, bel0⟩ => ?_
  have bel := bel0.below
  subst he
  exact ⟨_, rfl, _, _, _, [], _, [], hW', trodAll_mk1 (shut_bool Try.underlying4 _), (trodAll_cons_mk (Below.trod laidOut (by kernel_rfl) (of_decide_eq_true (by kernel_rfl)) k0 bel lt0) trodAll_mk0), rfl, bel.frame _, fun h => by cases h⟩

theorem over : Rows.fnMutualLinksMoreRow.holds Try.pinned (OpenSpec.ofChange Rows.fnMutualLinksMoreSpec) :=
  OpenClaim.holds_of_wide 9 Try.f9 rfl rfl rfl rfl rfl rfl rfl ⟨rfl, rfl, rfl, rfl, rfl⟩ rfl rfl rfl rfl rfl (by kernel_rfl) Try.func9 (by kernel_rfl)
    (of_decide_eq_true (by kernel_rfl)) (by unfold Func.isWrapper; first | (rw [if_pos (by decide +kernel)]; kernel_rfl) | (rw [if_neg (by decide +kernel)]; exact ⟨rfl, rfl⟩))
    (fun os started H enc _ => lifted os started H enc)

theorem proved : Rows.FnMutualLinksMoreSaid := over
#print axioms proved

end lawMutualLinksMore
end Go.Proofs.Ytgidepnlflmclaa
