/- FnReachedFromClosed: reach is closed. No condition. -/
import Derived.Test.YtodiackopgcnaaaLift
import Derived.Test.YtodiackopgcnaaaDrawW
import Derived.Test.YtodiackopgcnaaaReachS
import Derived.Deep.RegionHeld3
import Derived.Deep.RegionWith
import Derived.Deep.DeepCutAuto
namespace Go.Proofs.Ytodiackopgcnaaa
open Go.ChangeShapes Go.WideShapes Go.ChangeAt Go.RowKit Go.Shelf
set_option linter.unusedVariables false
set_option linter.unusedSimpArgs false
namespace lawReachedFromClosed
set_option maxRecDepth 100000 in
set_option maxHeartbeats 8000000 in
theorem walk (A : Option Addr) (n c : Nat) (w : World) (hC : Code w w.heap.size A n c) : Calls Try.prog 4 #[.slice A n c] w fun e w' => e = .returned (.bool true) ∧ Chg No w w' := by
  have hn1 := hC.1
  have hn2 := hC.2.1
  by_cases hbig : 1048576 < n
  · skip
    go_enter Try.func4, Try.ntmps4
    go_wp2
    go_ret
    exact ⟨rfl, Chg.refl _ _⟩
  · skip
    have hbig' : n ≤ 1048576 := by omega
    go_enter Try.func4, Try.ntmps4
    (go_wp2_with fail; (with_reducible refine (drawReachedFrom A n c _ hC).mono ?_); rintro e w1 ⟨v1, xs, kind, many, key, rfl, ho1, hl1, hkd, hmd, hc1⟩)
    obtain ⟨A1, c1, rfl, hr1⟩ := OItems.read ho1
    have hm1 := hr1.cap; have hk1 := hr1.le
    have HX := hid hr1
    have hkd0 := hkd.1; have hkd5 := hkd.2; have hmd0 := hmd.1; have hmd6 := hmd.2
    have s1 := hc1.size
    clear ho1 hr1 hkd hmd
    obtain ⟨L, hL⟩ : ∃ L, ReachF xs kind many key = L := ⟨_, rfl⟩
    have KS := hid (fun W (h : Chg No w1 W) => sReachedFrom _ _ _ _ _ xs kind many key W (HX.out.no h))
    have KI := hid (fun W (h : Chg No w1 W) => iReachedFrom _ _ _ _ _ xs kind many key W (HX.out.no h))
    rw [hL] at KS KI
    have HL := hid hL
    clear hL
    (go_wp2_with fail; (with_reducible refine (KI.out _ (Chg.refl _ _)).mono ?_); rintro e w2 ⟨v2, rfl, ho2, hc2⟩)
    obtain ⟨A2, c2, rfl, hr2⟩ := OInts.read ho2
    have hp2 := hr2.cap; have hl2 := hr2.le
    have R2 := hid hr2
    have s2 := hc2.size
    clear ho2 hr2
    (go_wp2_with fail; (with_reducible refine (KS.out _ hc2).mono ?_); rintro e w3 ⟨v3, rfl, ho3, hc3⟩)
    obtain ⟨A3, c3, rfl, hr3⟩ := OInts.read ho3
    have hp3 := hr3.cap; have hl3 := hr3.le
    have R3 := hid hr3
    have s3 := hc3.size
    clear ho3 hr3
    have q3 : Chg No w1 w3 := hc2.no hc3
    (go_wp2_with fail; (with_reducible refine (equalInts _ _ _ _ _ _ _ _ _ L _ (R2.out.no hc3) R3.out).mono ?_); rintro e w4 ⟨rfl, hc4⟩)
    have q4 : Chg No w1 w4 := q3.no hc4
    have r4 : Chg No w2 w4 := hc3.no hc4
    have s4 := hc4.size
    clear R3
    by_cases hL0 : L.length = 0
    · have e0 : ((L.length : Int) == 0) = true := by simp; exact List.eq_nil_of_length_eq_zero hL0
      clear hL0
      (go_wp2_with fail; (with_reducible refine (KS.out _ q4).mono ?_); rintro e w8 ⟨v8, rfl, ho8, hc8⟩)
      obtain ⟨A8, c8, rfl, hr8⟩ := OInts.read ho8
      have hp8 := hr8.cap; have hl8 := hr8.le
      have R8 := hid hr8
      have s8 := hc8.size
      clear ho8 hr8
      (go_wp2_with fail; (with_reducible refine (equalInts _ _ _ _ _ _ _ _ _ L _ (R2.out.no (r4.no hc8)) R8.out).mono ?_); rintro e w9 ⟨rfl, hc9⟩)
      go_wp2
      go_ret
      exact ⟨rfl, hc1.no ((q4.no hc8).no hc9)⟩
    · have e0 : ((L.length : Int) == 0) = false := by simp; intro h; subst h; simp at hL0
      have hLpos : 0 < L.length := by omega
      clear hL0
      have hrk : reachOk xs kind many key = true := by
        cases h : reachOk xs kind many key with
        | true => rfl
        | false => have h9 := HL.out; rw [ReachF_no h] at h9; rw [← h9] at hLpos; simp at hLpos
      have hrk2 := hrk
      unfold reachOk at hrk2
      rw [Bool.and_eq_true, decide_eq_true_eq] at hrk2
      have hok := linkB_ok hrk2.1
      have hka := keyAt_mem.1 hrk2.2
      have hLL : reachL xs kind many key = L := by rw [← ReachF_ok hrk]; exact HL.out
      have hx16 : xs.length ≤ 16 := storeB_len hok.store
      have hup : L.Pairwise (· < ·) := by rw [← hLL]; exact reachL_up hok.store _ _ _
      have hL16 : L.length ≤ 16 := by
        have h9 : (reachL xs kind many key).length ≤ (xs.map (·.key)).length := List.length_filter_le _ _
        rw [List.length_map, hLL] at h9
        omega
      have K2 := hid (fun W (h : Chg No w1 W) => iLinksOf _ _ _ _ _ xs kind many W (HX.out.no h))
      rw [LinksF_ok hok.b] at K2
      have HCL := hid (show ∀ (i : Nat) (x : It) (y : Int), xs[i]? = some x → y ∈ linkAt xs kind many i → x.key ∈ L → y ∈ L from fun i x y hi hy h => by
        rw [← hLL] at h ⊢
        exact reach_closed hok.store hka hi hy h)
      have HKL := hid (show key ∈ L from by rw [← hLL]; exact (reachL_mem hka).2 (Reach.self _ _))
      have hcnt : min (many.toNat + 1) xs.length ≤ L.length := by rw [← hLL]; exact reach_count hok.store hmd0 hka
      have d9 : decide (min (many + 1) (xs.length : Int) ≤ (L.length : Int)) = true := decide_eq_true (by omega)
      obtain ⟨G, hG⟩ : ∃ G, linksL xs kind many = G := ⟨_, rfl⟩
      have hGl : G.length = xs.length := by rw [← hG, linksL_len]
      have HGR := hid (show ∀ (j : Nat) (r : List Int), G[j]? = some r → r = linkAt xs kind many j ∧ r.length ≤ 16 from fun j r h => by
        have hj : j < xs.length := by have := (List.getElem?_eq_some_iff.1 h).1; omega
        have h9 := linksL_at (kind := kind) (many := many) hj
        rw [hG, h] at h9
        injection h9 with h9
        refine ⟨h9, ?_⟩
        rw [h9, linkAt_len hj]; omega)
      rw [hG] at K2
      have hG1 : xs.length ≤ G.length := by omega
      have hG2 : G.length ≤ 16 := by omega
      clear hrk hrk2 hok hka hLL hup hG hGl KI KS hcnt
      (go_wp2_with fail; (with_reducible refine (K2.out _ q4).mono ?_); rintro e w5 ⟨v5, rfl, ho5, hc5⟩)
      obtain ⟨A5, c5, rfl, hr5⟩ := ORows.read ho5
      have hp5 := hr5.cap; have hl5 := hr5.le
      have R5 := hid hr5
      have q5 := q4.no hc5
      have r5 := r4.no hc5
      clear ho5 hr5
      go_wp2
      go_loopw [9, 10] (fun i s10 wr => ∃ j : Nat, j ≤ xs.length ∧ i = .int .i64 j ∧ Chg No w5 wr) (fun i _ _ => xs.length - (intOf i).toNat)
      case atStart => exact ⟨0, Nat.zero_le _, rfl, Chg.refl _ _⟩
      case round =>
        obtain ⟨j, hj, rfl, hc⟩ := hrel
        obtain ⟨wo, rfl⟩ : ∃ W : World, W = wr := ⟨_, rfl⟩
        by_cases hlt : j < xs.length
        · have hjG : j < G.length := by omega
          have d1 : decide (j < G.length) = true := decide_eq_true hjG
          have d2 : decide ((j : Int) < (G.length : Int)) = true := decide_eq_true (by omega)
          obtain ⟨b2, o2, z, rfl, _, _, hzk, hE⟩ := (HX.out.no (q5.no hc)).at_ hlt
          obtain ⟨b, o, r, Ar, nr, cr, rfl, _, _, hr, f1', hv1⟩ := (R5.out.no hc).at_ hjG
          obtain ⟨zk, zv, zt⟩ := z
          obtain ⟨hrr, hr16⟩ := HGR.out j r hr
          obtain rfl : nr = r.length := hv1.len.symm
          have hlr := hv1.le; have hpr := hv1.cap
          have HZ := hid hzk; have HE1 := hid hE.1; have HF1 := hid f1'; have HV1 := hid hv1; have HRR := hid hrr
          clear hzk hE hr f1' hv1 hrr
          go_wp2
          go_loopw [10] (fun i wr => ∃ m : Nat, m ≤ r.length ∧ i = .int .i64 m ∧ Chg No wo wr) (fun i _ => r.length - (intOf i).toNat)
          case atStart => exact ⟨0, Nat.zero_le _, rfl, Chg.refl _ _⟩
          case round =>
            obtain ⟨m, hm, rfl, hcm⟩ := hrel
            obtain ⟨wi, rfl⟩ : ∃ W : World, W = wr := ⟨_, rfl⟩
            have g0 : wi.cell? ⟨b, o + j, none⟩ = some (.slice Ar r.length cr) := cell_keep hcm HF1.out (fun e => e)
            by_cases hlm : m < r.length
            · obtain ⟨b3, o3, y, rfl, _, _, hy, hE3⟩ := (HV1.out.no hcm).at_ hlm
              have g2 : wi.cell? ⟨b3, o3 + m, none⟩ = some (.int .i64 y) := by simpa [EInt] using hE3
              have g3 : wi.cell? ⟨b2, o2 + j * 3, none⟩ = some (.int .i64 zk) := cell_keep hcm HE1.out (fun e => e)
              have KN1 := hid (fun W (h : Chg No wi W) => isInL _ _ A2 L.length c2 L zk W (R2.out.no (((r5.no hc).no hcm).no h)))
              have KN2 := hid (fun W (h : Chg No wi W) => isInL _ _ A2 L.length c2 L y W (R2.out.no (((r5.no hc).no hcm).no h)))
              have hcl := HCL.out j ⟨zk, zv, zt⟩ y HZ.out (by rw [← HRR.out]; exact List.mem_of_getElem? hy)
              simp only [] at hcl
              clear hy hE3
              by_cases hin : zk ∈ L
              · have hb1 : decide (zk ∈ L) = true := decide_eq_true hin
                have hb2 : decide (y ∈ L) = true := decide_eq_true (hcl hin)
                clear hcl hin
                rw [hb1] at KN1
                rw [hb2] at KN2
                (go_wp2_with fail; (with_reducible refine (KN1.out _ (Chg.refl _ _)).mono ?_); rintro e w6 ⟨rfl, rfl⟩)
                (go_wp2_with fail; (with_reducible refine (KN2.out _ (Chg.refl _ _)).mono ?_); rintro e w7 ⟨rfl, rfl⟩)
                go_wp2
                go_roundw
                case rel => exact ⟨m + 1, by omega, by go_num, hcm⟩
                case measure => simp [intOf]; omega
              · have hb1 : decide (zk ∈ L) = false := decide_eq_false hin
                clear hcl hin
                rw [hb1] at KN1
                (go_wp2_with fail; (with_reducible refine (KN1.out _ (Chg.refl _ _)).mono ?_); rintro e w6 ⟨rfl, rfl⟩)
                go_wp2
                go_roundw
                case rel => exact ⟨m + 1, by omega, by go_num, hcm⟩
                case measure => simp [intOf]; omega
            · go_wp2
              go_roundw
              case rel => exact ⟨j + 1, by omega, by go_num, hc.no hcm⟩
              case measure => simp [intOf]; omega
        · have KN := hid (fun W (h : Chg No w5 W) => isInL _ _ A2 L.length c2 L key W (R2.out.no (r5.no h)))
          rw [decide_eq_true HKL.out] at KN
          (go_wp2_with fail; (with_reducible refine (KN.out _ hc).mono ?_); rintro e w6 ⟨rfl, rfl⟩)
          go_wp2
          go_ret
          exact ⟨rfl, hc1.no (q5.no hc)⟩

set_option maxRecDepth 100000 in
theorem lifted (os : Os) (started : os.Started) (H : Type) (enc : TypeId × Value → H) :
    ReturnsInHanded {} Try.checked os 4 .any (Rows.fnReachedFromClosedSpec.pre6 enc Try.prog Try.f4 Rows.fnReachedFromClosedRow.domain false) (Rows.fnReachedFromClosedSpec.post enc Try.prog Try.f4 false true false false) := by
  refine returnsInHanded_of_change (C := Try.checked) own started (by kernel_rfl) Try.func4
    (ChangeSpec.witness6 (enc := enc) (C := Try.checked) false ⟨#[], #[.slice none 0 0], []⟩ 8 (by kernel_rfl) (by kernel_rfl) (by kernel_rfl) (by kernel_rfl)) ?_
  intro W base args ds gs before hval0 hW hcnd _
  have hval : ∀ (j : Nat) t v, Try.f4.params[j]? = some t → args[j]? = some v → Value.okWide Try.prog W .any base t v := hval0
  have hW' := hW
  obtain ⟨p, q, hA0, hV, rfl, hfz, hnd⟩ := hW
  have hA : DataW.TrodAll enc Try.prog W 0 (fun _ => true) true Try.f4.params.toList args.toList ds p := hA0
  rw [Try.params4] at hA hval
  obtain ⟨v0, vs0, d0, ds0, p0, q0, hargs, rfl, rfl, h0, r0⟩ := trodAll_cons hA
  obtain ⟨rfl, rfl, rfl⟩ := trodAll_nil r0
  obtain rfl : args = #[v0] := by cases args; simp_all
  obtain ⟨rfl, rfl⟩ := trodVars_none hV
  obtain ⟨a0, len0, cap0, rfl⟩ := okWide_slice Try.underlying22 (hval 0 22 v0 rfl rfl)
  have k0 := h0
  have lt0 : ∀ x ∈ p0, x.block < W.heap.size := by obtain ⟨m, hm⟩ := k0; exact DataW.trod_lt m _ _ _ hm
  have w0 : Code W W.heap.size a0 len0 cap0 := by
    obtain ⟨fuel, hf⟩ := h0
    rcases open_ints Try.underlying22 Try.underlying5 (by kernel_rfl) hf with ⟨hcs, _⟩ | ⟨x, l, c, zs, hcs, _, hl, hm, hz, _, hcell, hwz⟩
    · simp [Value.cells] at hcs
      obtain ⟨rfl, rfl, rfl⟩ := hcs
      exact code_nil _
    · simp [Value.cells] at hcs
      obtain ⟨rfl, rfl, rfl⟩ := hcs
      exact code_row hl hm (by simpa using hz) hcell hwz
  clear hA0 hval0
  refine (walk a0 len0 cap0 W w0).mono fun e W' ⟨he, bel0⟩ => ?_
  have bel := bel0.below
  subst he
  exact ⟨_, rfl, _, _, _, [], _, [], hW', trodAll_mk1 (shut_bool Try.underlying4 _), (trodAll_cons_mk (Below.trod laidOut (by kernel_rfl) (of_decide_eq_true (by kernel_rfl)) k0 bel lt0) trodAll_mk0), rfl, bel.frame _, fun h => by cases h⟩

theorem over : Rows.fnReachedFromClosedRow.holds Try.pinned (OpenSpec.ofChange Rows.fnReachedFromClosedSpec) :=
  OpenClaim.holds_of_wide 4 Try.f4 rfl rfl rfl rfl rfl rfl rfl ⟨rfl, rfl, rfl, rfl, rfl⟩ rfl rfl rfl rfl rfl (by kernel_rfl) Try.func4 (by kernel_rfl)
    (of_decide_eq_true (by kernel_rfl)) (by unfold Func.isWrapper; first | (rw [if_pos (by decide +kernel)]; kernel_rfl) | (rw [if_neg (by decide +kernel)]; exact ⟨rfl, rfl⟩))
    (fun os started H enc _ => lifted os started H enc)

theorem proved : Rows.FnReachedFromClosedSaid := over
#print axioms proved

end lawReachedFromClosed
end Go.Proofs.Ytodiackopgcnaaa
