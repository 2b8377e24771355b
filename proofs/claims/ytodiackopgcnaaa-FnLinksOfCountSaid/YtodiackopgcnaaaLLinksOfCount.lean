/- FnLinksOfCount: everybody has as many neighbours. No condition. -/
import Derived.Test.YtodiackopgcnaaaLift
import Derived.Test.YtodiackopgcnaaaLinksJ
import Derived.Deep.RegionHeld3
import Derived.Deep.RegionWith
import Derived.Deep.DeepCutAuto
namespace Go.Proofs.Ytodiackopgcnaaa
open Go.ChangeShapes Go.WideShapes Go.ChangeAt Go.RowKit Go.Shelf
set_option linter.unusedVariables false
set_option linter.unusedSimpArgs false
namespace lawLinksOfCount
set_option maxRecDepth 100000 in
set_option maxHeartbeats 8000000 in
theorem walk (A : Option Addr) (n c : Nat) (w : World) (hC : Code w w.heap.size A n c) : Calls Try.prog 8 #[.slice A n c] w fun e w' => e = .returned (.bool true) ∧ Chg No w w' := by
  have hn1 := hC.1
  have hn2 := hC.2.1
  by_cases hbig : 1048576 < n
  · skip
    go_enter Try.func8, Try.ntmps8
    go_wp2
    go_ret
    exact ⟨rfl, Chg.refl _ _⟩
  · skip
    have hbig' : n ≤ 1048576 := by omega
    go_enter Try.func8, Try.ntmps8
    (go_wp2_with fail; (with_reducible refine (drawLinksOf A n c _ hC).mono ?_); rintro e w1 ⟨v1, xs, kind, many, rfl, ho1, hl1, hkd, hmd, hc1⟩)
    obtain ⟨A1, c1, rfl, hr1⟩ := OItems.read ho1
    have hm1 := hr1.cap; have hk1 := hr1.le
    have HX := hid hr1
    have hkd0 := hkd.1; have hkd5 := hkd.2; have hmd0 := hmd.1; have hmd6 := hmd.2
    have s1 := hc1.size
    clear ho1 hr1 hkd hmd
    obtain ⟨L, hL⟩ : ∃ L, LinksF xs kind many = L := ⟨_, rfl⟩
    have KS := hid (fun W (h : Chg No w1 W) => sLinksOf _ _ _ _ _ xs kind many W (HX.out.no h))
    have KI := hid (fun W (h : Chg No w1 W) => iLinksOf _ _ _ _ _ xs kind many W (HX.out.no h))
    rw [hL] at KS KI
    have HL := hid hL
    clear hL
    (go_wp2_with fail; (with_reducible refine (KI.out _ (Chg.refl _ _)).mono ?_); rintro e w2 ⟨v2, rfl, ho2, hc2⟩)
    obtain ⟨A2, c2, rfl, hr2⟩ := ORows.read ho2
    have hp2 := hr2.cap; have hl2 := hr2.le
    have R2 := hid hr2
    have s2 := hc2.size
    clear ho2 hr2
    (go_wp2_with fail; (with_reducible refine (KS.out _ hc2).mono ?_); rintro e w3 ⟨v3, rfl, ho3, hc3⟩)
    obtain ⟨A3, c3, rfl, hr3⟩ := ORows.read ho3
    have hp3 := hr3.cap; have hl3 := hr3.le
    have R3 := hid hr3
    have s3 := hc3.size
    clear ho3 hr3
    have q3 : Chg No w1 w3 := hc2.no hc3
    (go_wp2_with fail; (with_reducible refine (equalLists _ _ _ _ _ _ _ _ _ L _ (R2.out.no hc3) R3.out).mono ?_); rintro e w4 ⟨rfl, hc4⟩)
    have q4 : Chg No w1 w4 := q3.no hc4
    have r4 : Chg No w2 w4 := hc3.no hc4
    have s4 := hc4.size
    clear R3
    go_wp2
    go_loopw [7] (fun i wr => ∃ j : Nat, j ≤ L.length ∧ i = .int .i64 j ∧ Chg No w4 wr) (fun i _ => L.length - (intOf i).toNat)
    case atStart => exact ⟨0, Nat.zero_le _, rfl, Chg.refl _ _⟩
    case round =>
      obtain ⟨j, hj, rfl, hc⟩ := hrel
      obtain ⟨wo, rfl⟩ : ∃ W : World, W = wr := ⟨_, rfl⟩
      by_cases hlt : j < L.length
      · have hLpos : 0 < L.length := by omega
        have hlk : linkB xs kind many = true := by
          cases h : linkB xs kind many with
          | true => rfl
          | false => have h9 := HL.out; rw [LinksF_no h] at h9; rw [← h9] at hLpos; simp at hLpos
        have hok := linkB_ok hlk
        have hLL : linksL xs kind many = L := by rw [← LinksF_ok hlk]; exact HL.out
        have hLlen : L.length = xs.length := by rw [← hLL, linksL_len]
        have hx16 : xs.length ≤ 16 := storeB_len hok.store
        have hjx : j < xs.length := by omega
        obtain ⟨b, o, r, Ar, nr, cr, rfl, _, _, hr, f1', hv1⟩ := (R2.out.no (r4.no hc)).at_ hlt
        obtain ⟨b2, o2, z, rfl, _, _, hzk, hE⟩ := (HX.out.no (q4.no hc)).at_ hjx
        obtain ⟨zk, zv, zt⟩ := z
        have hrr : r = linkAt xs kind many j := by
          have h9 := linksL_at (kind := kind) (many := many) hjx
          rw [hLL, hr] at h9
          injection h9
        obtain rfl : nr = r.length := hv1.len.symm
        have hrl : r.length = min many.toNat (xs.length - 1) := by rw [hrr, linkAt_len hjx]
        have e2 : ((r.length : Int) != min many ((xs.length : Int) - 1)) = false := by simp only [bne_eq_false_iff_eq]; omega
        have hnin : decide (zk ∈ r) = false := decide_eq_false (by rw [hrr]; exact link_self hok.store hzk)
        have hr16 : r.length ≤ 16 := by omega
        have KN := hid (fun W (h : Chg No wo W) => isInL _ _ Ar r.length cr r zk W (hv1.no h))
        rw [hnin] at KN
        have f1 : ∀ p : NB wo, p.wd.cell? ⟨b, o + j, none⟩ = some (.slice Ar r.length cr) := nb_cell f1'
        have f2 : ∀ p : NB wo, p.wd.cell? ⟨b2, o2 + j * 3, none⟩ = some (.int .i64 zk) := nb_cell hE.1
        have d1 : decide (xs.length ≤ j) = false := decide_eq_false (by omega)
        have d2 : decide ((xs.length : Int) ≤ (j : Int)) = false := decide_eq_false (by omega)
        have hlr := hv1.le; have hpr := hv1.cap
        clear hr f1' hv1 hzk hE hrr hnin hrl hlk hok hLL hLlen
        go_wp2_with fail
        (refine wp_region_nb (by kernel_rfl) (by kernel_rfl) ?_; (repeat (first | go_big_quiet_step ((go_at_call 15; exact nb_same ((KN.out _ (NB.h _)).mono fun e w' h => ⟨h.1, h.2⟩))) | quiet_step ((go_at_call 15; exact nb_same ((KN.out _ (NB.h _)).mono fun e w' h => ⟨h.1, h.2⟩))))); (with_reducible refine wpQuiet_nil ?_); intro wq hw1; have hq := nb_out hw1; clear hw1)
        go_wp2
        go_roundw
        case rel => exact ⟨j + 1, by omega, by go_num, hc.no hq⟩
        case measure => simp [intOf]; omega
      · go_wp2
        go_ret
        exact ⟨rfl, hc1.no (q4.no hc)⟩

set_option maxRecDepth 100000 in
theorem lifted (os : Os) (started : os.Started) (H : Type) (enc : TypeId × Value → H) :
    ReturnsInHanded {} Try.checked os 8 .any (Rows.fnLinksOfCountSpec.pre6 enc Try.prog Try.f8 Rows.fnLinksOfCountRow.domain false) (Rows.fnLinksOfCountSpec.post enc Try.prog Try.f8 false true false false) := by
  refine returnsInHanded_of_change (C := Try.checked) own started (by kernel_rfl) Try.func8
    (ChangeSpec.witness6 (enc := enc) (C := Try.checked) false ⟨#[], #[.slice none 0 0], []⟩ 8 (by kernel_rfl) (by kernel_rfl) (by kernel_rfl) (by kernel_rfl)) ?_
  intro W base args ds gs before hval0 hW hcnd _
  have hval : ∀ (j : Nat) t v, Try.f8.params[j]? = some t → args[j]? = some v → Value.okWide Try.prog W .any base t v := hval0
  have hW' := hW
  obtain ⟨p, q, hA0, hV, rfl, hfz, hnd⟩ := hW
  have hA : DataW.TrodAll enc Try.prog W 0 (fun _ => true) true Try.f8.params.toList args.toList ds p := hA0
  rw [Try.params8] at hA hval
  obtain ⟨v0, vs0, d0, ds0, p0, q0, hargs, rfl, rfl, h0, r0⟩ := trodAll_cons hA
  obtain ⟨rfl, rfl, rfl⟩ := trodAll_nil r0
  obtain rfl : args = #[v0] := by cases args; simp_all
  obtain ⟨rfl, rfl⟩ := trodVars_none hV
  obtain ⟨a0, len0, cap0, rfl⟩ := okWide_slice Try.underlying22 (hval 0 22 v0 rfl rfl)
  have k0 := h0
  have lt0 : ∀ x ∈ p0, x.block < W.heap.size := by obtain ⟨m, hm⟩ := k0; exact DataW.trod_lt m _ _ _ hm
  have w0 : Code W W.heap.size a0 len0 cap0 := by
    obtain ⟨fuel, hf⟩ := h0
    rcases open_ints Try.underlying22 Try.underlying5 (by kernel_rfl) hf with ⟨hcs, _⟩ | ⟨x, l, c, zs, hcs, _, hl, hm, hz, _, hcell, hwz⟩
    · simp [Value.cells] at hcs
      obtain ⟨rfl, rfl, rfl⟩ := hcs
      exact code_nil _
    · simp [Value.cells] at hcs
      obtain ⟨rfl, rfl, rfl⟩ := hcs
      exact code_row hl hm (by simpa using hz) hcell hwz
  clear hA0 hval0
  refine (walk a0 len0 cap0 W w0).mono fun e W' ⟨he, bel0⟩ => ?_
  have bel := bel0.below
  subst he
  exact ⟨_, rfl, _, _, _, [], _, [], hW', trodAll_mk1 (shut_bool Try.underlying4 _), (trodAll_cons_mk (Below.trod laidOut (by kernel_rfl) (of_decide_eq_true (by kernel_rfl)) k0 bel lt0) trodAll_mk0), rfl, bel.frame _, fun h => by cases h⟩

theorem over : Rows.fnLinksOfCountRow.holds Try.pinned (OpenSpec.ofChange Rows.fnLinksOfCountSpec) :=
  OpenClaim.holds_of_wide 8 Try.f8 rfl rfl rfl rfl rfl rfl rfl ⟨rfl, rfl, rfl, rfl, rfl⟩ rfl rfl rfl rfl rfl (by kernel_rfl) Try.func8 (by kernel_rfl)
    (of_decide_eq_true (by kernel_rfl)) (by unfold Func.isWrapper; first | (rw [if_pos (by decide +kernel)]; kernel_rfl) | (rw [if_neg (by decide +kernel)]; exact ⟨rfl, rfl⟩))
    (fun os started H enc _ => lifted os started H enc)

theorem proved : Rows.FnLinksOfCountSaid := over
#print axioms proved

end lawLinksOfCount
end Go.Proofs.Ytodiackopgcnaaa
