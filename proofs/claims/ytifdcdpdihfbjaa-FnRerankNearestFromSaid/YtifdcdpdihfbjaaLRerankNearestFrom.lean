/- FnRerankNearestFrom: only near codes are ranked again. No condition. -/
import Derived.Test.YtifdcdpdihfbjaaLift
import Derived.Test.YtifdcdpdihfbjaaDrawC
import Derived.Test.YtifdcdpdihfbjaaCodeR
import Derived.Test.YtifdcdpdihfbjaaEqH
import Derived.Test.YtifdcdpdihfbjaaHitsJ
import Derived.Test.YtifdcdpdihfbjaaKeys
import Derived.Test.YtifdcdpdihfbjaaEqI
import Derived.Deep.RegionHeld3
import Derived.Deep.RegionWith
import Derived.Deep.DeepCutAuto
namespace Go.Proofs.Ytifdcdpdihfbjaa
open Go.ChangeShapes Go.WideShapes Go.ChangeAt Go.RowKit Go.Shelf
set_option linter.unusedVariables false
set_option linter.unusedSimpArgs false
namespace lawRerankNearestFrom
set_option maxRecDepth 100000 in
set_option maxHeartbeats 8000000 in
theorem walk (A : Option Addr) (n c : Nat) (w : World) (hC : Code w w.heap.size A n c) : Calls Try.prog 4 #[.slice A n c] w fun e w' => e = .returned (.bool true) ∧ Chg No w w' := by
  have hn1 := hC.1
  have hn2 := hC.2.1
  by_cases hbig : 1048576 < n
  · skip
    go_enter Try.func4, Try.ntmps4
    go_wp2
    go_ret
    exact ⟨rfl, Chg.refl _ _⟩
  · skip
    have hbig' : n ≤ 1048576 := by omega
    go_enter Try.func4, Try.ntmps4
    (go_wp2_with fail; (with_reducible refine (drawRerankNearest A n c _ hC).mono ?_); rintro e w0 ⟨AL, nL, cL, L, AR, nR, cR, R, v0, xs, AV, nv, cv, at_, many, k, rfl, hrl, hrr, hi1, hm1, hrv, hn1', hm9, hk9, hc0⟩)
    obtain ⟨A0, c0, rfl, hr0⟩ := OItems.read hi1
    have hx1 := hrl.cap; have hk1 := hrl.le; have hx4 := hrr.cap; have hk4 := hrr.le; have hx2 := hr0.cap; have hk2 := hr0.le; have hx3 := hrv.cap; have hk3 := hrv.le
    have hkd1 := hk9.1; have hkd2 := hk9.2
    have hmd1 := hm9.1; have hmd2 := hm9.2
    have s0 := hc0.size
    obtain ⟨w1, hw1⟩ : ∃ W, w0.alloc (.cells #[.slice AL nL cL, .slice AR nR cR] 25) = W := ⟨_, rfl⟩
    have hcf : Chg No w0 w1 := by rw [← hw1]; exact (Chg.refl No w0).alloc _
    have hc1 : Chg No w w1 := hc0.no hcf
    have HRL := hid (hrl.no hcf); have HRR := hid (hrr.no hcf); have HX := hid (hr0.no hcf); have HY := hid (hrv.no hcf)
    have s1 := hc1.size
    have HB := hid (show Box w1 w0.heap.size [.slice AL nL cL, .slice AR nR cR] from by rw [← hw1]; exact Box.new _ _ rfl)
    have b1 := HB.out.f2
    have m1 := HB.out.lt
    clear hrl hrr hi1 hr0 hrv hk9 hcf
    obtain ⟨H, hH⟩ : ∃ H, RerankF L R xs at_ many k = H := ⟨_, rfl⟩
    have KI := hid (fun W (h : Chg No w1 W) => iRerankNearest _ _ _ _ _ L _ _ _ _ _ R _ _ _ _ _ xs _ _ _ _ _ at_ many k W (HRL.out.no h) (HRR.out.no h) (HX.out.no h) (HY.out.no h))
    have KS := hid (fun W (h : Chg No w1 W) => sRerankNearest _ _ _ _ _ L _ _ _ _ _ R _ _ _ _ _ xs _ _ _ _ _ at_ many k W (HRL.out.no h) (HRR.out.no h) (HX.out.no h) (HY.out.no h))
    rw [hH] at KS KI
    have HH := hid hH
    clear hH
    go_wp2_with fail
    ((with_reducible refine (KI.out _ (Chg.refl _ _)).mono ?_); rintro e w2 ⟨v2, rfl, ho2, hc2⟩)
    obtain ⟨A2, c2, rfl, hr2⟩ := OHits.read ho2
    have hp2 := hr2.cap; have hl2 := hr2.le
    have R2 := hid hr2
    have s2 := hc2.size
    clear ho2 hr2
    have b2 := (HB.out.no hc2).f2
    have m2 := (HB.out.no hc2).lt
    clear hw1
    (go_wp2_with fail; (with_reducible refine (KS.out _ hc2).mono ?_); rintro e w3 ⟨v3, rfl, ho3, hc3⟩)
    obtain ⟨A3, c3, rfl, hr3⟩ := OHits.read ho3
    have hp3 := hr3.cap; have hl3 := hr3.le
    have R3 := hid hr3
    have s3 := hc3.size
    clear ho3 hr3
    have q3 : Chg No w1 w3 := hc2.no hc3
    have b3 := (HB.out.no q3).f2
    (go_wp2_with fail; (with_reducible refine (equalHits _ _ _ _ _ _ _ _ _ H _ (R2.out.no hc3) R3.out).mono ?_); rintro e w4 ⟨rfl, hc4⟩)
    have q4 : Chg No w1 w4 := q3.no hc4
    have r4 : Chg No w2 w4 := hc3.no hc4
    have s4 := hc4.size
    have b4 := (HB.out.no q4).f2
    have m4 := (HB.out.no q4).lt
    clear R3
    by_cases hL0 : H.length = 0
    · have e0 : ((H.length : Int) == 0) = true := by simp; exact List.eq_nil_of_length_eq_zero hL0
      clear hL0
      (go_wp2_with fail; (with_reducible refine (KS.out _ q4).mono ?_); rintro e w8 ⟨v8, rfl, ho8, hc8⟩)
      obtain ⟨A8, c8, rfl, hr8⟩ := OHits.read ho8
      have hp8 := hr8.cap; have hl8 := hr8.le
      have R8 := hid hr8
      have s8 := hc8.size
      clear ho8 hr8
      (go_wp2_with fail; (with_reducible refine (equalHits _ _ _ _ _ _ _ _ _ H _ (R2.out.no (r4.no hc8)) R8.out).mono ?_); rintro e w9 ⟨rfl, hc9⟩)
      go_wp2
      go_ret
      exact ⟨rfl, hc1.no ((q4.no hc8).no hc9)⟩
    · have e0 : ((H.length : Int) == 0) = false := by simp; intro h; subst h; simp at hL0
      have hLpos : 0 < H.length := by omega
      have hok := rrOk_ok (rr_ne (L := L) (R := R) (l := xs) (at_ := at_) (many := many) (k := k) (by rw [HH.out]; exact hLpos))
      have hok2 : HitsOk H := by rw [← HH.out]; exact rr_hits hok
      clear hL0
      have HIN := hid (fun (y : Int × Int) (hy : y ∈ H) => rr_in hok (y := y) (by rw [HH.out]; exact hy))
      have hH16 : H.length ≤ 16 := by rw [← HH.out]; exact rr_len hok
      have KN := hid (fun W (h : Chg No w1 W) => iCodeNearest _ _ _ _ _ L _ _ _ _ _ R _ _ _ _ _ xs _ _ _ _ _ at_ many W (HRL.out.no h) (HRR.out.no h) (HX.out.no h) (HY.out.no h))
      have hN16 : (CnearF L R xs at_ many).length ≤ 16 := by rw [CnearF_ok hok.cn.ok, cnear_len]; have := hok.m16; omega
      have KV := hid (fun W (h : Chg No w2 W) => iVALIDHits _ _ _ _ _ H W (R2.out.no h))
      rw [hok2.b] at KV
      clear hok hok2 KI KS HH
      generalize CnearF L R xs at_ many = T at *
      (go_wp2_with fail; (with_reducible refine (KN.out _ q4).mono ?_); rintro e w5 ⟨v5, rfl, ho5, hc5⟩)
      obtain ⟨A5, c5, rfl, hr5⟩ := OHits.read ho5
      have hp5 := hr5.cap; have hl5 := hr5.le
      have R5 := hid hr5
      have s5 := hc5.size
      clear ho5 hr5
      have q5 := q4.no hc5
      have r5 := r4.no hc5
      (go_wp2_with fail; (with_reducible refine (keysL _ _ _ _ _ T _ R5.out (by omega)).mono ?_); rintro e w6 ⟨v6, rfl, ho6, hc6⟩)
      obtain ⟨A6, c6, rfl, hr6⟩ := OInts.read ho6
      have hp6 := hr6.cap; have hl6 := hr6.le
      have R6 := hid hr6
      have s6 := hc6.size
      have q6 := q5.no hc6
      have r6 := r5.no hc6
      have hTl : (T.map Prod.fst).length ≤ 16 := by rw [List.length_map]; exact hN16
      generalize T.map Prod.fst = U at *
      clear ho6 hr6 KN
      go_wp2
      go_loopw [10] (fun i wr => ∃ j : Nat, j ≤ H.length ∧ i = .int .i64 j ∧ Chg No w6 wr) (fun i _ => H.length - (intOf i).toNat)
      case atStart => exact ⟨0, Nat.zero_le _, rfl, Chg.refl _ _⟩
      case round =>
        obtain ⟨j, hj, rfl, hc⟩ := hrel
        obtain ⟨wo, rfl⟩ : ∃ W : World, W = wr := ⟨_, rfl⟩
        by_cases hlt : j < H.length
        · obtain ⟨b2, o2, y, rfl, _, _, hyk, hE⟩ := (R2.out.no (r6.no hc)).at_ hlt
          have hyT := HIN.out y (List.mem_of_getElem? hyk)
          obtain ⟨y1, y2⟩ := y
          have f4 : wo.cell? ⟨b2, o2 + j * 2, none⟩ = some (.int .i64 y1) := hE.1
          have KT := hid (isInL _ _ A6 U.length c6 U y1 wo (R6.out.no hc))
          rw [decide_eq_true hyT] at KT
          clear hE hyk hyT
          (go_wp2_with fail; (with_reducible refine (KT.out).mono ?_); rintro e w7 ⟨rfl, rfl⟩)
          go_wp2
          go_roundw
          case rel => exact ⟨j + 1, by omega, by go_num, hc⟩
          case measure => simp [intOf]; omega
        · (go_wp2_with fail; (with_reducible refine (KV.out _ (r6.no hc)).mono ?_); rintro e w7 ⟨rfl, hc7⟩)
          go_wp2
          go_ret
          exact ⟨rfl, hc1.no ((q6.no hc).no hc7)⟩

set_option maxRecDepth 100000 in
theorem lifted (os : Os) (started : os.Started) (H : Type) (enc : TypeId × Value → H) :
    ReturnsInHanded {} Try.checked os 4 .any (Rows.fnRerankNearestFromSpec.pre6 enc Try.prog Try.f4 Rows.fnRerankNearestFromRow.domain false) (Rows.fnRerankNearestFromSpec.post enc Try.prog Try.f4 false true false false) := by
  refine returnsInHanded_of_change (C := Try.checked) own started (by kernel_rfl) Try.func4
    (ChangeSpec.witness6 (enc := enc) (C := Try.checked) false ⟨#[], #[.slice none 0 0], []⟩ 8 (by kernel_rfl) (by kernel_rfl) (by kernel_rfl) (by kernel_rfl)) ?_
  intro W base args ds gs before hval0 hW hcnd _
  have hval : ∀ (j : Nat) t v, Try.f4.params[j]? = some t → args[j]? = some v → Value.okWide Try.prog W .any base t v := hval0
  have hW' := hW
  obtain ⟨p, q, hA0, hV, rfl, hfz, hnd⟩ := hW
  have hA : DataW.TrodAll enc Try.prog W 0 (fun _ => true) true Try.f4.params.toList args.toList ds p := hA0
  rw [Try.params4] at hA hval
  obtain ⟨v0, vs0, d0, ds0, p0, q0, hargs, rfl, rfl, h0, r0⟩ := trodAll_cons hA
  obtain ⟨rfl, rfl, rfl⟩ := trodAll_nil r0
  obtain rfl : args = #[v0] := by cases args; simp_all
  obtain ⟨rfl, rfl⟩ := trodVars_none hV
  obtain ⟨a0, len0, cap0, rfl⟩ := okWide_slice Try.underlying22 (hval 0 22 v0 rfl rfl)
  have k0 := h0
  have lt0 : ∀ x ∈ p0, x.block < W.heap.size := by obtain ⟨m, hm⟩ := k0; exact DataW.trod_lt m _ _ _ hm
  have w0 : Code W W.heap.size a0 len0 cap0 := by
    obtain ⟨fuel, hf⟩ := h0
    rcases open_ints Try.underlying22 Try.underlying5 (by kernel_rfl) hf with ⟨hcs, _⟩ | ⟨x, l, c, zs, hcs, _, hl, hm, hz, _, hcell, hwz⟩
    · simp [Value.cells] at hcs
      obtain ⟨rfl, rfl, rfl⟩ := hcs
      exact code_nil _
    · simp [Value.cells] at hcs
      obtain ⟨rfl, rfl, rfl⟩ := hcs
      exact code_row hl hm (by simpa using hz) hcell hwz
  clear hA0 hval0
  refine (walk a0 len0 cap0 W w0).mono fun e W' ⟨he, bel0⟩ => ?_
  have bel := bel0.below
  subst he
  exact ⟨_, rfl, _, _, _, [], _, [], hW', trodAll_mk1 (shut_bool Try.underlying4 _), (trodAll_cons_mk (Below.trod laidOut (by kernel_rfl) (of_decide_eq_true (by kernel_rfl)) k0 bel lt0) trodAll_mk0), rfl, bel.frame _, fun h => by cases h⟩

theorem over : Rows.fnRerankNearestFromRow.holds Try.pinned (OpenSpec.ofChange Rows.fnRerankNearestFromSpec) :=
  OpenClaim.holds_of_wide 4 Try.f4 rfl rfl rfl rfl rfl rfl rfl ⟨rfl, rfl, rfl, rfl, rfl⟩ rfl rfl rfl rfl rfl (by kernel_rfl) Try.func4 (by kernel_rfl)
    (of_decide_eq_true (by kernel_rfl)) (by unfold Func.isWrapper; first | (rw [if_pos (by decide +kernel)]; kernel_rfl) | (rw [if_neg (by decide +kernel)]; exact ⟨rfl, rfl⟩))
    (fun os started H enc _ => lifted os started H enc)

theorem proved : Rows.FnRerankNearestFromSaid := over
#print axioms proved

end lawRerankNearestFrom
end Go.Proofs.Ytifdcdpdihfbjaa
