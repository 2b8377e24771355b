/- FnCodeNearest: coded items have coded distances. No condition. -/
import Derived.Test.YtifdcdpdihfbjaaLift
import Derived.Test.YtifdcdpdihfbjaaDrawC
import Derived.Test.YtifdcdpdihfbjaaCode
import Derived.Test.YtifdcdpdihfbjaaEqH
import Derived.Test.YtifdcdpdihfbjaaHitsJ
import Derived.Test.YtifdcdpdihfbjaaItemOf
import Derived.Test.YtifdcdpdihfbjaaEqI
import Derived.Deep.RegionHeld3
import Derived.Deep.RegionWith
import Derived.Deep.DeepCutAuto
namespace Go.Proofs.Ytifdcdpdihfbjaa
open Go.ChangeShapes Go.WideShapes Go.ChangeAt Go.RowKit Go.Shelf
set_option linter.unusedVariables false
set_option linter.unusedSimpArgs false
namespace lawCodeNearest
set_option maxRecDepth 100000 in
set_option maxHeartbeats 8000000 in
theorem walk (A : Option Addr) (n c : Nat) (w : World) (hC : Code w w.heap.size A n c) : Calls Try.prog 3 #[.slice A n c] w fun e w' => e = .returned (.bool true) ∧ Chg No w w' := by
  have hn1 := hC.1
  have hn2 := hC.2.1
  by_cases hbig : 1048576 < n
  · skip
    go_enter Try.func3, Try.ntmps3
    go_wp2
    go_ret
    exact ⟨rfl, Chg.refl _ _⟩
  · skip
    have hbig' : n ≤ 1048576 := by omega
    go_enter Try.func3, Try.ntmps3
    (go_wp2_with fail; (with_reducible refine (drawCodeNearest A n c _ hC).mono ?_); rintro e w0 ⟨AL, nL, cL, L, AR, nR, cR, R, v0, xs, AV, nv, cv, at_, k, rfl, hrl, hrr, hi1, hm1, hrv, hn1', hk9, hc0⟩)
    obtain ⟨A0, c0, rfl, hr0⟩ := OItems.read hi1
    have hx1 := hrl.cap; have hk1 := hrl.le; have hx4 := hrr.cap; have hk4 := hrr.le; have hx2 := hr0.cap; have hk2 := hr0.le; have hx3 := hrv.cap; have hk3 := hrv.le
    have hkd1 := hk9.1; have hkd2 := hk9.2
    have s0 := hc0.size
    obtain ⟨w1, hw1⟩ : ∃ W, w0.alloc (.cells #[.slice AL nL cL, .slice AR nR cR] 25) = W := ⟨_, rfl⟩
    have hcf : Chg No w0 w1 := by rw [← hw1]; exact (Chg.refl No w0).alloc _
    have hc1 : Chg No w w1 := hc0.no hcf
    have HRL := hid (hrl.no hcf); have HRR := hid (hrr.no hcf); have HX := hid (hr0.no hcf); have HY := hid (hrv.no hcf)
    have s1 := hc1.size
    have HB := hid (show Box w1 w0.heap.size [.slice AL nL cL, .slice AR nR cR] from by rw [← hw1]; exact Box.new _ _ rfl)
    have b1 := HB.out.f2
    have m1 := HB.out.lt
    clear hrl hrr hi1 hr0 hrv hk9 hcf
    obtain ⟨H, hH⟩ : ∃ H, CnearF L R xs at_ k = H := ⟨_, rfl⟩
    have KI := hid (fun W (h : Chg No w1 W) => iCodeNearest _ _ _ _ _ L _ _ _ _ _ R _ _ _ _ _ xs _ _ _ _ _ at_ k W (HRL.out.no h) (HRR.out.no h) (HX.out.no h) (HY.out.no h))
    have KS := hid (fun W (h : Chg No w1 W) => sCodeNearest _ _ _ _ _ L _ _ _ _ _ R _ _ _ _ _ xs _ _ _ _ _ at_ k W (HRL.out.no h) (HRR.out.no h) (HX.out.no h) (HY.out.no h))
    rw [hH] at KS KI
    have HH := hid hH
    clear hH
    go_wp2_with fail
    ((with_reducible refine (KI.out _ (Chg.refl _ _)).mono ?_); rintro e w2 ⟨v2, rfl, ho2, hc2⟩)
    obtain ⟨A2, c2, rfl, hr2⟩ := OHits.read ho2
    have hp2 := hr2.cap; have hl2 := hr2.le
    have R2 := hid hr2
    have s2 := hc2.size
    clear ho2 hr2
    have b2 := (HB.out.no hc2).f2
    have m2 := (HB.out.no hc2).lt
    clear hw1
    (go_wp2_with fail; (with_reducible refine (KS.out _ hc2).mono ?_); rintro e w3 ⟨v3, rfl, ho3, hc3⟩)
    obtain ⟨A3, c3, rfl, hr3⟩ := OHits.read ho3
    have hp3 := hr3.cap; have hl3 := hr3.le
    have R3 := hid hr3
    have s3 := hc3.size
    clear ho3 hr3
    have q3 : Chg No w1 w3 := hc2.no hc3
    have b3 := (HB.out.no q3).f2
    (go_wp2_with fail; (with_reducible refine (equalHits _ _ _ _ _ _ _ _ _ H _ (R2.out.no hc3) R3.out).mono ?_); rintro e w4 ⟨rfl, hc4⟩)
    have q4 : Chg No w1 w4 := q3.no hc4
    have r4 : Chg No w2 w4 := hc3.no hc4
    have s4 := hc4.size
    have b4 := (HB.out.no q4).f2
    have m4 := (HB.out.no q4).lt
    clear R3
    by_cases hL0 : H.length = 0
    · have e0 : ((H.length : Int) == 0) = true := by simp; exact List.eq_nil_of_length_eq_zero hL0
      clear hL0
      (go_wp2_with fail; (with_reducible refine (KS.out _ q4).mono ?_); rintro e w8 ⟨v8, rfl, ho8, hc8⟩)
      obtain ⟨A8, c8, rfl, hr8⟩ := OHits.read ho8
      have hp8 := hr8.cap; have hl8 := hr8.le
      have R8 := hid hr8
      have s8 := hc8.size
      clear ho8 hr8
      (go_wp2_with fail; (with_reducible refine (equalHits _ _ _ _ _ _ _ _ _ H _ (R2.out.no (r4.no hc8)) R8.out).mono ?_); rintro e w9 ⟨rfl, hc9⟩)
      go_wp2
      go_ret
      exact ⟨rfl, hc1.no ((q4.no hc8).no hc9)⟩
    · have e0 : ((H.length : Int) == 0) = false := by simp; intro h; subst h; simp at hL0
      have hLpos : 0 < H.length := by omega
      have hok := cnOk_ok (cn_ne (L := L) (R := R) (l := xs) (at_ := at_) (k := k) (by rw [HH.out]; exact hLpos))
      have hok2 : HitsOk H := by rw [← HH.out]; exact cnear_hits hok
      clear hL0
      have HIN := hid (fun (y : Int × Int) (hy : y ∈ H) => cnear_at hok (y := y) (by rw [HH.out]; exact hy))
      have hvb := hok.can.vec
      have hbk := hok.book
      have hbb := hok.bk
      have HHL := hid (show H.length = min k.toNat xs.length from by rw [← HH.out, CnearF_ok hok.ok, cnear_len])
      have hk1' := hok.k1; have hk16 := hok.k16
      have hx16 := storeB_len hok.can.store
      have KD := hid (fun W (h : Chg No w1 W) => iCodeDistances _ _ _ _ _ L _ _ _ _ _ R _ _ _ _ _ at_ W (HRL.out.no h) (HRR.out.no h) (HY.out.no h) hbb hvb)
      have KE := hid (fun (l9 h9 : Nat) (A9 : Option Addr) (n9 c9 : Nat) (zv : List Int) W (h : Chg No w1 W) (hv : RInts W l9 h9 A9 n9 c9 zv) (hvv : vecB zv = true) => iEncodeVector _ _ _ _ _ L _ _ _ _ _ R _ _ _ _ _ zv W (HRL.out.no h) (HRR.out.no h) hv hbb hvv)
      have KV := hid (fun W (h : Chg No w2 W) => iVALIDHits _ _ _ _ _ H W (R2.out.no h))
      rw [hok2.b] at KV
      have HDA := hid (fun (c : Nat) (h : c < 16) => cdist_at L R at_ (k := 16) h)
      have HDL := hid (cdist_len L R at_ 16)
      have HEN := hid (fun (v : List Int) => encF_lt hbk v)
      obtain ⟨D, hD⟩ : ∃ D, cdistL L R at_ 16 = D := ⟨_, rfl⟩
      rw [hD] at KD HDA HDL
      clear hok hok2 KI KS HH hD
      (go_wp2_with fail; (with_reducible refine (KD.out _ q4).mono ?_); rintro e w5 ⟨v5, rfl, ho5, hc5⟩)
      obtain ⟨A5, c5, rfl, hr5⟩ := OInts.read ho5
      rw [HDL.out] at hr5 ⊢
      have hp5 := hr5.cap; have hl5 := hr5.le
      have R5 := hid hr5
      have s5 := hc5.size
      have q5 := q4.no hc5
      have r5 := r4.no hc5
      have b5 := (HB.out.no q5).f2
      have m5 := (HB.out.no q5).lt
      clear ho5 hr5 KD
      go_wp2
      go_loopw [9, 10] (fun i s10 wr => ∃ j : Nat, j ≤ H.length ∧ i = .int .i64 j ∧ Chg No w5 wr) (fun i _ _ => H.length - (intOf i).toNat)
      case atStart => exact ⟨0, Nat.zero_le _, rfl, Chg.refl _ _⟩
      case round =>
        obtain ⟨j, hj, rfl, hc⟩ := hrel
        obtain ⟨wo, rfl⟩ : ∃ W : World, W = wr := ⟨_, rfl⟩
        have qo := q5.no hc
        by_cases hlt : j < H.length
        · obtain ⟨b2, o2, y, rfl, _, _, hyk, hE⟩ := (R2.out.no (r5.no hc)).at_ hlt
          obtain ⟨q, z, hzq, hy1, hy2, hzv, hno⟩ := HIN.out y (List.mem_of_getElem? hyk)
          obtain ⟨y1, y2⟩ := y
          obtain rfl : y1 = z.key := hy1
          have hq1 := (List.getElem?_eq_some_iff.1 hzq).1
          obtain ⟨b, o, z', hA', _, _, hzk', hE'⟩ := (HX.out.no qo).at_ hq1
          subst hA'
          rw [hzq] at hzk'
          injection hzk' with hzk'
          subst hzk'
          obtain ⟨hE1, ⟨A9, n9, c9, hE2, hv⟩, hE3⟩ := hE'
          have HC9 := hid hE2
          have HV := hid hv
          have KIO := hid (fun W (h : Chg No wo W) => itemOf _ _ b o _ _ xs q z A9 n9 c9 W (HX.out.no (qo.no h)) hzq hno (cell_keep h HC9.out (fun e => e)))
          have KE2 := hid (fun W (h : Chg No wo W) => KE.out _ _ A9 n9 c9 z.vec W (qo.no h) (HV.out.no h) hzv)
          have hcl := HEN.out z.vec
          have hda := HDA.out _ hcl
          have hyd : y2 = distF 3 (decF L R (encF L R z.vec)) at_ := hy2
          rw [← hyd] at hda
          obtain ⟨cd, hcd⟩ : ∃ cd, encF L R z.vec = cd := ⟨_, rfl⟩
          rw [hcd] at KE2 hcl hda
          obtain ⟨b5, o5, u5, hA5, _, _, hu5, hE5⟩ := (R5.out.no hc).at_ hcl
          subst hA5
          rw [hda] at hu5
          injection hu5 with hu5
          subst hu5
          have f3' : wo.cell? ⟨b5, o5 + cd, none⟩ = some (.int .i64 y2) := by simpa [EInt] using hE5
          have f3 : ∀ p : NB wo, p.wd.cell? ⟨b5, o5 + cd, none⟩ = some (.int .i64 y2) := nb_cell f3'
          have f1 : ∀ p : NB wo, p.wd.cell? ⟨w0.heap.size, 0, none⟩ = some (.slice AL nL cL) := nb_cell ((HB.out.no qo).cell 0)
          have f2 : ∀ p : NB wo, p.wd.cell? ⟨w0.heap.size, 1, none⟩ = some (.slice AR nR cR) := nb_cell ((HB.out.no qo).cell 1)
          have f4 : ∀ p : NB wo, p.wd.cell? ⟨b2, o2 + j * 2, none⟩ = some (.int .i64 z.key) := nb_cell hE.1
          have f5 : ∀ p : NB wo, p.wd.cell? ⟨b2, o2 + j * 2 + 1, none⟩ = some (.int .i64 y2) := nb_cell hE.2
          have hE5' := hE.2
          have e2 : (y2 != y2) = false := by simp
          have hfld : ∀ (a b c : Value) (W : World), Sem.run Try.prog (Instr.field 36 (.agg #[a, b, c]) 1) W = .ok b W := fun a b c W => by first | rfl | kernel_rfl
          have d1 : decide ((cd : Int) < 0) = false := decide_eq_false (by omega)
          have d2 : decide ((16 : Int) ≤ (cd : Int)) = false := decide_eq_false (by omega)
          clear hE1 hE2 hE3 hv hno hzq hyk hy2 hyd hzv hda hcd hE5
          go_wp2_with fail
          (refine wp_region_nb (by kernel_rfl) (by kernel_rfl) ?_; (repeat (first | go_big_quiet_step ((first | (go_at_call 14; (with_reducible exact nb_of (KIO.out _ (NB.h _)))) | (go_at_call 13; (with_reducible exact nb_of (KE2.out _ (NB.h _)))))) | quiet_step ((first | (go_at_call 14; (with_reducible exact nb_of (KIO.out _ (NB.h _)))) | (go_at_call 13; (with_reducible exact nb_of (KE2.out _ (NB.h _)))))))); (with_reducible refine wpQuiet_nil ?_); intro wq hw1; have hq := nb_out hw1; clear hw1)
          have hqA := hq
          obtain ⟨wA, rfl⟩ : ∃ W : World, W = wq := ⟨_, rfl⟩
          have f6 : ∀ p : NB wA, p.wd.cell? ⟨b5, o5 + cd, none⟩ = some (.int .i64 y2) := nb_cell (cell_keep hqA f3' (fun e => e))
          have f7 : ∀ p : NB wA, p.wd.cell? ⟨b2, o2 + j * 2 + 1, none⟩ = some (.int .i64 y2) := nb_cell (cell_keep hqA hE5' (fun e => e))
          clear hq f1 f2 f3 f4 f5
          go_wp2_with fail
          (refine wp_region_nb (by kernel_rfl) (by kernel_rfl) ?_; (repeat (first | go_big_quiet_step (fail) | quiet_step (fail))); (with_reducible refine wpQuiet_nil ?_); intro wq hw1; have hq := nb_out hw1; clear hw1)
          go_wp2
          go_roundw
          case rel => exact ⟨j + 1, by omega, by go_num, (hc.no hqA).no hq⟩
          case measure => simp [intOf]; omega
        · (go_wp2_with fail; (with_reducible refine (KV.out _ (r5.no hc)).mono ?_); rintro e w6 ⟨rfl, hc6⟩)
          have e3 : ((H.length : Int) == min k (xs.length : Int)) = true := by have := HHL.out; simp; omega
          go_wp2
          go_ret
          exact ⟨rfl, hc1.no (qo.no hc6)⟩

set_option maxRecDepth 100000 in
theorem lifted (os : Os) (started : os.Started) (H : Type) (enc : TypeId × Value → H) :
    ReturnsInHanded {} Try.checked os 3 .any (Rows.fnCodeNearestSpec.pre6 enc Try.prog Try.f3 Rows.fnCodeNearestRow.domain false) (Rows.fnCodeNearestSpec.post enc Try.prog Try.f3 false true false false) := by
  refine returnsInHanded_of_change (C := Try.checked) own started (by kernel_rfl) Try.func3
    (ChangeSpec.witness6 (enc := enc) (C := Try.checked) false ⟨#[], #[.slice none 0 0], []⟩ 8 (by kernel_rfl) (by kernel_rfl) (by kernel_rfl) (by kernel_rfl)) ?_
  intro W base args ds gs before hval0 hW hcnd _
  have hval : ∀ (j : Nat) t v, Try.f3.params[j]? = some t → args[j]? = some v → Value.okWide Try.prog W .any base t v := hval0
  have hW' := hW
  obtain ⟨p, q, hA0, hV, rfl, hfz, hnd⟩ := hW
  have hA : DataW.TrodAll enc Try.prog W 0 (fun _ => true) true Try.f3.params.toList args.toList ds p := hA0
  rw [Try.params3] at hA hval
  obtain ⟨v0, vs0, d0, ds0, p0, q0, hargs, rfl, rfl, h0, r0⟩ := trodAll_cons hA
  obtain ⟨rfl, rfl, rfl⟩ := trodAll_nil r0
  obtain rfl : args = #[v0] := by cases args; simp_all
  obtain ⟨rfl, rfl⟩ := trodVars_none hV
  obtain ⟨a0, len0, cap0, rfl⟩ := okWide_slice Try.underlying22 (hval 0 22 v0 rfl rfl)
  have k0 := h0
  have lt0 : ∀ x ∈ p0, x.block < W.heap.size := by obtain ⟨m, hm⟩ := k0; exact DataW.trod_lt m _ _ _ hm
  have w0 : Code W W.heap.size a0 len0 cap0 := by
    obtain ⟨fuel, hf⟩ := h0
    rcases open_ints Try.underlying22 Try.underlying5 (by kernel_rfl) hf with ⟨hcs, _⟩ | ⟨x, l, c, zs, hcs, _, hl, hm, hz, _, hcell, hwz⟩
    · simp [Value.cells] at hcs
      obtain ⟨rfl, rfl, rfl⟩ := hcs
      exact code_nil _
    · simp [Value.cells] at hcs
      obtain ⟨rfl, rfl, rfl⟩ := hcs
      exact code_row hl hm (by simpa using hz) hcell hwz
  clear hA0 hval0
  refine (walk a0 len0 cap0 W w0).mono fun e W' ⟨he, bel0⟩ => ?_
  have bel := bel0.below
  subst he
  exact ⟨_, rfl, _, _, _, [], _, [], hW', trodAll_mk1 (shut_bool Try.underlying4 _), (trodAll_cons_mk (Below.trod laidOut (by kernel_rfl) (of_decide_eq_true (by kernel_rfl)) k0 bel lt0) trodAll_mk0), rfl, bel.frame _, fun h => by cases h⟩

theorem over : Rows.fnCodeNearestRow.holds Try.pinned (OpenSpec.ofChange Rows.fnCodeNearestSpec) :=
  OpenClaim.holds_of_wide 3 Try.f3 rfl rfl rfl rfl rfl rfl rfl ⟨rfl, rfl, rfl, rfl, rfl⟩ rfl rfl rfl rfl rfl (by kernel_rfl) Try.func3 (by kernel_rfl)
    (of_decide_eq_true (by kernel_rfl)) (by unfold Func.isWrapper; first | (rw [if_pos (by decide +kernel)]; kernel_rfl) | (rw [if_neg (by decide +kernel)]; exact ⟨rfl, rfl⟩))
    (fun os started H enc _ => lifted os started H enc)

theorem proved : Rows.FnCodeNearestSaid := over
#print axioms proved

end lawCodeNearest
end Go.Proofs.Ytifdcdpdihfbjaa
