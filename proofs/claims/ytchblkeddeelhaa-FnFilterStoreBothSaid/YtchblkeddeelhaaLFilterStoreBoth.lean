/- FnFilterStoreBoth: both filters at once filter as one after the other. No condition. -/
import Derived.Test.YtchblkeddeelhaaLift
import Derived.Test.YtchblkeddeelhaaDraw8
import Derived.Test.YtchblkeddeelhaaStoreG
import Derived.Test.YtchblkeddeelhaaEqI
import Derived.Test.YtchblkeddeelhaaPFilt2
import Derived.Test.YtchblkeddeelhaaFilt2
import Derived.Deep.RegionWith
import Derived.Deep.RegionHeld3
namespace Go.Proofs.Ytchblkeddeelhaa
open Go.ChangeShapes Go.WideShapes Go.ChangeAt Go.RowKit
set_option linter.unusedVariables false
set_option linter.unusedSimpArgs false
namespace lawFilterStoreBoth
set_option maxHeartbeats 2000000 in
theorem walk (A : Option Addr) (n c : Nat) (w : World) (hC : Code w w.heap.size A n c) : Calls Try.prog 6 #[.slice A n c] w fun e w' => e = .returned (.bool true) ∧ Chg No w w' := by
  have hn1 := hC.1
  have hn2 := hC.2.1
  by_cases hbig : 1048576 < n
  · go_enter Try.func6, Try.ntmps6
    go_wp2
    go_ret
    exact ⟨rfl, Chg.refl _ _⟩
  · have hbig' : n ≤ 1048576 := by omega
    go_enter Try.func6, Try.ntmps6
    (go_wp2_with fail; (with_reducible refine (drawFilterStore A n c _ hC).mono ?_); rintro e w1 ⟨v1, xs, fa, fb, fc, rfl, ho1, hl1, hc1⟩)
    obtain ⟨A1, c1, rfl, hr1⟩ := OItems.read ho1
    have hm1 := hr1.cap; have hk1 := hr1.le
    have HX := hid hr1
    clear ho1 hr1
    obtain ⟨L, hL⟩ : ∃ L, filtF xs fa fb fc = L := ⟨_, rfl⟩
    have HB := hid (Box.new (w := w1) [.int .i64 fa, .int .i64 fb, .int .i64 fc] 29 rfl)
    have KI := hid (fun W (h : RItems W w.heap.size w1.heap.size A1 xs.length c1 xs) => iFilterStore _ _ _ _ _ xs fa fb fc W h)
    have KS := hid (fun W (h : RItems W w.heap.size w1.heap.size A1 xs.length c1 xs) => sFilterStore _ _ _ _ _ xs fa fb fc W h)
    have KV := hid (fun W (h : RItems W w.heap.size w1.heap.size A1 xs.length c1 xs) => iValidStore _ _ _ _ _ xs W h)
    have KF := hid (fun W => iValidFilter fa fb fc W)
    rw [hL] at KI KS
    have HL := hid hL
    clear hL
    (go_wp2_with fail; (with_reducible refine (KI.out _ (HX.out.no (by (repeat (first | (with_reducible exact Chg.refl _ _) | ((with_reducible refine Chg.setNew ?_ _ ?_); rotate_left; first | (dsimp only; omega) | (simp; done) | (simp; omega)) | (with_reducible refine Chg.alloc ?_ _) | (with_reducible refine Chg.drew ?_) | (with_reducible refine Chg.drewN ?_ _) | (with_reducible refine Chg.no ?_ (by assumption)) | (with_reducible refine Chg.and_ ?_ (by assumption)) | ((with_reducible refine Chg.at_ ?_ (by assumption) ?_); rotate_left; (try simp only [World.size_alloc]); omega)))))).mono ?_); rintro e w2 ⟨v2, rfl, ho2, hc2⟩)
    obtain ⟨A2, c2, rfl, hr2⟩ := OItems.read ho2
    have hm2 := hr2.cap; have hk2 := hr2.le
    have HY := hid hr2
    have b2 := (HB.out.no hc2).f3
    clear ho2 hr2
    (go_wp2_with fail; (with_reducible refine (KS.out _ (HX.out.no (by (repeat (first | (with_reducible exact Chg.refl _ _) | ((with_reducible refine Chg.setNew ?_ _ ?_); rotate_left; first | (dsimp only; omega) | (simp; done) | (simp; omega)) | (with_reducible refine Chg.alloc ?_ _) | (with_reducible refine Chg.drew ?_) | (with_reducible refine Chg.drewN ?_ _) | (with_reducible refine Chg.no ?_ (by assumption)) | (with_reducible refine Chg.and_ ?_ (by assumption)) | ((with_reducible refine Chg.at_ ?_ (by assumption) ?_); rotate_left; (try simp only [World.size_alloc]); omega)))))).mono ?_); rintro e w3 ⟨v3, rfl, ho3, hc3⟩)
    obtain ⟨A3, c3, rfl, hr3⟩ := OItems.read ho3
    have hm3 := hr3.cap; have hk3 := hr3.le
    have b3 := (HB.out.no (hc2.no hc3)).f3
    have HZ := hid hr3
    clear ho3 hr3
    (go_wp2_with fail; (with_reducible refine (equalItems _ _ _ _ _ _ _ _ _ L _ (HY.out.no hc3) HZ.out).mono ?_); rintro e w4 ⟨rfl, hc4⟩)
    have b4 := (HB.out.no ((hc2.no hc3).no hc4)).f3
    cases hb1 : storeB xs with
    | false =>
      rw [hb1] at KV
      clear hb1
      (go_wp2_with fail; (with_reducible refine (KV.out _ (HX.out.no (by (repeat (first | (with_reducible exact Chg.refl _ _) | ((with_reducible refine Chg.setNew ?_ _ ?_); rotate_left; first | (dsimp only; omega) | (simp; done) | (simp; omega)) | (with_reducible refine Chg.alloc ?_ _) | (with_reducible refine Chg.drew ?_) | (with_reducible refine Chg.drewN ?_ _) | (with_reducible refine Chg.no ?_ (by assumption)) | (with_reducible refine Chg.and_ ?_ (by assumption)) | ((with_reducible refine Chg.at_ ?_ (by assumption) ?_); rotate_left; (try simp only [World.size_alloc]); omega)))))).mono ?_); rintro e w5 ⟨rfl, hc5⟩)
      have b5 := (HB.out.no (((hc2.no hc3).no hc4).no hc5)).f3
      (go_wp2_with fail; (with_reducible refine (KS.out _ (HX.out.no (by (repeat (first | (with_reducible exact Chg.refl _ _) | ((with_reducible refine Chg.setNew ?_ _ ?_); rotate_left; first | (dsimp only; omega) | (simp; done) | (simp; omega)) | (with_reducible refine Chg.alloc ?_ _) | (with_reducible refine Chg.drew ?_) | (with_reducible refine Chg.drewN ?_ _) | (with_reducible refine Chg.no ?_ (by assumption)) | (with_reducible refine Chg.and_ ?_ (by assumption)) | ((with_reducible refine Chg.at_ ?_ (by assumption) ?_); rotate_left; (try simp only [World.size_alloc]); omega)))))).mono ?_); rintro e w7 ⟨v7, rfl, ho7, hc7⟩)
      obtain ⟨A7, c7, rfl, hr7⟩ := OItems.read ho7
      have hm7 := hr7.cap; have hk7 := hr7.le
      (go_wp2_with fail; (with_reducible refine (equalItems _ _ _ _ _ _ _ _ _ L _ (HY.out.no (by (repeat (first | (with_reducible exact Chg.refl _ _) | ((with_reducible refine Chg.setNew ?_ _ ?_); rotate_left; first | (dsimp only; omega) | (simp; done) | (simp; omega)) | (with_reducible refine Chg.alloc ?_ _) | (with_reducible refine Chg.drew ?_) | (with_reducible refine Chg.drewN ?_ _) | (with_reducible refine Chg.no ?_ (by assumption)) | (with_reducible refine Chg.and_ ?_ (by assumption)) | ((with_reducible refine Chg.at_ ?_ (by assumption) ?_); rotate_left; (try simp only [World.size_alloc]); omega))))) hr7).mono ?_); rintro e w8 ⟨rfl, hc8⟩)
      go_wp2
      go_ret
      exact ⟨rfl, by (repeat (first | (with_reducible exact Chg.refl _ _) | ((with_reducible refine Chg.setNew ?_ _ ?_); rotate_left; first | (dsimp only; omega) | (simp; done) | (simp; omega)) | (with_reducible refine Chg.alloc ?_ _) | (with_reducible refine Chg.drew ?_) | (with_reducible refine Chg.drewN ?_ _) | (with_reducible refine Chg.no ?_ (by assumption)) | (with_reducible refine Chg.and_ ?_ (by assumption)) | ((with_reducible refine Chg.at_ ?_ (by assumption) ?_); rotate_left; (try simp only [World.size_alloc]); omega)))⟩
    | true =>
      rw [hb1] at KV
      cases hb2 : filterB fa fb fc with
      | false =>
        rw [hb2] at KF
        clear hb1 hb2
        (go_wp2_with fail; (with_reducible refine (KV.out _ (HX.out.no (by (repeat (first | (with_reducible exact Chg.refl _ _) | ((with_reducible refine Chg.setNew ?_ _ ?_); rotate_left; first | (dsimp only; omega) | (simp; done) | (simp; omega)) | (with_reducible refine Chg.alloc ?_ _) | (with_reducible refine Chg.drew ?_) | (with_reducible refine Chg.drewN ?_ _) | (with_reducible refine Chg.no ?_ (by assumption)) | (with_reducible refine Chg.and_ ?_ (by assumption)) | ((with_reducible refine Chg.at_ ?_ (by assumption) ?_); rotate_left; (try simp only [World.size_alloc]); omega)))))).mono ?_); rintro e w5 ⟨rfl, hc5⟩)
        have b5 := (HB.out.no (((hc2.no hc3).no hc4).no hc5)).f3
        (go_wp2_with fail; (with_reducible refine (KF.out _).mono ?_); rintro e w6 ⟨rfl, hc6⟩)
        have b6 := (HB.out.no ((((hc2.no hc3).no hc4).no hc5).no hc6)).f3
        (go_wp2_with fail; (with_reducible refine (KS.out _ (HX.out.no (by (repeat (first | (with_reducible exact Chg.refl _ _) | ((with_reducible refine Chg.setNew ?_ _ ?_); rotate_left; first | (dsimp only; omega) | (simp; done) | (simp; omega)) | (with_reducible refine Chg.alloc ?_ _) | (with_reducible refine Chg.drew ?_) | (with_reducible refine Chg.drewN ?_ _) | (with_reducible refine Chg.no ?_ (by assumption)) | (with_reducible refine Chg.and_ ?_ (by assumption)) | ((with_reducible refine Chg.at_ ?_ (by assumption) ?_); rotate_left; (try simp only [World.size_alloc]); omega)))))).mono ?_); rintro e w7 ⟨v7, rfl, ho7, hc7⟩)
        obtain ⟨A7, c7, rfl, hr7⟩ := OItems.read ho7
        have hm7 := hr7.cap; have hk7 := hr7.le
        (go_wp2_with fail; (with_reducible refine (equalItems _ _ _ _ _ _ _ _ _ L _ (HY.out.no (by (repeat (first | (with_reducible exact Chg.refl _ _) | ((with_reducible refine Chg.setNew ?_ _ ?_); rotate_left; first | (dsimp only; omega) | (simp; done) | (simp; omega)) | (with_reducible refine Chg.alloc ?_ _) | (with_reducible refine Chg.drew ?_) | (with_reducible refine Chg.drewN ?_ _) | (with_reducible refine Chg.no ?_ (by assumption)) | (with_reducible refine Chg.and_ ?_ (by assumption)) | ((with_reducible refine Chg.at_ ?_ (by assumption) ?_); rotate_left; (try simp only [World.size_alloc]); omega))))) hr7).mono ?_); rintro e w8 ⟨rfl, hc8⟩)
        go_wp2
        go_ret
        exact ⟨rfl, by (repeat (first | (with_reducible exact Chg.refl _ _) | ((with_reducible refine Chg.setNew ?_ _ ?_); rotate_left; first | (dsimp only; omega) | (simp; done) | (simp; omega)) | (with_reducible refine Chg.alloc ?_ _) | (with_reducible refine Chg.drew ?_) | (with_reducible refine Chg.drewN ?_ _) | (with_reducible refine Chg.no ?_ (by assumption)) | (with_reducible refine Chg.and_ ?_ (by assumption)) | ((with_reducible refine Chg.at_ ?_ (by assumption) ?_); rotate_left; (try simp only [World.size_alloc]); omega)))⟩
      | true =>
        rw [hb2] at KF
        obtain ⟨m, hm⟩ : ∃ m : Int, (n : Int) % 2 = m := ⟨_, rfl⟩
        have hm0 : m = 0 ∨ m = 1 := by omega
        have hg : filterB m 4 0 = true := by rcases hm0 with h | h <;> subst h <;> decide
        have hbo : bothOk fa fb fc m 4 0 = true := by unfold bothOk; rw [hb2, hg]; simp
        obtain ⟨z1, hz1⟩ : ∃ z, bits .or .i64 fa m = z := ⟨_, rfl⟩
        obtain ⟨z2, hz2⟩ : ∃ z, bits .or .i64 fb 4 = z := ⟨_, rfl⟩
        obtain ⟨z3, hz3⟩ : ∃ z, bits .or .i64 fc 0 = z := ⟨_, rfl⟩
        have HT := hid (show filtF xs z1 z2 z3 = filtF L m 4 0 from by rw [← hz1, ← hz2, ← hz3, ← HL.out]; exact filtF_both hb1 hbo)
        have KB := hid (fun W => iBothYes hbo hz1 hz2 hz3 W)
        obtain ⟨L2, hL2⟩ : ∃ L2, filtF L m 4 0 = L2 := ⟨_, rfl⟩
        have KG := hid (fun W lo hi (h : RItems W lo hi A2 L.length c2 L) => iFilterStore lo hi _ _ _ L m 4 0 W h)
        have KH := hid (fun W (h : RItems W w.heap.size w1.heap.size A1 xs.length c1 xs) => iFilterStore _ _ _ _ _ xs z1 z2 z3 W h)
        rw [HT.out, hL2] at KH
        rw [hL2] at KG
        clear hb1 hb2 hz1 hz2 hz3 hbo hg hL2 HT hm0
        (go_wp2_with fail; (with_reducible refine (KV.out _ (HX.out.no (by (repeat (first | (with_reducible exact Chg.refl _ _) | ((with_reducible refine Chg.setNew ?_ _ ?_); rotate_left; first | (dsimp only; omega) | (simp; done) | (simp; omega)) | (with_reducible refine Chg.alloc ?_ _) | (with_reducible refine Chg.drew ?_) | (with_reducible refine Chg.drewN ?_ _) | (with_reducible refine Chg.no ?_ (by assumption)) | (with_reducible refine Chg.and_ ?_ (by assumption)) | ((with_reducible refine Chg.at_ ?_ (by assumption) ?_); rotate_left; (try simp only [World.size_alloc]); omega)))))).mono ?_); rintro e w5 ⟨rfl, hc5⟩)
        have b5 := (HB.out.no (((hc2.no hc3).no hc4).no hc5)).f3
        (go_wp2_with fail; (with_reducible refine (KF.out _).mono ?_); rintro e w6 ⟨rfl, hc6⟩)
        have b6 := (HB.out.no ((((hc2.no hc3).no hc4).no hc5).no hc6)).f3
        have z6 := (HB.out.no ((((hc2.no hc3).no hc4).no hc5).no hc6)).lt
        have B6 := hid (Box.new (w := w6) [.int .i64 m, .int .i64 4, .int .i64 0] 29 rfl)
        (go_wp2_with fail; (with_reducible refine (KB.out _).mono ?_); rintro e w7 ⟨rfl, hc7⟩)
        have B7 := hid (((B6.out).no hc7).alloc (.cells #[.int .i64 z1, .int .i64 z2, .int .i64 z3] 29))
        have B8 := hid (Box.new (w := w7) [.int .i64 z1, .int .i64 z2, .int .i64 z3] 29 rfl)
        have q7 := B7.out.f3
        have q8 := B8.out.f3
        have z7 := B7.out.lt
        have z8 := ((B6.out).no hc7).lt
        go_wp2_with fail
        go_region_held3 (fun w' => (w'.cell? ⟨w6.heap.size, 0, none⟩ = some (.int .i64 m) ∧ w'.cell? ⟨w6.heap.size, 1, none⟩ = some (.int .i64 4) ∧ w'.cell? ⟨w6.heap.size, 2, none⟩ = some (.int .i64 0)) ∧ (w'.cell? ⟨w7.heap.size, 0, none⟩ = some (.int .i64 z1) ∧ w'.cell? ⟨w7.heap.size, 1, none⟩ = some (.int .i64 z2) ∧ w'.cell? ⟨w7.heap.size, 2, none⟩ = some (.int .i64 z3)))
                        (first | go_keep | (go_split_ands; refine ⟨⟨?_, ?_, ?_⟩, ⟨?_, ?_, ?_⟩⟩ <;> exact cell_keep (by assumption) (by assumption) (fun e => e)))
                (first | (go_at_call 16; (with_reducible refine (KH.out _ (HX.out.no (by (repeat (first | (with_reducible exact Chg.refl _ _) | ((with_reducible refine Chg.setNew ?_ _ ?_); rotate_left; first | (dsimp only; omega) | (simp; done) | (simp; omega)) | (with_reducible refine Chg.alloc ?_ _) | (with_reducible refine Chg.drew ?_) | (with_reducible refine Chg.drewN ?_ _) | (with_reducible refine Chg.no ?_ (by assumption)) | (with_reducible refine Chg.and_ ?_ (by assumption)) | ((with_reducible refine Chg.at_ ?_ (by assumption) ?_); rotate_left; (try simp only [World.size_alloc]); omega)))))).mono ?_); rintro e wh ⟨vh, rfl, hoh, hch⟩; obtain ⟨Ah, ch, rfl, hrh⟩ := OItems.read hoh; have hmh := hrh.cap; have hkh := hrh.le) | (go_at_call 16; (with_reducible refine (KG.out _ _ _ (HY.out.no (by (repeat (first | (with_reducible exact Chg.refl _ _) | ((with_reducible refine Chg.setNew ?_ _ ?_); rotate_left; first | (dsimp only; omega) | (simp; done) | (simp; omega)) | (with_reducible refine Chg.alloc ?_ _) | (with_reducible refine Chg.drew ?_) | (with_reducible refine Chg.drewN ?_ _) | (with_reducible refine Chg.no ?_ (by assumption)) | (with_reducible refine Chg.and_ ?_ (by assumption)) | ((with_reducible refine Chg.at_ ?_ (by assumption) ?_); rotate_left; (try simp only [World.size_alloc]); omega)))))).mono ?_); rintro e wg ⟨vg, rfl, hog, hcg⟩; obtain ⟨Ag, cg, rfl, hrg⟩ := OItems.read hog; have hmg := hrg.cap; have hkg := hrg.le) | (go_at_call 21; (with_reducible refine (equalItems _ _ _ _ _ _ _ _ _ L2 _ (hrh.no (by (repeat (first | (with_reducible exact Chg.refl _ _) | ((with_reducible refine Chg.setNew ?_ _ ?_); rotate_left; first | (dsimp only; omega) | (simp; done) | (simp; omega)) | (with_reducible refine Chg.alloc ?_ _) | (with_reducible refine Chg.drew ?_) | (with_reducible refine Chg.drewN ?_ _) | (with_reducible refine Chg.no ?_ (by assumption)) | (with_reducible refine Chg.and_ ?_ (by assumption)) | ((with_reducible refine Chg.at_ ?_ (by assumption) ?_); rotate_left; (try simp only [World.size_alloc]); omega))))) (hrg.no (by (repeat (first | (with_reducible exact Chg.refl _ _) | ((with_reducible refine Chg.setNew ?_ _ ?_); rotate_left; first | (dsimp only; omega) | (simp; done) | (simp; omega)) | (with_reducible refine Chg.alloc ?_ _) | (with_reducible refine Chg.drew ?_) | (with_reducible refine Chg.drewN ?_ _) | (with_reducible refine Chg.no ?_ (by assumption)) | (with_reducible refine Chg.and_ ?_ (by assumption)) | ((with_reducible refine Chg.at_ ?_ (by assumption) ?_); rotate_left; (try simp only [World.size_alloc]); omega)))))).mono ?_); rintro e we ⟨rfl, hce⟩))
        all_goals
          go_wp2
          go_ret
          exact ⟨rfl, by (repeat (first | (with_reducible exact Chg.refl _ _) | ((with_reducible refine Chg.setNew ?_ _ ?_); rotate_left; first | (dsimp only; omega) | (simp; done) | (simp; omega)) | (with_reducible refine Chg.alloc ?_ _) | (with_reducible refine Chg.drew ?_) | (with_reducible refine Chg.drewN ?_ _) | (with_reducible refine Chg.no ?_ (by assumption)) | (with_reducible refine Chg.and_ ?_ (by assumption)) | ((with_reducible refine Chg.at_ ?_ (by assumption) ?_); rotate_left; (try simp only [World.size_alloc]); omega)))⟩

set_option maxRecDepth 100000 in
theorem lifted (os : Os) (started : os.Started) (H : Type) (enc : TypeId × Value → H) :
    ReturnsInHanded {} Try.checked os 6 .any (Rows.fnFilterStoreBothSpec.pre6 enc Try.prog Try.f6 Rows.fnFilterStoreBothRow.domain false) (Rows.fnFilterStoreBothSpec.post enc Try.prog Try.f6 false true false false) := by
  refine returnsInHanded_of_change (C := Try.checked) own started (by kernel_rfl) Try.func6
    (ChangeSpec.witness6 (enc := enc) (C := Try.checked) false ⟨#[], #[.slice none 0 0], []⟩ 8 (by kernel_rfl) (by kernel_rfl) (by kernel_rfl) (by kernel_rfl)) ?_
  intro W base args ds gs before hval0 hW hcnd _
  have hval : ∀ (j : Nat) t v, Try.f6.params[j]? = some t → args[j]? = some v → Value.okWide Try.prog W .any base t v := hval0
  have hW' := hW
  obtain ⟨p, q, hA0, hV, rfl, hfz, hnd⟩ := hW
  have hA : DataW.TrodAll enc Try.prog W 0 (fun _ => true) true Try.f6.params.toList args.toList ds p := hA0
  rw [Try.params6] at hA hval
  obtain ⟨v0, vs0, d0, ds0, p0, q0, hargs, rfl, rfl, h0, r0⟩ := trodAll_cons hA
  obtain ⟨rfl, rfl, rfl⟩ := trodAll_nil r0
  obtain rfl : args = #[v0] := by cases args; simp_all
  obtain ⟨rfl, rfl⟩ := trodVars_none hV
  obtain ⟨a0, len0, cap0, rfl⟩ := okWide_slice Try.underlying34 (hval 0 34 v0 rfl rfl)
  have k0 := h0
  have lt0 : ∀ x ∈ p0, x.block < W.heap.size := by obtain ⟨m, hm⟩ := k0; exact DataW.trod_lt m _ _ _ hm
  have w0 : Code W W.heap.size a0 len0 cap0 := by
    obtain ⟨fuel, hf⟩ := h0
    rcases open_ints Try.underlying34 Try.underlying5 (by kernel_rfl) hf with ⟨hcs, _⟩ | ⟨x, l, c, zs, hcs, _, hl, hm, hz, _, hcell, hwz⟩
    · simp [Value.cells] at hcs
      obtain ⟨rfl, rfl, rfl⟩ := hcs
      exact code_nil _
    · simp [Value.cells] at hcs
      obtain ⟨rfl, rfl, rfl⟩ := hcs
      exact code_row hl hm (by simpa using hz) hcell hwz
  clear hA0 hval0
  refine (walk a0 len0 cap0 W w0).mono fun e W' ⟨he, bel0⟩ => ?_
  have bel := bel0.below
  subst he
  exact ⟨_, rfl, _, _, _, [], _, [], hW', trodAll_mk1 (shut_bool Try.underlying4 _), (trodAll_cons_mk (Below.trod laidOut (by kernel_rfl) (of_decide_eq_true (by kernel_rfl)) k0 bel lt0) trodAll_mk0), rfl, bel.frame _, fun h => by cases h⟩

theorem over : Rows.fnFilterStoreBothRow.holds Try.pinned (OpenSpec.ofChange Rows.fnFilterStoreBothSpec) :=
  OpenClaim.holds_of_wide 6 Try.f6 rfl rfl rfl rfl rfl rfl rfl ⟨rfl, rfl, rfl, rfl, rfl⟩ rfl rfl rfl rfl rfl (by kernel_rfl) Try.func6 (by kernel_rfl)
    (of_decide_eq_true (by kernel_rfl)) (by unfold Func.isWrapper; first | (rw [if_pos (by decide +kernel)]; kernel_rfl) | (rw [if_neg (by decide +kernel)]; exact ⟨rfl, rfl⟩))
    (fun os started H enc _ => lifted os started H enc)

theorem proved : Rows.FnFilterStoreBothSaid := over
#print axioms proved

end lawFilterStoreBoth
end Go.Proofs.Ytchblkeddeelhaa
