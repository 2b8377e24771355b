/- Fused ranks: FuseRanks of the reference. -/
import Derived.Test.YtofbjganahbekaaHits
import Derived.Test.YtofbjganahbekaaPFuse2
import Derived.Test.YtofbjganahbekaaAdd
import Derived.Test.YtofbjganahbekaaOwn
namespace Go.Proofs.Ytofbjganahbekaa
open Go.RowKit Go.Sort Go.Shelf
set_option linter.unusedVariables false
set_option linter.unusedSimpArgs false
theorem sScoreOf (l0 h0 l1 h1 : Nat) (A B : Option Addr) (n c m d : Nat) (xs ys : List (Int × Int)) (key : Int) (w : World) (hx : RHits w l0 h0 A n c xs) (hy : RHits w l1 h1 B m d ys) (hn : n ≤ 1000000) (hm : m ≤ 1000000) :
    Calls Try.prog 38 #[.slice A n c, .slice B m d, .int .i64 key] w fun e w' => e = .returned (.int .i64 (sumF xs ys key)) ∧ Chg No w w' := by
  have HX := hid hx; have HY := hid hy
  have K1 := hid (fun W (h : RHits W l0 h0 A n c xs) => sRankScore l0 h0 A n c xs key W h hn)
  have K2 := hid (fun W (h : RHits W l1 h1 B m d ys) => sRankScore l1 h1 B m d ys key W h hm)
  have b1 := rankF_bd xs key
  have b2 := rankF_bd ys key
  have HF := hid (show sumF xs ys key = rankF xs key + rankF ys key from rfl)
  generalize sumF xs ys key = s at *
  generalize rankF xs key = r1 at *
  generalize rankF ys key = r2 at *
  clear hx hy
  go_enter Try.func38, Try.ntmps38
  (go_wp2_with fail; (with_reducible refine (K1.out _ HX.out).mono ?_); rintro e w1 ⟨rfl, rfl⟩)
  (go_wp2_with fail; (with_reducible refine (K2.out _ HY.out).mono ?_); rintro e w2 ⟨rfl, rfl⟩)
  go_wp2
  go_ret
  exact ⟨by rw [HF.out]; first | rfl | exact ret_int (by go_simp; exact IntKind.wrap_i64 _ |>.trans (by omega)), Chg.refl _ _⟩
set_option maxRecDepth 100000 in
set_option maxHeartbeats 8000000 in
theorem sFuseRanks (l0 h0 l1 h1 : Nat) (A B : Option Addr) (n c m d : Nat) (xs ys : List (Int × Int)) (w : World) (hx : RHits w l0 h0 A n c xs) (hy : RHits w l1 h1 B m d ys) :
    Calls Try.prog 17 #[.slice A n c, .slice B m d] w (RetInts (FuseF xs ys) w) := by
  have hnc := hx.le; have hcm := hx.cap; have hmd := hy.le; have hdm := hy.cap
  have HX := hid hx; have HY := hid hy
  have K1 := hid (fun W (h : RHits W l0 h0 A n c xs) => sValidHits l0 h0 A n c xs W h)
  have K2 := hid (fun W (h : RHits W l1 h1 B m d ys) => sValidHits l1 h1 B m d ys W h)
  cases hb1 : hitsB xs with
  | false =>
    rw [hb1] at K1
    have HF := hid (FuseF_no1 (ys := ys) hb1)
    clear hb1 hx hy
    go_enter Try.func17, Try.ntmps17
    (go_wp2_with fail; (with_reducible refine (K1.out _ (HX.out.no (by (repeat (first | (with_reducible exact Chg.refl _ _) | ((with_reducible refine Chg.setNew ?_ _ ?_); rotate_left; first | (dsimp only; omega) | (simp; done) | (simp; omega)) | (with_reducible refine Chg.alloc ?_ _) | (with_reducible refine Chg.drew ?_) | (with_reducible refine Chg.drewN ?_ _) | (with_reducible refine Chg.no ?_ (by assumption)) | (with_reducible refine Chg.and_ ?_ (by assumption)) | ((with_reducible refine Chg.at_ ?_ (by assumption) ?_); rotate_left; (try simp only [World.size_alloc]); omega)))))).mono ?_); rintro e w1 ⟨rfl, hc1⟩)
    go_wp2
    go_ret
    exact ⟨_, rfl, by rw [HF.out]; exact OSl.nil_ _, by (repeat (first | (with_reducible exact Chg.refl _ _) | ((with_reducible refine Chg.setNew ?_ _ ?_); rotate_left; first | (dsimp only; omega) | (simp; done) | (simp; omega)) | (with_reducible refine Chg.alloc ?_ _) | (with_reducible refine Chg.drew ?_) | (with_reducible refine Chg.drewN ?_ _) | (with_reducible refine Chg.no ?_ (by assumption)) | (with_reducible refine Chg.and_ ?_ (by assumption)) | ((with_reducible refine Chg.at_ ?_ (by assumption) ?_); rotate_left; (try simp only [World.size_alloc]); omega)))⟩
  | true =>
    cases hb2 : hitsB ys with
    | false =>
      rw [hb1] at K1
      rw [hb2] at K2
      have HF := hid (FuseF_no2 (xs := xs) hb2)
      clear hb1 hb2 hx hy
      go_enter Try.func17, Try.ntmps17
      (go_wp2_with fail; (with_reducible refine (K1.out _ (HX.out.no (by (repeat (first | (with_reducible exact Chg.refl _ _) | ((with_reducible refine Chg.setNew ?_ _ ?_); rotate_left; first | (dsimp only; omega) | (simp; done) | (simp; omega)) | (with_reducible refine Chg.alloc ?_ _) | (with_reducible refine Chg.drew ?_) | (with_reducible refine Chg.drewN ?_ _) | (with_reducible refine Chg.no ?_ (by assumption)) | (with_reducible refine Chg.and_ ?_ (by assumption)) | ((with_reducible refine Chg.at_ ?_ (by assumption) ?_); rotate_left; (try simp only [World.size_alloc]); omega)))))).mono ?_); rintro e w1 ⟨rfl, hc1⟩)
      (go_wp2_with fail; (with_reducible refine (K2.out _ (HY.out.no (by (repeat (first | (with_reducible exact Chg.refl _ _) | ((with_reducible refine Chg.setNew ?_ _ ?_); rotate_left; first | (dsimp only; omega) | (simp; done) | (simp; omega)) | (with_reducible refine Chg.alloc ?_ _) | (with_reducible refine Chg.drew ?_) | (with_reducible refine Chg.drewN ?_ _) | (with_reducible refine Chg.no ?_ (by assumption)) | (with_reducible refine Chg.and_ ?_ (by assumption)) | ((with_reducible refine Chg.at_ ?_ (by assumption) ?_); rotate_left; (try simp only [World.size_alloc]); omega)))))).mono ?_); rintro e w2 ⟨rfl, hc2⟩)
      go_wp2
      go_ret
      exact ⟨_, rfl, by rw [HF.out]; exact OSl.nil_ _, by (repeat (first | (with_reducible exact Chg.refl _ _) | ((with_reducible refine Chg.setNew ?_ _ ?_); rotate_left; first | (dsimp only; omega) | (simp; done) | (simp; omega)) | (with_reducible refine Chg.alloc ?_ _) | (with_reducible refine Chg.drew ?_) | (with_reducible refine Chg.drewN ?_ _) | (with_reducible refine Chg.no ?_ (by assumption)) | (with_reducible refine Chg.and_ ?_ (by assumption)) | ((with_reducible refine Chg.at_ ?_ (by assumption) ?_); rotate_left; (try simp only [World.size_alloc]); omega)))⟩
    | true =>
      have hn : n ≤ 16 := by have := hitsB_len hb1; have := hx.len; omega
      have hm : m ≤ 16 := by have := hitsB_len hb2; have := hy.len; omega
      have HFF := hid (show FuseF xs ys = refL (sumF xs ys) (hasK xs ys) 99 from by rw [FuseF_ok hb1 hb2, refL_fuse hb1 hb2])
      have HO0 := hid (OSl.lit (T := 3) (sz := 1) (enc := cInt) (w := w.alloc (.cells #[] 3)) (base := w.heap.size) (n := 0) [] [] (fun _ => rfl) rfl rfl (by omega) (Nat.le_refl _) (heap_top rfl))
      have KS := hid (fun key W (h : Chg No w W) => sScoreOf l0 h0 l1 h1 A B n c m d xs ys key W (hx.no h) (hy.no h) (by omega) (by omega))
      have KA := hid (fun key W (h : Chg No w W) => sHitAt l0 h0 A n c xs key W (hx.no h))
      have KB := hid (fun key W (h : Chg No w W) => sHitAt l1 h1 B m d ys key W (hy.no h))
      rw [hb1] at K1
      rw [hb2] at K2
      clear hb1 hb2 hx hy
      go_enter Try.func17, Try.ntmps17
      (go_wp2_with fail; (with_reducible refine (K1.out _ (HX.out.no (by (repeat (first | (with_reducible exact Chg.refl _ _) | ((with_reducible refine Chg.setNew ?_ _ ?_); rotate_left; first | (dsimp only; omega) | (simp; done) | (simp; omega)) | (with_reducible refine Chg.alloc ?_ _) | (with_reducible refine Chg.drew ?_) | (with_reducible refine Chg.drewN ?_ _) | (with_reducible refine Chg.no ?_ (by assumption)) | (with_reducible refine Chg.and_ ?_ (by assumption)) | ((with_reducible refine Chg.at_ ?_ (by assumption) ?_); rotate_left; (try simp only [World.size_alloc]); omega)))))).mono ?_); rintro e w1 ⟨rfl, hc1⟩)
      (go_wp2_with fail; (with_reducible refine (K2.out _ (HY.out.no (by (repeat (first | (with_reducible exact Chg.refl _ _) | ((with_reducible refine Chg.setNew ?_ _ ?_); rotate_left; first | (dsimp only; omega) | (simp; done) | (simp; omega)) | (with_reducible refine Chg.alloc ?_ _) | (with_reducible refine Chg.drew ?_) | (with_reducible refine Chg.drewN ?_ _) | (with_reducible refine Chg.no ?_ (by assumption)) | (with_reducible refine Chg.and_ ?_ (by assumption)) | ((with_reducible refine Chg.at_ ?_ (by assumption) ?_); rotate_left; (try simp only [World.size_alloc]); omega)))))).mono ?_); rintro e w2 ⟨rfl, hc2⟩)
      have h02 : Chg No w w2 := by (repeat (first | (with_reducible exact Chg.refl _ _) | ((with_reducible refine Chg.setNew ?_ _ ?_); rotate_left; first | (dsimp only; omega) | (simp; done) | (simp; omega)) | (with_reducible refine Chg.alloc ?_ _) | (with_reducible refine Chg.drew ?_) | (with_reducible refine Chg.drewN ?_ _) | (with_reducible refine Chg.no ?_ (by assumption)) | (with_reducible refine Chg.and_ ?_ (by assumption)) | ((with_reducible refine Chg.at_ ?_ (by assumption) ?_); rotate_left; (try simp only [World.size_alloc]); omega)))
      have HO2 := hid (OSl.no (OSl.no HO0.out hc1) hc2)
      clear hc1 hc2 HO0 K1 K2 HX HY
      obtain ⟨S, hS⟩ : ∃ S, sumF xs ys = S := ⟨_, rfl⟩
      obtain ⟨P, hP⟩ : ∃ P, hasK xs ys = P := ⟨_, rfl⟩
      have HPK := hid (show ∀ k, P k = decide (¬ (hitAtF xs k < 0 ∧ hitAtF ys k < 0)) from fun k => by rw [← hP]; rfl)
      rw [hS, hP] at HFF
      rw [hS] at KS
      clear hS hP
      go_wp2
      go_loopw [5, 6] (fun v i wr => ∃ k : Nat, k ≤ 99 ∧ i = .int .i64 ((k : Int) + 1) ∧ Chg No w wr ∧ Hid (OInts wr w.heap.size v (refL S P k))) (fun _ i _ => 100 - (intOf i).toNat)
      case atStart => exact ⟨0, by omega, by go_num, h02, HO2⟩
      case round =>
        clear HO2 h02
        obtain ⟨k, hk, rfl, hc, HO⟩ := hrel
        obtain ⟨wo, rfl⟩ : ∃ W : World, W = wr := ⟨_, rfl⟩
        have hll := (refL_spec S P k).2.2.2
        obtain ⟨A9, c9, hv9, hr9⟩ := OInts.read HO.out
        subst hv9
        have hp9 := hr9.cap; have hq9 := hr9.le
        have HRL := hid (show refL S P (k + 1) = if P ((k : Int) + 1) = true then insK S ((k : Int) + 1) (refL S P k) else refL S P k from rfl)
        clear hr9
        by_cases hlt : k < 99
        · have hpk := HPK.out ((k : Int) + 1)
          have KA1 := KA.out ((k : Int) + 1)
          have KB1 := KB.out ((k : Int) + 1)
          generalize hitAtF xs ((k : Int) + 1) = r1 at *
          generalize hitAtF ys ((k : Int) + 1) = r2 at *
          have KA2 := hid KA1
          have KB2 := hid KB1
          clear KA1 KB1
          generalize hL : refL S P k = L at *
          by_cases g1 : r1 < 0
          · by_cases g2 : r2 < 0
            · have HIN := hid (show refL S P (k + 1) = L from by rw [HRL.out, if_neg (by rw [hpk, decide_eq_true_iff]; omega)])
              clear hpk HRL hL
              (go_wp2_with fail; (with_reducible refine (KA2.out _ hc).mono ?_); rintro e w3 ⟨rfl, rfl⟩)
              (go_wp2_with fail; (with_reducible refine (KB2.out _ hc).mono ?_); rintro e w4 ⟨rfl, rfl⟩)
              go_wp2
              go_roundw
              case rel => exact ⟨k + 1, by omega, by go_num, hc, by (show OInts _ _ _ _; rw [HIN.out]; exact HO.out)⟩
              case measure => simp [intOf]; omega
            · have g2' : 0 ≤ r2 := by omega
              (go_wp2_with fail; (with_reducible refine (KA2.out _ hc).mono ?_); rintro e w3 ⟨rfl, rfl⟩)
              (go_wp2_with fail; (with_reducible refine (KB2.out _ hc).mono ?_); rintro e w4 ⟨rfl, rfl⟩)
              have HH := hid (OSl.alloc HO.out (.cells #[.int .i64 ((k : Int) + 1)] 3))
              have HX1 := hid (Src.one (sz := 1) (enc := cInt) (y := (k : Int) + 1) (Box.new (w := wo) (g := wo.heap.size) [.int .i64 ((k : Int) + 1)] 3 rfl) rfl)
              have HIN := hid (show refL S P (k + 1) = insK S ((k : Int) + 1) L from by rw [HRL.out, if_pos (by rw [hpk]; exact decide_eq_true (by omega))])
              have so := hc.size
              clear hpk HRL hL
              skip
              go_wp2_with (at_builtin; refine wpList_push _ rfl _ _ 30 rfl 3 1 8 (.int .i64 0) cInt Try.underlying30 infoInt rfl (by omega) (by omega) (fun _ => rfl) oneInt w.heap.size _ L rfl HH.out _ 1 1 [(k : Int) + 1] rfl HX1.out (by omega) (by simp; omega) ?_; intro v' w6 ho hg2 hb2)
              have hc7 : Chg No w w6 := Chg.pushed (hc.alloc _) hg2 HH.out (Nat.le_refl _)
              obtain ⟨A1, c1, hv, hcn, hcm1, hA1⟩ := OSl.form ho
              obtain ⟨g, rfl, hg1, hg3⟩ := hA1 (by simp)
              obtain ⟨ln, hln⟩ : ∃ ln, L.length = ln := ⟨_, rfl⟩
              have HL := hid hln
              rw [List.length_append, List.length_singleton, hln] at hv hcn
              rw [hln] at hll
              subst hv
              have HOA := hid (show OInts w6 w.heap.size (.slice (some ⟨g, 0, none⟩) (ln + 1) c1) (putK ((k : Int) + 1) L ln) from by rw [← hln, putK_all]; rw [hln]; exact ho)
              have hcm2 : c1 ≤ 9223372036854775807 := by unfold maxLen at hcm1; omega
              clear ho hg2 hb2 HX1 HH HO hA1 hcm1 hln hp9 hq9 so
              have hl100 : ln + 1 ≤ 100 := by omega
              go_wp2
              go_simp
              go_wp2
              go_loopw [7] (fun i wi => ∃ j : Nat, j ≤ ln ∧ i = .int .i64 j ∧ Chg No w wi ∧ Hid (OInts wi w.heap.size (.slice (some ⟨g, 0, none⟩) (ln + 1) c1) (putK ((k : Int) + 1) L j)) ∧ Hid (backK S ((k : Int) + 1) L L.length = backK S ((k : Int) + 1) L j)) (fun i _ => (intOf i).toNat)
              case atStart => exact ⟨ln, Nat.le_refl _, by go_num, hc7, HOA, by show _ = _; rw [HL.out]⟩
              case round =>
                clear HOA hc7
                obtain ⟨j, hj, rfl, hci, HK, HB⟩ := hrel
                obtain ⟨wi, rfl⟩ : ∃ W : World, W = wr := ⟨_, rfl⟩
                have hkl : j ≤ L.length := by rw [HL.out]; exact hj
                have Hkl := hid hkl
                clear hkl
                by_cases h00 : j = 0
                · have h0' : decide (0 < j) = false := by simp; omega
                  have HF := hid (show insK S ((k : Int) + 1) L = putK ((k : Int) + 1) L j from by unfold insK; rw [HB.out, h00]; rfl)
                  clear h00
                  go_wp2_with fail
                  (refine wp_region_nb (by kernel_rfl) (by kernel_rfl) ?_; (repeat (first | go_big_quiet_step (fail) | quiet_step (fail))); (with_reducible refine wpQuiet_nil ?_); intro wq hw1; have hq := nb_out hw1; clear hw1)
                  have HK1 := hid (HK.out.no hq)
                  have hci2 : Chg No w wq := hci.no hq
                  go_wp2
                  go_roundw
                  case rel => exact ⟨k + 1, by omega, by go_num, hci2, by (show OInts _ _ _ _; rw [HIN.out, HF.out]; exact HK1.out)⟩
                  case measure => simp [intOf]; omega
                · obtain ⟨i, rfl⟩ : ∃ i, j = i + 1 := ⟨j - 1, by omega⟩
                  have h0' : decide (0 < i + 1) = true := by simp
                  obtain ⟨z, hz⟩ : ∃ z, L[i]? = some z := ⟨_, List.getElem?_eq_getElem (by have := Hkl.out; omega)⟩
                  have hp1 := putK_at (h := (k : Int) + 1) Hkl.out
                  have hp2 := putK_prev (h := (k : Int) + 1) hz
                  have hstep := backK_step (s := S) (h := (k : Int) + 1) hz
                  have f1 : ∀ p : NB wi, p.wd.cell? ⟨g, i + 1, none⟩ = some (.int .i64 ((k : Int) + 1)) := nb_cell (by have h9 := HK.out.cell (fun _ => rfl) (i := 0) hp1 rfl; simpa using h9)
                  have f3 : ∀ p : NB wi, p.wd.cell? ⟨g, i, none⟩ = some (.int .i64 z) := nb_cell (by have h9 := HK.out.cell (fun _ => rfl) (i := 0) hp2 rfl; simpa using h9)
                  have HZ := hid hz
                  have HS := hid hstep
                  have i1 : ((i : Int) + 1).toNat = i + 1 := by omega
                  have KC := hid (fun key W (h : Chg No wi W) => KS.out key W (hci.no h))
                  obtain ⟨s1, hs1⟩ : ∃ s1, S ((k : Int) + 1) = s1 := ⟨_, rfl⟩
                  obtain ⟨s2, hs2⟩ : ∃ s2, S z = s2 := ⟨_, rfl⟩
                  clear hp1 hp2 hstep hz
                  by_cases g3 : s2 < s1
                  · have HB2 := hid (show backK S ((k : Int) + 1) L L.length = backK S ((k : Int) + 1) L i from by rw [HB.out, HS.out, hs1, hs2, if_pos g3])
                    have g3' : decide (s2 < s1) = true := decide_eq_true g3
                    clear HS
                    go_wp2_with fail
                    (refine wp_region_nb (by kernel_rfl) (by kernel_rfl) ?_; (repeat (first | go_big_quiet_step ((go_at_call 38; first | exact nb_ofE (KC.out _ _ (NB.h _)) (congrArg (Value.int .i64) hs1) | exact nb_ofE (KC.out _ _ (NB.h _)) (congrArg (Value.int .i64) hs2))) | quiet_step ((go_at_call 38; first | exact nb_ofE (KC.out _ _ (NB.h _)) (congrArg (Value.int .i64) hs1) | exact nb_ofE (KC.out _ _ (NB.h _)) (congrArg (Value.int .i64) hs2))))); (with_reducible refine wpQuiet_nil ?_); intro wq hw1; have hq := nb_out hw1; clear hw1)
                    have HK1 := hid (HK.out.no hq)
                    have hci2 : Chg No w wq := hci.no hq
                    have hp1 := putK_at (h := (k : Int) + 1) Hkl.out
                    have hp2 := putK_prev (h := (k : Int) + 1) HZ.out
                    have e1 : wq.cell? ⟨g, i + 1, none⟩ = some (.int .i64 ((k : Int) + 1)) := by have h9 := HK1.out.cell (fun _ => rfl) (i := 0) hp1 rfl; simpa using h9
                    have e3 : wq.cell? ⟨g, i, none⟩ = some (.int .i64 z) := by have h9 := HK1.out.cell (fun _ => rfl) (i := 0) hp2 rfl; simpa using h9
                    have q1 : ∀ o, wq.frozen? ⟨g, o, none⟩ = false := fun o => OSl.free HK1.out o
                    have hgl : g < wq.heap.size := (OSl.base_lt HK1.out).2
                    have hne : ¬ g = wq.heap.size := by omega
                    have hne' : ¬ wq.heap.size = g := by omega
                    clear hp1 hp2 f1 f3
                    go_wp2
                    go_roundw
                    case rel => exact ⟨i, by omega, by go_num, by (repeat (first | (with_reducible exact Chg.refl _ _) | ((with_reducible refine Chg.setNew ?_ _ ?_); rotate_left; first | (dsimp only; omega) | (simp; done) | (simp; omega)) | (with_reducible refine Chg.alloc ?_ _) | (with_reducible refine Chg.drew ?_) | (with_reducible refine Chg.drewN ?_ _) | (with_reducible refine Chg.no ?_ (by assumption)) | (with_reducible refine Chg.and_ ?_ (by assumption)) | ((with_reducible refine Chg.at_ ?_ (by assumption) ?_); rotate_left; (try simp only [World.size_alloc]); omega))), by (show OInts _ _ _ _; have h9 := OSl.set1 (OSl.set1 HK1.out (fun _ => rfl) (i + 1) z _ rfl) (fun _ => rfl) i ((k : Int) + 1) _ rfl; rw [putK_swap HZ.out] at h9; exact h9), HB2⟩
                    case measure => simp [intOf]
                  · have HF := hid (show insK S ((k : Int) + 1) L = putK ((k : Int) + 1) L (i + 1) from by unfold insK; rw [HB.out, HS.out, hs1, hs2, if_neg g3])
                    have g3' : decide (s2 < s1) = false := decide_eq_false g3
                    clear HS
                    go_wp2_with fail
                    (refine wp_region_nb (by kernel_rfl) (by kernel_rfl) ?_; (repeat (first | go_big_quiet_step ((go_at_call 38; first | exact nb_ofE (KC.out _ _ (NB.h _)) (congrArg (Value.int .i64) hs1) | exact nb_ofE (KC.out _ _ (NB.h _)) (congrArg (Value.int .i64) hs2))) | quiet_step ((go_at_call 38; first | exact nb_ofE (KC.out _ _ (NB.h _)) (congrArg (Value.int .i64) hs1) | exact nb_ofE (KC.out _ _ (NB.h _)) (congrArg (Value.int .i64) hs2))))); (with_reducible refine wpQuiet_nil ?_); intro wq hw1; have hq := nb_out hw1; clear hw1)
                    have HK1 := hid (HK.out.no hq)
                    have hci2 : Chg No w wq := hci.no hq
                    go_wp2
                    go_roundw
                    case rel => exact ⟨k + 1, by omega, by go_num, hci2, by (show OInts _ _ _ _; rw [HIN.out, HF.out]; exact HK1.out)⟩
                    case measure => simp [intOf]; omega
          · have g1' : 0 ≤ r1 := by omega
            (go_wp2_with fail; (with_reducible refine (KA2.out _ hc).mono ?_); rintro e w3 ⟨rfl, rfl⟩)
            have HH := hid (OSl.alloc HO.out (.cells #[.int .i64 ((k : Int) + 1)] 3))
            have HX1 := hid (Src.one (sz := 1) (enc := cInt) (y := (k : Int) + 1) (Box.new (w := wo) (g := wo.heap.size) [.int .i64 ((k : Int) + 1)] 3 rfl) rfl)
            have HIN := hid (show refL S P (k + 1) = insK S ((k : Int) + 1) L from by rw [HRL.out, if_pos (by rw [hpk]; exact decide_eq_true (by omega))])
            have so := hc.size
            clear hpk HRL hL
            skip
            go_wp2_with (at_builtin; refine wpList_push _ rfl _ _ 30 rfl 3 1 8 (.int .i64 0) cInt Try.underlying30 infoInt rfl (by omega) (by omega) (fun _ => rfl) oneInt w.heap.size _ L rfl HH.out _ 1 1 [(k : Int) + 1] rfl HX1.out (by omega) (by simp; omega) ?_; intro v' w6 ho hg2 hb2)
            have hc7 : Chg No w w6 := Chg.pushed (hc.alloc _) hg2 HH.out (Nat.le_refl _)
            obtain ⟨A1, c1, hv, hcn, hcm1, hA1⟩ := OSl.form ho
            obtain ⟨g, rfl, hg1, hg3⟩ := hA1 (by simp)
            obtain ⟨ln, hln⟩ : ∃ ln, L.length = ln := ⟨_, rfl⟩
            have HL := hid hln
            rw [List.length_append, List.length_singleton, hln] at hv hcn
            rw [hln] at hll
            subst hv
            have HOA := hid (show OInts w6 w.heap.size (.slice (some ⟨g, 0, none⟩) (ln + 1) c1) (putK ((k : Int) + 1) L ln) from by rw [← hln, putK_all]; rw [hln]; exact ho)
            have hcm2 : c1 ≤ 9223372036854775807 := by unfold maxLen at hcm1; omega
            clear ho hg2 hb2 HX1 HH HO hA1 hcm1 hln hp9 hq9 so
            have hl100 : ln + 1 ≤ 100 := by omega
            go_wp2
            go_simp
            go_wp2
            go_loopw [7] (fun i wi => ∃ j : Nat, j ≤ ln ∧ i = .int .i64 j ∧ Chg No w wi ∧ Hid (OInts wi w.heap.size (.slice (some ⟨g, 0, none⟩) (ln + 1) c1) (putK ((k : Int) + 1) L j)) ∧ Hid (backK S ((k : Int) + 1) L L.length = backK S ((k : Int) + 1) L j)) (fun i _ => (intOf i).toNat)
            case atStart => exact ⟨ln, Nat.le_refl _, by go_num, hc7, HOA, by show _ = _; rw [HL.out]⟩
            case round =>
              clear HOA hc7
              obtain ⟨j, hj, rfl, hci, HK, HB⟩ := hrel
              obtain ⟨wi, rfl⟩ : ∃ W : World, W = wr := ⟨_, rfl⟩
              have hkl : j ≤ L.length := by rw [HL.out]; exact hj
              have Hkl := hid hkl
              clear hkl
              by_cases h00 : j = 0
              · have h0' : decide (0 < j) = false := by simp; omega
                have HF := hid (show insK S ((k : Int) + 1) L = putK ((k : Int) + 1) L j from by unfold insK; rw [HB.out, h00]; rfl)
                clear h00
                go_wp2_with fail
                (refine wp_region_nb (by kernel_rfl) (by kernel_rfl) ?_; (repeat (first | go_big_quiet_step (fail) | quiet_step (fail))); (with_reducible refine wpQuiet_nil ?_); intro wq hw1; have hq := nb_out hw1; clear hw1)
                have HK1 := hid (HK.out.no hq)
                have hci2 : Chg No w wq := hci.no hq
                go_wp2
                go_roundw
                case rel => exact ⟨k + 1, by omega, by go_num, hci2, by (show OInts _ _ _ _; rw [HIN.out, HF.out]; exact HK1.out)⟩
                case measure => simp [intOf]; omega
              · obtain ⟨i, rfl⟩ : ∃ i, j = i + 1 := ⟨j - 1, by omega⟩
                have h0' : decide (0 < i + 1) = true := by simp
                obtain ⟨z, hz⟩ : ∃ z, L[i]? = some z := ⟨_, List.getElem?_eq_getElem (by have := Hkl.out; omega)⟩
                have hp1 := putK_at (h := (k : Int) + 1) Hkl.out
                have hp2 := putK_prev (h := (k : Int) + 1) hz
                have hstep := backK_step (s := S) (h := (k : Int) + 1) hz
                have f1 : ∀ p : NB wi, p.wd.cell? ⟨g, i + 1, none⟩ = some (.int .i64 ((k : Int) + 1)) := nb_cell (by have h9 := HK.out.cell (fun _ => rfl) (i := 0) hp1 rfl; simpa using h9)
                have f3 : ∀ p : NB wi, p.wd.cell? ⟨g, i, none⟩ = some (.int .i64 z) := nb_cell (by have h9 := HK.out.cell (fun _ => rfl) (i := 0) hp2 rfl; simpa using h9)
                have HZ := hid hz
                have HS := hid hstep
                have i1 : ((i : Int) + 1).toNat = i + 1 := by omega
                have KC := hid (fun key W (h : Chg No wi W) => KS.out key W (hci.no h))
                obtain ⟨s1, hs1⟩ : ∃ s1, S ((k : Int) + 1) = s1 := ⟨_, rfl⟩
                obtain ⟨s2, hs2⟩ : ∃ s2, S z = s2 := ⟨_, rfl⟩
                clear hp1 hp2 hstep hz
                by_cases g3 : s2 < s1
                · have HB2 := hid (show backK S ((k : Int) + 1) L L.length = backK S ((k : Int) + 1) L i from by rw [HB.out, HS.out, hs1, hs2, if_pos g3])
                  have g3' : decide (s2 < s1) = true := decide_eq_true g3
                  clear HS
                  go_wp2_with fail
                  (refine wp_region_nb (by kernel_rfl) (by kernel_rfl) ?_; (repeat (first | go_big_quiet_step ((go_at_call 38; first | exact nb_ofE (KC.out _ _ (NB.h _)) (congrArg (Value.int .i64) hs1) | exact nb_ofE (KC.out _ _ (NB.h _)) (congrArg (Value.int .i64) hs2))) | quiet_step ((go_at_call 38; first | exact nb_ofE (KC.out _ _ (NB.h _)) (congrArg (Value.int .i64) hs1) | exact nb_ofE (KC.out _ _ (NB.h _)) (congrArg (Value.int .i64) hs2))))); (with_reducible refine wpQuiet_nil ?_); intro wq hw1; have hq := nb_out hw1; clear hw1)
                  have HK1 := hid (HK.out.no hq)
                  have hci2 : Chg No w wq := hci.no hq
                  have hp1 := putK_at (h := (k : Int) + 1) Hkl.out
                  have hp2 := putK_prev (h := (k : Int) + 1) HZ.out
                  have e1 : wq.cell? ⟨g, i + 1, none⟩ = some (.int .i64 ((k : Int) + 1)) := by have h9 := HK1.out.cell (fun _ => rfl) (i := 0) hp1 rfl; simpa using h9
                  have e3 : wq.cell? ⟨g, i, none⟩ = some (.int .i64 z) := by have h9 := HK1.out.cell (fun _ => rfl) (i := 0) hp2 rfl; simpa using h9
                  have q1 : ∀ o, wq.frozen? ⟨g, o, none⟩ = false := fun o => OSl.free HK1.out o
                  have hgl : g < wq.heap.size := (OSl.base_lt HK1.out).2
                  have hne : ¬ g = wq.heap.size := by omega
                  have hne' : ¬ wq.heap.size = g := by omega
                  clear hp1 hp2 f1 f3
                  go_wp2
                  go_roundw
                  case rel => exact ⟨i, by omega, by go_num, by (repeat (first | (with_reducible exact Chg.refl _ _) | ((with_reducible refine Chg.setNew ?_ _ ?_); rotate_left; first | (dsimp only; omega) | (simp; done) | (simp; omega)) | (with_reducible refine Chg.alloc ?_ _) | (with_reducible refine Chg.drew ?_) | (with_reducible refine Chg.drewN ?_ _) | (with_reducible refine Chg.no ?_ (by assumption)) | (with_reducible refine Chg.and_ ?_ (by assumption)) | ((with_reducible refine Chg.at_ ?_ (by assumption) ?_); rotate_left; (try simp only [World.size_alloc]); omega))), by (show OInts _ _ _ _; have h9 := OSl.set1 (OSl.set1 HK1.out (fun _ => rfl) (i + 1) z _ rfl) (fun _ => rfl) i ((k : Int) + 1) _ rfl; rw [putK_swap HZ.out] at h9; exact h9), HB2⟩
                  case measure => simp [intOf]
                · have HF := hid (show insK S ((k : Int) + 1) L = putK ((k : Int) + 1) L (i + 1) from by unfold insK; rw [HB.out, HS.out, hs1, hs2, if_neg g3])
                  have g3' : decide (s2 < s1) = false := decide_eq_false g3
                  clear HS
                  go_wp2_with fail
                  (refine wp_region_nb (by kernel_rfl) (by kernel_rfl) ?_; (repeat (first | go_big_quiet_step ((go_at_call 38; first | exact nb_ofE (KC.out _ _ (NB.h _)) (congrArg (Value.int .i64) hs1) | exact nb_ofE (KC.out _ _ (NB.h _)) (congrArg (Value.int .i64) hs2))) | quiet_step ((go_at_call 38; first | exact nb_ofE (KC.out _ _ (NB.h _)) (congrArg (Value.int .i64) hs1) | exact nb_ofE (KC.out _ _ (NB.h _)) (congrArg (Value.int .i64) hs2))))); (with_reducible refine wpQuiet_nil ?_); intro wq hw1; have hq := nb_out hw1; clear hw1)
                  have HK1 := hid (HK.out.no hq)
                  have hci2 : Chg No w wq := hci.no hq
                  go_wp2
                  go_roundw
                  case rel => exact ⟨k + 1, by omega, by go_num, hci2, by (show OInts _ _ _ _; rw [HIN.out, HF.out]; exact HK1.out)⟩
                  case measure => simp [intOf]; omega
        · have hk99 : k = 99 := by omega
          subst hk99
          go_wp2
          go_ret
          exact ⟨_, rfl, by rw [HFF.out]; exact HO.out, hc⟩
end Go.Proofs.Ytofbjganahbekaa
