/- Merged hits: mergeHits and MergeHits of the program, MergeHits of the reference. -/
import Derived.Test.YtkglmhhihpofiaaSort
import Derived.Test.YtkglmhhihpofiaaHitsJ
import Derived.Test.YtkglmhhihpofiaaAdd
import Derived.Test.YtkglmhhihpofiaaPMerge
import Derived.Test.YtkglmhhihpofiaaPStore
namespace Go.Proofs.Ytkglmhhihpofiaa
open Go.RowKit Go.Shelf
set_option linter.unusedVariables false
set_option linter.unusedSimpArgs false
theorem mergeHits1 (x1 x2 k1 k2 : Int) (B : Nat) (w : World) (hB : B < w.heap.size) (hc : w.cell? ⟨B, 0, none⟩ = some (.int .i64 k1)) (hc2 : w.cell? ⟨B, 1, none⟩ = some (.int .i64 k2)) :
    Calls Try.prog 93 (#[.agg #[.int .i64 x1, .int .i64 x2]] ++ #[.pointer (some ⟨B, 0, none⟩)]) w fun e w' => e = .returned (.bool (decide (x1 = k1))) ∧ Chg No w w' := by
  have hne : B ≠ w.heap.size := by omega
  show Calls Try.prog 93 #[.agg #[.int .i64 x1, .int .i64 x2], .pointer (some ⟨B, 0, none⟩)] w _
  go_enter Try.func93, Try.ntmps93
  go_wp2
  go_ret
  exact ⟨ret_bool (by rw [Bool.eq_iff_iff]; simp), by (repeat (first | (with_reducible exact Chg.refl _ _) | ((with_reducible refine Chg.setNew ?_ _ ?_); rotate_left; first | (dsimp only; omega) | (simp; done) | (simp; omega)) | (with_reducible refine Chg.alloc ?_ _) | (with_reducible refine Chg.drew ?_) | (with_reducible refine Chg.drewN ?_ _) | (with_reducible refine Chg.no ?_ (by assumption)) | (with_reducible refine Chg.and_ ?_ (by assumption)) | ((with_reducible refine Chg.at_ ?_ (by assumption) ?_); rotate_left; (try simp only [World.size_alloc]); omega)))⟩
set_option maxRecDepth 100000 in
set_option maxHeartbeats 4000000 in
theorem iMergeL (l0 h0 l1 h1 : Nat) (A B : Option Addr) (n c m d : Nat) (xs ys : List (Int × Int)) (k : Int) (w : World) (hx : RHits w l0 h0 A n c xs) (hy : RHits w l1 h1 B m d ys) (hn : n ≤ 1000) (hm : m ≤ 1000) :
    Calls Try.prog 66 #[.slice A n c, .slice B m d, .int .i64 k] w (RetHits (dedupK k (sortHits (xs ++ ys))) w) := by
  have hnc := hx.le; have hcm := hx.cap; have hmd := hy.le; have hdm := hy.cap
  have HX := hid hx; have HY := hid hy
  have HLX := hid (show xs.length = n from hx.len); have HLY := hid (show ys.length = m from hy.len)
  have EG := hid (enters_of (P := Try.prog) Try.func93 (by kernel_rfl) rfl)
  have HO0 := hid (OSl.lit (T := 51) (sz := 2) (enc := cHit) (w := w.alloc (.cells #[] 51)) (base := w.heap.size) (n := 0) [] [] (fun _ => rfl) rfl rfl (by omega) (Nat.le_refl _) (heap_top rfl))
  have HS1 := hid (src_hits (RHits.no hx ((Chg.refl No w).alloc (.cells #[] 51))))
  clear hx hy
  go_enter Try.func66, Try.ntmps66
  go_wp2_with (first | (at_builtin; refine wpList_push _ rfl (.tmp 11) (.tmp 12) 27 rfl 51 2 16 (.agg #[.int .i64 0, .int .i64 0]) cHit Try.underlying27 infoHit rfl (by omega) (by omega) (fun _ => rfl) oneHit w.heap.size _ [] rfl HO0.out A n c xs rfl HS1.out (by simp; omega) (by simp) ?_; intro v1 w1 ho1 hg1 hb1; have hc1 : Chg No w w1 := Chg.pushed ((Chg.refl No w).alloc _) hg1 HO0.out (Nat.le_refl _); have HO1 := hid ho1; have HS2 := hid (src_hits (HY.out.no hc1)); have s1 := hc1.size; clear ho1 hg1 hb1) | (at_builtin; refine wpList_push _ rfl (.tmp 13) (.tmp 14) 27 rfl 51 2 16 (.agg #[.int .i64 0, .int .i64 0]) cHit Try.underlying27 infoHit rfl (by omega) (by omega) (fun _ => rfl) oneHit w.heap.size _ ([] ++ xs) rfl HO1.out B m d ys rfl HS2.out (by have := HLX.out; simp; omega) s1 ?_; intro v2 w2 ho2 hg2 hb2))
  have hc2 : Chg No w w2 := Chg.pushed hc1 hg2 HO1.out (Nat.le_refl _)
  rw [List.nil_append] at ho2
  obtain ⟨A2, c2, hv2, hl2, hm2, hA2⟩ := OSl.form ho2
  obtain ⟨N, hN⟩ : ∃ N, (xs ++ ys).length = N := ⟨_, rfl⟩
  have hN2 : N = n + m := by rw [← hN, List.length_append, HLX.out, HLY.out]
  rw [hN] at hv2 hl2
  subst hv2
  have hN3 : N ≤ 2000 := by omega
  have HO2 := hid (show OHits w2 w.heap.size (.slice A2 N c2) (xs ++ ys) from ho2)
  have s2 := hc2.size
  unfold maxLen at hm2
  clear ho2 hg2 hb2 hA2 hN2 hN
  (go_wp2_with fail; (with_reducible refine (sortFuncH w.heap.size A2 N c2 (xs ++ ys) _ HO2.out (by omega)).mono ?_); rintro e w3 ⟨rfl, ho3, hc3⟩)
  have hcw3 : Chg No w w3 := hc2.trans hc3 (fun i hi h => by
    have := (World.ownsRow.lt HO2.out i h).1; omega)
  obtain ⟨S, hS⟩ : ∃ S, sortHits (xs ++ ys) = S := ⟨_, rfl⟩
  rw [hS] at ho3
  have HS9 := hid hS
  obtain ⟨A3, c3, hv3, hr3⟩ := OHits.read ho3
  have hSl : S.length = N := OSl.len ho3
  have s3 := hcw3.size
  have HR := hid (show RHits w3 w.heap.size w3.heap.size A2 N c2 S from by
    injection hv3 with e1 e2 e3
    rw [← hSl, e1, e3]; exact hr3)
  have HO3 := hid (OSl.lit (T := 51) (sz := 2) (enc := cHit) (w := w3.alloc (.cells #[] 51)) (base := w3.heap.size) (n := 0) [] [] (fun _ => rfl) rfl rfl (by omega) (Nat.le_refl _) (heap_top rfl))
  have HSL := hid hSl
  clear hv3 hr3 ho3 hS hSl hc3 HO2 HO1 HO0 HS1 HS2
  go_wp2
  go_loopw [8, 21] (fun v i wr => ∃ j : Nat, j ≤ N ∧ i = .int .i64 j ∧ Chg No w3 wr ∧ Hid (OHits wr w3.heap.size v (dedupK k (S.take j)))) (fun _ i _ => N - (intOf i).toNat)
  case atStart => exact ⟨0, Nat.zero_le _, rfl, (Chg.refl _ _).alloc _, HO3⟩
  case round =>
    clear HO3
    obtain ⟨j, hj, rfl, hc, HO⟩ := hrel
    obtain ⟨wo, rfl⟩ : ∃ W : World, W = wr := ⟨_, rfl⟩
    by_cases hlt : j < N
    · obtain ⟨b, o, x, rfl, _, _, hxk, hE⟩ := (HR.out.no hc).at_ hlt
      obtain ⟨x1, x2⟩ := x
      have hE1 : wo.cell? ⟨b, o + j * 2, none⟩ = some (.int .i64 x1) := hE.1
      have hE2 : wo.cell? ⟨b, o + j * 2 + 1, none⟩ = some (.int .i64 x2) := hE.2
      have Hxk := hid hxk
      have HD := hid (show dedupK k (S.take (j + 1)) = _ from by rw [take_snoc hxk, dedupK_snoc])
      have hdl : (dedupK k (S.take j)).length ≤ N := by
        rw [dedupK_eq k _ _ rfl, List.length_take]
        have h9 := (dedup_sub (S.take j) _ rfl).length_le
        rw [List.length_take] at h9
        have h8 := HSL.out
        omega
      obtain ⟨D, hD⟩ : ∃ D, dedupK k (S.take j) = D := ⟨_, rfl⟩
      rw [hD] at HO HD hdl
      obtain ⟨A9, c9, hv9, hr9⟩ := OHits.read HO.out
      subst hv9
      have hm9 := hr9.cap; have hk9 := hr9.le
      have B1 := hid (Box.new (w := wo) [.int .i64 x1, .int .i64 x2] 51 rfl)
      have HR9 := hid hr9
      clear hxk hE hD hr9
      by_cases hlk : (D.length : Int) < k
      · have j1 : decide ((D.length : Int) < k) = true := decide_eq_true hlk
        have hcall := containsFunc _ _ A9 D.length c9 D 93 #[.pointer (some ⟨wo.heap.size, 0, none⟩)] (fun y => decide (y.1 = x1)) (wo.alloc (.cells #[.int .i64 x1, .int .i64 x2] 51)) (HR9.out.no ((Chg.refl _ _).alloc _)) EG.out (fun W y1 y2 hW => mergeHits1 y1 y2 x1 x2 wo.heap.size W (by have := hW.size; simp only [World.size_alloc] at this; omega) (cell_keep hW (B1.out.cell 0) (fun e => e)) (cell_keep hW (B1.out.cell 1) (fun e => e)))
        cases hany : D.any fun y => decide (y.1 = x1) with
        | true =>
          rw [hany] at hcall
          have HC := hid hcall
          have HD2 := HD.out
          rw [if_neg (fun h => h.2 hany)] at HD2
          have HD3 := hid HD2
          clear hcall hany HD HD2
          (go_wp2_with fail; (with_reducible refine HC.out.mono ?_); rintro e w5 ⟨rfl, hc5⟩)
          have hc6 : Chg No w3 w5 := (hc.alloc _).no hc5
          have h9 := OSl.no HO.out (((Chg.refl No wo).alloc (.cells #[.int .i64 x1, .int .i64 x2] 51)).no hc5)
          have HO5 : Hid (OHits w5 w3.heap.size (.slice A9 D.length c9) (dedupK k (S.take (j + 1)))) := by show OHits _ _ _ _; rw [HD3.out]; exact h9
          clear HO h9
          go_wp2
          go_roundw
          case rel => exact ⟨j + 1, by omega, by go_num, hc6, HO5⟩
          case measure => simp [intOf]; omega
        | false =>
          rw [hany] at hcall
          have HC := hid hcall
          have HD2 := HD.out
          rw [if_pos ⟨hlk, by rw [hany]; simp⟩] at HD2
          have HD3 := hid HD2
          clear hcall hany HD HD2
          (go_wp2_with fail; (with_reducible refine HC.out.mono ?_); rintro e w5 ⟨rfl, hc5⟩)
          have hc6 : Chg No w3 w5 := (hc.alloc _).no hc5
          have q5 := (B1.out.no hc5).f2
          have l5 := (B1.out.no hc5).lt
          have s5 := hc6.size
          have HH := hid (OSl.alloc (OSl.no HO.out (((Chg.refl No wo).alloc (.cells #[.int .i64 x1, .int .i64 x2] 51)).no hc5)) (.cells #[.int .i64 x1, .int .i64 x2] 51))
          have HX1 := hid (Src.one (sz := 2) (enc := cHit) (y := (x1, x2)) (Box.new (w := w5) [.int .i64 x1, .int .i64 x2] 51 rfl) rfl)
          go_wp2_with (at_builtin; refine wpList_push _ rfl _ _ 27 rfl 51 2 16 (.agg #[.int .i64 0, .int .i64 0]) cHit Try.underlying27 infoHit rfl (by omega) (by omega) (fun _ => rfl) oneHit w3.heap.size _ D rfl HH.out _ 1 1 [(x1, x2)] rfl HX1.out (by omega) (by simp; omega) ?_; intro v' w6 ho hg2 hb2)
          have hc7 : Chg No w3 w6 := Chg.pushed (hc6.alloc _) hg2 HH.out (Nat.le_refl _)
          have HO5 : Hid (OHits w6 w3.heap.size v' (dedupK k (S.take (j + 1)))) := by show OHits _ _ _ _; rw [HD3.out]; exact ho
          clear ho hg2 hb2 HX1 HH HO
          go_wp2
          go_roundw
          case rel => exact ⟨j + 1, by omega, by go_num, hc7, HO5⟩
          case measure => simp [intOf]; omega
      · have j1 : decide ((D.length : Int) < k) = false := decide_eq_false hlk
        have HD2 := HD.out
        rw [if_neg (fun h => hlk h.1)] at HD2
        have HD3 := hid HD2
        have h9 := OSl.no HO.out ((Chg.refl No wo).alloc (.cells #[.int .i64 x1, .int .i64 x2] 51))
        have HO5 : Hid (OHits (wo.alloc (.cells #[.int .i64 x1, .int .i64 x2] 51)) w3.heap.size (.slice A9 D.length c9) (dedupK k (S.take (j + 1)))) := by show OHits _ _ _ _; rw [HD3.out]; exact h9
        clear HD HD2 HO h9
        go_wp2
        go_roundw
        case rel => exact ⟨j + 1, by omega, by go_num, hc.alloc _, HO5⟩
        case measure => simp [intOf]; omega
    · have h9 := HO.out
      rw [List.take_of_length_le (by rw [HSL.out]; omega)] at h9
      have HO5 := hid (OSl.down h9 (base' := w.heap.size) s3)
      clear HO h9
      go_wp2
      go_ret
      exact ⟨_, rfl, by rw [HS9.out]; exact HO5.out, hcw3.no hc⟩
/-- merged where the arguments are valid-/
def mergeOk (xs ys : List (Int × Int)) (k : Int) : Bool := hitsB xs && (hitsB ys && decide (1 ≤ k ∧ k ≤ 16))
def MergeF (xs ys : List (Int × Int)) (k : Int) : List (Int × Int) := if mergeOk xs ys k then mergeF xs ys k else []
theorem MergeF_ok {xs ys : List (Int × Int)} {k : Int} (h : mergeOk xs ys k = true) : MergeF xs ys k = mergeF xs ys k := by unfold MergeF; rw [h]; rfl
theorem MergeF_no {xs ys : List (Int × Int)} {k : Int} (h : mergeOk xs ys k = false) : MergeF xs ys k = [] := by unfold MergeF; rw [h]; rfl
set_option maxHeartbeats 2000000 in
theorem iMergeHits (l0 h0 l1 h1 : Nat) (A B : Option Addr) (n c m d : Nat) (xs ys : List (Int × Int)) (k : Int) (w : World) (hx : RHits w l0 h0 A n c xs) (hy : RHits w l1 h1 B m d ys) :
    Calls Try.prog 29 #[.slice A n c, .slice B m d, .int .i64 k] w (RetHits (MergeF xs ys k) w) := by
  have HX := hid hx; have HY := hid hy
  have K1 := hid (fun W (h : RHits W l0 h0 A n c xs) => areHits l0 h0 A n c xs W h)
  have K2 := hid (fun W (h : RHits W l1 h1 B m d ys) => areHits l1 h1 B m d ys W h)
  have HM := hid (show mergeOk xs ys k = (hitsB xs && (hitsB ys && decide (1 ≤ k ∧ k ≤ 16))) from rfl)
  clear hx hy
  cases hb1 : hitsB xs with
  | false =>
    have HF := hid (MergeF_no (xs := xs) (ys := ys) (k := k) (by rw [HM.out, hb1]; rfl))
    rw [hb1] at K1
    clear hb1
    go_enter Try.func29, Try.ntmps29
    (go_wp2_with fail; (with_reducible refine (K1.out _ HX.out).mono ?_); rintro e w1 ⟨rfl, hc1⟩)
    go_wp2
    go_ret
    exact ⟨_, rfl, by rw [HF.out]; exact OSl.nil_ _, by (repeat (first | (with_reducible exact Chg.refl _ _) | ((with_reducible refine Chg.setNew ?_ _ ?_); rotate_left; first | (dsimp only; omega) | (simp; done) | (simp; omega)) | (with_reducible refine Chg.alloc ?_ _) | (with_reducible refine Chg.drew ?_) | (with_reducible refine Chg.drewN ?_ _) | (with_reducible refine Chg.no ?_ (by assumption)) | (with_reducible refine Chg.and_ ?_ (by assumption)) | ((with_reducible refine Chg.at_ ?_ (by assumption) ?_); rotate_left; (try simp only [World.size_alloc]); omega)))⟩
  | true =>
    rw [hb1] at K1
    cases hb2 : hitsB ys with
    | false =>
      have HF := hid (MergeF_no (xs := xs) (ys := ys) (k := k) (by rw [HM.out, hb2]; simp))
      rw [hb2] at K2
      clear hb1 hb2
      go_enter Try.func29, Try.ntmps29
      (go_wp2_with fail; (with_reducible refine (K1.out _ HX.out).mono ?_); rintro e w1 ⟨rfl, hc1⟩)
      (go_wp2_with fail; (with_reducible refine (K2.out _ (HY.out.no hc1)).mono ?_); rintro e w2 ⟨rfl, hc2⟩)
      go_wp2
      go_ret
      exact ⟨_, rfl, by rw [HF.out]; exact OSl.nil_ _, by (repeat (first | (with_reducible exact Chg.refl _ _) | ((with_reducible refine Chg.setNew ?_ _ ?_); rotate_left; first | (dsimp only; omega) | (simp; done) | (simp; omega)) | (with_reducible refine Chg.alloc ?_ _) | (with_reducible refine Chg.drew ?_) | (with_reducible refine Chg.drewN ?_ _) | (with_reducible refine Chg.no ?_ (by assumption)) | (with_reducible refine Chg.and_ ?_ (by assumption)) | ((with_reducible refine Chg.at_ ?_ (by assumption) ?_); rotate_left; (try simp only [World.size_alloc]); omega)))⟩
    | true =>
      rw [hb2] at K2
      by_cases a1 : k < 1
      · have HF := hid (MergeF_no (xs := xs) (ys := ys) (k := k) (by rw [HM.out, decide_eq_false (by omega)]; simp))
        clear hb1 hb2
        go_enter Try.func29, Try.ntmps29
        (go_wp2_with fail; (with_reducible refine (K1.out _ HX.out).mono ?_); rintro e w1 ⟨rfl, hc1⟩)
        (go_wp2_with fail; (with_reducible refine (K2.out _ (HY.out.no hc1)).mono ?_); rintro e w2 ⟨rfl, hc2⟩)
        go_wp2
        go_ret
        exact ⟨_, rfl, by rw [HF.out]; exact OSl.nil_ _, by (repeat (first | (with_reducible exact Chg.refl _ _) | ((with_reducible refine Chg.setNew ?_ _ ?_); rotate_left; first | (dsimp only; omega) | (simp; done) | (simp; omega)) | (with_reducible refine Chg.alloc ?_ _) | (with_reducible refine Chg.drew ?_) | (with_reducible refine Chg.drewN ?_ _) | (with_reducible refine Chg.no ?_ (by assumption)) | (with_reducible refine Chg.and_ ?_ (by assumption)) | ((with_reducible refine Chg.at_ ?_ (by assumption) ?_); rotate_left; (try simp only [World.size_alloc]); omega)))⟩
      · by_cases a2 : 16 < k
        · have HF := hid (MergeF_no (xs := xs) (ys := ys) (k := k) (by rw [HM.out, decide_eq_false (by omega)]; simp))
          have a1' : 1 ≤ k := by omega
          clear hb1 hb2 a1
          go_enter Try.func29, Try.ntmps29
          (go_wp2_with fail; (with_reducible refine (K1.out _ HX.out).mono ?_); rintro e w1 ⟨rfl, hc1⟩)
          (go_wp2_with fail; (with_reducible refine (K2.out _ (HY.out.no hc1)).mono ?_); rintro e w2 ⟨rfl, hc2⟩)
          go_wp2
          go_ret
          exact ⟨_, rfl, by rw [HF.out]; exact OSl.nil_ _, by (repeat (first | (with_reducible exact Chg.refl _ _) | ((with_reducible refine Chg.setNew ?_ _ ?_); rotate_left; first | (dsimp only; omega) | (simp; done) | (simp; omega)) | (with_reducible refine Chg.alloc ?_ _) | (with_reducible refine Chg.drew ?_) | (with_reducible refine Chg.drewN ?_ _) | (with_reducible refine Chg.no ?_ (by assumption)) | (with_reducible refine Chg.and_ ?_ (by assumption)) | ((with_reducible refine Chg.at_ ?_ (by assumption) ?_); rotate_left; (try simp only [World.size_alloc]); omega)))⟩
        · have HF := hid (MergeF_ok (xs := xs) (ys := ys) (k := k) (by rw [HM.out, hb1, hb2, decide_eq_true ⟨by omega, by omega⟩]; rfl))
          have HMS := hid (merge_sorted (hitsB_ok hb1) (hitsB_ok hb2) k)
          have a1' : 1 ≤ k := by omega
          have a2' : k ≤ 16 := by omega
          have hn16 : n ≤ 16 := by have := HX.out.len; have := hitsB_len hb1; omega
          have hm16 : m ≤ 16 := by have := HY.out.len; have := hitsB_len hb2; omega
          clear hb1 hb2 a1 a2
          go_enter Try.func29, Try.ntmps29
          (go_wp2_with fail; (with_reducible refine (K1.out _ HX.out).mono ?_); rintro e w1 ⟨rfl, hc1⟩)
          (go_wp2_with fail; (with_reducible refine (K2.out _ (HY.out.no hc1)).mono ?_); rintro e w2 ⟨rfl, hc2⟩)
          have hcw2 : Chg No w w2 := hc1.no hc2
          (go_wp2_with fail; (with_reducible refine (iMergeL _ _ _ _ _ _ _ _ _ _ xs ys k _ (HX.out.no hcw2) (HY.out.no hcw2) (by omega) (by omega)).mono ?_); rintro e w3 ⟨v3, rfl, ho3, hc3⟩)
          rw [HMS.out] at ho3
          have HO := hid (OSl.down ho3 (base' := w.heap.size) hcw2.size)
          clear ho3
          go_wp2
          go_ret
          exact ⟨_, rfl, by rw [HF.out]; exact HO.out, hcw2.no hc3⟩
end Go.Proofs.Ytkglmhhihpofiaa
