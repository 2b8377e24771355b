/- Fused ranks: FuseRanks of the program. -/
import Derived.Test.YtofbjganahbekaaFuse2
import Derived.Test.YtofbjganahbekaaSortI
import Derived.Test.YtofbjganahbekaaAdd
import Derived.Test.YtofbjganahbekaaMark
import Derived.Test.YtofbjganahbekaaPStore
import Derived.Deep.RegionLaw
import Derived.Laws.EntriesVeiled
import Derived.Deep.DeepCutAuto
namespace Go.Proofs.Ytofbjganahbekaa
open Go.RowKit Go.Sort Go.Shelf
set_option linter.unusedVariables false
set_option linter.unusedSimpArgs false
theorem RHits.inW {w : World} {lo hi n c : Nat} {A : Option Addr} {xs : List (Int × Int)} (h : RHits w lo hi A n c xs) : RHits w lo w.heap.size A n c xs :=
  RSl.below h (fun h0 b o hA => by
    obtain ⟨b', o', x, hA', _, _, _, hE⟩ := RSl.at_ h (k := 0) h0
    rw [hA] at hA'
    injection hA' with hA'
    injection hA' with e1 _ _
    subst e1
    exact cell_lt hE.1)
set_option maxRecDepth 100000 in
set_option maxHeartbeats 8000000 in
theorem iFuseL (l0 h0 l1 h1 : Nat) (A B : Option Addr) (n c m d : Nat) (xs ys : List (Int × Int)) (w : World) (hx : RHits w l0 h0 A n c xs) (hy : RHits w l1 h1 B m d ys) (hb1 : hitsB xs = true) (hb2 : hitsB ys = true) :
    Calls Try.prog 18 #[.slice A n c, .slice B m d] w (RetInts (fuseL xs ys) w) := by
  have hnc := hx.le; have hcm := hx.cap; have hmd := hy.le; have hdm := hy.cap
  have hn : n ≤ 16 := by have := hitsB_len hb1; have := hx.len; omega
  have hm : m ≤ 16 := by have := hitsB_len hb2; have := hy.len; omega
  have HX := hid hx.inW; have HY := hid hy.inW
  have K1 := hid (fun W (h : RHits W l0 w.heap.size A n c xs) => areHits l0 w.heap.size A n c xs W h)
  have K2 := hid (fun W (h : RHits W l1 w.heap.size B m d ys) => areHits l1 w.heap.size B m d ys W h)
  rw [hb1] at K1
  rw [hb2] at K2
  obtain ⟨S, hS⟩ : ∃ S, ([] : List (Int × Int)) ++ xs ++ ys = S := ⟨_, rfl⟩
  obtain ⟨N, hN⟩ : ∃ N, S.length = N := ⟨_, rfl⟩
  have hN2 : N ≤ 32 := by rw [← hN, ← hS, List.length_append, List.length_append, List.length_nil, hx.len, hy.len]; omega
  have HS := hid hS
  have HN := hid hN
  have HLX := hid (show xs.length = n from hx.len)
  have HFL := hid (show fuseL xs ys = (dedI (S.map Prod.fst)).mergeSort (fun x y => !(ltOf (cmpF (sumF xs ys))) y x) from by unfold fuseL; rw [← hS, List.nil_append])
  have BA := hid (Box.alloc (Box.new (w := w) (g := w.heap.size) [.slice A n c] 24 rfl) (.cells #[.slice B m d] 24))
  have BB := hid (Box.new (w := w.alloc (.cells #[.slice A n c] 24)) (g := w.heap.size + 1) [.slice B m d] 24 (by simp))
  have q0 : Chg No w ((w.alloc (.cells #[.slice A n c] 24)).alloc (.cells #[.slice B m d] 24)) := ((Chg.refl No w).alloc _).alloc _
  have HX0 := hid (HX.out.no q0); have HY0 := hid (HY.out.no q0)
  have EG := hid (enters_of (P := Try.prog) Try.func43 (by kernel_rfl) rfl)
  clear hx hy hb1 hb2 hS hN
  go_enter Try.func18, Try.ntmps18
  (go_wp2_with fail; (with_reducible refine (K1.out _ HX0.out).mono ?_); rintro e w1 ⟨rfl, hc1⟩)
  have ca1 : w1.cell? ⟨w.heap.size, 0, none⟩ = some (.slice A n c) := (BA.out.no hc1).cell 0
  have cb1 : w1.cell? ⟨w.heap.size + 1, 0, none⟩ = some (.slice B m d) := (BB.out.no hc1).cell 0
  (go_wp2_with fail; (with_reducible refine (K2.out _ (HY0.out.no hc1)).mono ?_); rintro e w2 ⟨rfl, hc2⟩)
  have q2 : Chg No w w2 := (q0.no hc1).no hc2
  have BA2 := hid ((BA.out.no hc1).no hc2)
  have BB2 := hid ((BB.out.no hc1).no hc2)
  have HX2 := hid (HX.out.no q2); have HY2 := hid (HY.out.no q2)
  have la := BA2.out.lt
  have lb := BB2.out.lt
  clear ca1 cb1 hc1 hc2 K1 K2 HX0 HY0 q0
  have ca2 : w2.cell? ⟨w.heap.size, 0, none⟩ = some (.slice A n c) := BA2.out.cell 0
  have cb2 : w2.cell? ⟨w.heap.size + 1, 0, none⟩ = some (.slice B m d) := BB2.out.cell 0
  go_wp2_with fail
  go_cut [22, 23, 24] (fun s22 s23 s24 wx => ∃ (A4 : Option Addr) (c4 : Nat), s22 = .slice A4 N c4 ∧ s23 = .int .i64 N ∧ s24 = .int .i64 0 ∧ Chg No (w2.alloc (.cells #[] 3)) wx ∧ Hid (OHits wx (w2.heap.size + 1) (.slice A4 N c4) S))
  case first =>
    go_region_law (first | ((refine step_push _ rfl (.tmp 18) (.tmp 19) 24 rfl 39 2 16 (.agg #[.int .i64 0, .int .i64 0]) cHit Try.underlying24 infoHit rfl (by omega) (by omega) (fun _ => rfl) oneHit (w2.heap.size + 1) (.slice (some ⟨_, 0, none⟩) 0 0) [] rfl ?_ A n c xs rfl ?_ ?_ ?_ ?_; (refine OSl.lit (enc := cHit) (n := 0) [] [] (fun _ => rfl) rfl rfl (by omega) (by simp) ?_); (first | exact heap_top1 (by simp) | exact heap_under1 (by simp) | exact heap_top (by simp) | exact heap_under (by simp)); (refine src_hits (HX2.out.no ?_)); (repeat (first | (with_reducible exact Chg.refl _ _) | ((with_reducible refine Chg.setNew ?_ _ ?_); rotate_left; first | (dsimp only; omega) | (simp; done) | (simp; omega)) | (with_reducible refine Chg.alloc ?_ _) | (with_reducible refine Chg.drew ?_) | (with_reducible refine Chg.drewN ?_ _) | (with_reducible refine Chg.no ?_ (by assumption)) | (with_reducible refine Chg.and_ ?_ (by assumption)) | ((with_reducible refine Chg.at_ ?_ (by assumption) ?_); rotate_left; (try simp only [World.size_alloc]); omega))); (simp; omega); simp; intro v3 w3 ho3 hg3 hb3; have hcA : Chg No (w2.alloc (.cells #[] 3)) w3 := Chg.grown (by (repeat (first | (with_reducible exact Chg.refl _ _) | ((with_reducible refine Chg.setNew ?_ _ ?_); rotate_left; first | (dsimp only; omega) | (simp; done) | (simp; omega)) | (with_reducible refine Chg.alloc ?_ _) | (with_reducible refine Chg.drew ?_) | (with_reducible refine Chg.drewN ?_ _) | (with_reducible refine Chg.no ?_ (by assumption)) | (with_reducible refine Chg.and_ ?_ (by assumption)) | ((with_reducible refine Chg.at_ ?_ (by assumption) ?_); rotate_left; (try simp only [World.size_alloc]); omega)))) hg3 (fun k hk hlt => by have h8 := Nat.lt_of_lt_of_le hlt (Nat.le_of_eq (World.size_alloc _ _)); injection hk with hk; simp only [] at hk; omega); have cb3 : w3.cell? ⟨w.heap.size + 1, 0, none⟩ = some (.slice B m d) := (BB2.out.no (((Chg.refl No w2).alloc _).no hcA)).cell 0)) | ((refine step_push _ rfl (.tmp 20) (.tmp 21) 24 rfl 39 2 16 (.agg #[.int .i64 0, .int .i64 0]) cHit Try.underlying24 infoHit rfl (by omega) (by omega) (fun _ => rfl) oneHit (w2.heap.size + 1) _ ([] ++ xs) rfl ho3 B m d ys rfl ?_ ?_ ?_ ?_; (refine src_hits (HY2.out.no (((Chg.refl No w2).alloc _).no hcA))); (have := HLX.out; simp; omega); (have := hcA.size; simp at this ⊢; omega); intro v4 w4 ho4 hg4 hb4; have hcB : Chg No (w2.alloc (.cells #[] 3)) w4 := Chg.pushed hcA hg4 ho3 (by simp); rw [HS.out] at ho4; obtain ⟨A4, c4, hv4, hl4, hm4, hA4⟩ := OSl.form ho4; rw [HN.out] at hv4; subst hv4; unfold maxLen at hm4)))
    all_goals (go_wp2_with fail; go_meet; exact ⟨_, _, rfl, rfl, rfl, hcB, ho4⟩)
  case rest =>
    obtain ⟨A4, c4, rfl, rfl, rfl, hc, HO4⟩ := hcut
    obtain ⟨A8, c8, hv8, hr8⟩ := OHits.read HO4.out
    rw [HN.out] at hv8 hr8
    injection hv8 with e1 e2 e3
    subst e1 e3
    have hm4 := hr8.cap; have hk4 := hr8.le
    have HR := hid hr8
    have hcw : Chg No w wc := (q2.alloc _).no hc
    have HI0 := hid (show OInts wc w2.heap.size (.slice (some ⟨w2.heap.size, 0, none⟩) 0 0) [] from OSl.no (OSl.lit (T := 3) (sz := 1) (enc := cInt) (w := w2.alloc (.cells #[] 3)) (base := w2.heap.size) (n := 0) [] [] (fun _ => rfl) rfl rfl (by omega) (Nat.le_refl _) (heap_top rfl)) hc)
    have sc := hc.size
    simp only [World.size_alloc] at sc
    have BAc := hid ((BA2.out.no ((Chg.refl No w2).alloc (.cells #[] 3))).no hc)
    have BBc := hid ((BB2.out.no ((Chg.refl No w2).alloc (.cells #[] 3))).no hc)
    have HB0 := hid (show ∀ k, (Value.slice (some ⟨w2.heap.size, 0, none⟩) 0 0).ownBlock = some k → k = w2.heap.size ∨ wc.heap.size ≤ k from fun k hk => by injection hk with hk; exact Or.inl hk.symm)
    clear hr8 e2 HO4 ca2 cb2 hc BA2 BB2 BA BB
    go_wp2
    go_loopw [5, 24] (fun v i wr => ∃ j : Nat, j ≤ N ∧ i = .int .i64 j ∧ Chg (fun k => k = w2.heap.size) wc wr ∧ Hid (OInts wr w2.heap.size v (dedI ((S.take j).map Prod.fst))) ∧ Hid (∀ k, v.ownBlock = some k → k = w2.heap.size ∨ wc.heap.size ≤ k)) (fun _ i _ => N - (intOf i).toNat)
    case atStart => exact ⟨0, Nat.zero_le _, rfl, Chg.refl _ _, HI0, HB0⟩
    case round =>
      clear HI0 HB0
      obtain ⟨j, hj, rfl, hcc, HO, HB⟩ := hrel
      obtain ⟨wo, rfl⟩ : ∃ W : World, W = wr := ⟨_, rfl⟩
      have so := hcc.size
      have hdl : (dedI ((S.take j).map Prod.fst)).length ≤ 32 := by
        have h9 := (dedI_spec ((S.take j).map Prod.fst) _ rfl).2.2
        rw [List.length_map, List.length_take] at h9
        omega
      by_cases hlt : j < N
      · obtain ⟨b, o, x, rfl, _, _, hxk, hE⟩ := (RHits.keep HR.out hcc (fun k h1 h2 (h3 : k = w2.heap.size) => by omega)).at_ hlt
        obtain ⟨x1, x2⟩ := x
        have hE1 : wo.cell? ⟨b, o + j * 2, none⟩ = some (.int .i64 x1) := hE.1
        have hE2 : wo.cell? ⟨b, o + j * 2 + 1, none⟩ = some (.int .i64 x2) := hE.2
        have HD := hid (show dedI ((S.take (j + 1)).map Prod.fst) = (if x1 ∈ dedI ((S.take j).map Prod.fst) then dedI ((S.take j).map Prod.fst) else dedI ((S.take j).map Prod.fst) ++ [x1]) from by rw [take_snoc hxk, List.map_append]; exact dedI_snoc _ _)
        obtain ⟨D, hD⟩ : ∃ D, dedI ((S.take j).map Prod.fst) = D := ⟨_, rfl⟩
        rw [hD] at HO HD hdl
        obtain ⟨A9, c9, hv9, hr9⟩ := OInts.read HO.out
        subst hv9
        have hm9 := hr9.cap; have hk9 := hr9.le
        have HR9 := hid hr9
        clear hxk hE hD hr9
        have hcall := containsI _ _ A9 D.length c9 D x1 (wo.alloc (.cells #[.int .i64 x1, .int .i64 x2] 39)) (HR9.out.no ((Chg.refl _ _).alloc _))
        by_cases hin : x1 ∈ D
        · rw [decide_eq_true hin] at hcall
          have HC := hid hcall
          have HD2 := HD.out
          rw [if_pos hin] at HD2
          have HD3 := hid HD2
          clear hcall hin HD HD2
          (go_wp2_with fail; (with_reducible refine HC.out.mono ?_); rintro e w5 ⟨rfl, rfl⟩)
          have hc6 : Chg (fun k => k = w2.heap.size) wc (wo.alloc (.cells #[.int .i64 x1, .int .i64 x2] 39)) := hcc.alloc _
          have h9 := OSl.no HO.out ((Chg.refl No wo).alloc (.cells #[.int .i64 x1, .int .i64 x2] 39))
          have HO5 : Hid (OInts (wo.alloc (.cells #[.int .i64 x1, .int .i64 x2] 39)) w2.heap.size (.slice A9 D.length c9) (dedI ((S.take (j + 1)).map Prod.fst))) := by show OInts _ _ _ _; rw [HD3.out]; exact h9
          clear HO h9
          go_wp2
          go_roundw
          case rel => exact ⟨j + 1, by omega, by go_num, hc6, HO5, HB⟩
          case measure => simp [intOf]; omega
        · rw [decide_eq_false hin] at hcall
          have HC := hid hcall
          have HD2 := HD.out
          rw [if_neg hin] at HD2
          have HD3 := hid HD2
          clear hcall hin HD HD2
          (go_wp2_with fail; (with_reducible refine HC.out.mono ?_); rintro e w5 ⟨rfl, rfl⟩)
          have HH := hid (OSl.alloc (OSl.alloc HO.out (.cells #[.int .i64 x1, .int .i64 x2] 39)) (.cells #[.int .i64 x1] 3))
          have HX1 := hid (Src.one (sz := 1) (enc := cInt) (y := x1) (Box.new (w := wo.alloc (.cells #[.int .i64 x1, .int .i64 x2] 39)) (g := wo.heap.size + 1) [.int .i64 x1] 3 (by simp)) rfl)
          go_wp2_with (at_builtin; refine wpList_push _ rfl _ _ 30 rfl 3 1 8 (.int .i64 0) cInt Try.underlying30 infoInt rfl (by omega) (by omega) (fun _ => rfl) oneInt w2.heap.size _ D rfl HH.out _ 1 1 [x1] rfl HX1.out (by omega) (by simp; omega) ?_; intro v' w6 ho hg2 hb2)
          have hc7 : Chg (fun k => k = w2.heap.size) wc w6 := Chg.grown ((hcc.alloc _).alloc _) hg2 (fun k hk hlt => by
            rcases HB.out k hk with h | h
            · exact h
            · omega)
          have HB7 : Hid (∀ k, v'.ownBlock = some k → k = w2.heap.size ∨ wc.heap.size ≤ k) := fun k hk => by
            rcases hb2 k hk with h | h
            · exact HB.out k h
            · simp only [World.size_alloc] at h; exact Or.inr (by omega)
          have HO5 : Hid (OInts w6 w2.heap.size v' (dedI ((S.take (j + 1)).map Prod.fst))) := by show OInts _ _ _ _; rw [HD3.out]; exact ho
          clear ho hg2 hb2 HX1 HH HO HB
          go_wp2
          go_roundw
          case rel => exact ⟨j + 1, by omega, by go_num, hc7, HO5, HB7⟩
          case measure => simp [intOf]; omega
      · have h9 := HO.out
        have hT : S.take j = S := List.take_of_length_le (by rw [HN.out]; omega)
        rw [hT] at h9 hdl
        obtain ⟨D, hD⟩ : ∃ D, dedI (S.map Prod.fst) = D := ⟨_, rfl⟩
        rw [hD] at h9 hdl HFL
        obtain ⟨A9, c9, hv9, hr9⟩ := OInts.read h9
        subst hv9
        have hm9 := hr9.cap; have hk9 := hr9.le
        have HO9 := hid h9
        have hcw9 : Chg No w wo := hcw.trans hcc (fun i hi (h : i = w2.heap.size) => by omega)
        have HXo := hid (HX.out.no hcw9); have HYo := hid (HY.out.no hcw9)
        have cao : wo.cell? ⟨w.heap.size, 0, none⟩ = some (.slice A n c) := cell_keep hcc (BAc.out.cell 0) (fun (h : w.heap.size = w2.heap.size) => by omega)
        have cbo : wo.cell? ⟨w.heap.size + 1, 0, none⟩ = some (.slice B m d) := cell_keep hcc (BBc.out.cell 0) (fun (h : w.heap.size + 1 = w2.heap.size) => by omega)
        have KS := hid (fun W5 (hW5 : Chg No wo W5) (cf5 : W5.cell? ⟨wo.heap.size, 0, none⟩ = some (.func (.func 40) #[] #[.pointer (some ⟨w.heap.size, 0, none⟩), .pointer (some ⟨w.heap.size + 1, 0, none⟩)])) => sortFuncI w2.heap.size A9 D.length c9 D (cmpF (sumF xs ys)) (swoF _) (totF _) 43 #[.pointer (some ⟨wo.heap.size, 0, none⟩)] W5 (OSl.no HO9.out hW5) (by omega) EG.out (fun W hW x y => fuse2 l0 w.heap.size l1 w.heap.size A B n c m d xs ys x y w.heap.size (w.heap.size + 1) wo.heap.size W ((HXo.out.no hW5).keep hW (fun k h1 h2 h3 => by have := (World.ownsRow.lt HO9.out k h3).1; omega)) ((HYo.out.no hW5).keep hW (fun k h1 h2 h3 => by have := (World.ownsRow.lt HO9.out k h3).1; omega)) (by omega) (by omega) (cell_keep hW (cell_keep hW5 cao (fun e => e)) (fun h3 => by have := (World.ownsRow.lt HO9.out _ h3).1; omega)) (cell_keep hW (cell_keep hW5 cbo (fun e => e)) (fun h3 => by have := (World.ownsRow.lt HO9.out _ h3).1; omega)) (cell_keep hW cf5 (fun h3 => by have := (World.ownsRow.lt HO9.out _ h3).2; omega))))
        clear hT h9 hD hr9 HO HB
        (go_wp2_with fail; (refine (KS.out (wo.alloc (.cells #[.func (.func 40) #[] #[.pointer (some ⟨w.heap.size, 0, none⟩), .pointer (some ⟨w.heap.size + 1, 0, none⟩)]] 52)) ((Chg.refl No wo).alloc _) ((Box.new (w := wo) [.func (.func 40) #[] #[.pointer (some ⟨w.heap.size, 0, none⟩), .pointer (some ⟨w.heap.size + 1, 0, none⟩)]] 52 rfl).cell 0)).mono ?_); rintro e w6 ⟨rfl, ho6, hc6⟩)
        have hfin : Chg No w w6 := by
          refine Chg.trans ?_ hc6 (fun i hi h3 => by have := (World.ownsRow.lt HO9.out i h3).1; omega)
          refine hcw9.no ?_
          (repeat (first | (with_reducible exact Chg.refl _ _) | ((with_reducible refine Chg.setNew ?_ _ ?_); rotate_left; first | (dsimp only; omega) | (simp; done) | (simp; omega)) | (with_reducible refine Chg.alloc ?_ _) | (with_reducible refine Chg.drew ?_) | (with_reducible refine Chg.drewN ?_ _) | (with_reducible refine Chg.no ?_ (by assumption)) | (with_reducible refine Chg.and_ ?_ (by assumption)) | ((with_reducible refine Chg.at_ ?_ (by assumption) ?_); rotate_left; (try simp only [World.size_alloc]); omega)))
        have HO6 := hid (OSl.down ho6 (base' := w.heap.size) (by omega))
        clear ho6
        go_wp2
        go_ret
        exact ⟨_, rfl, by rw [HFL.out]; exact HO6.out, hfin⟩
set_option maxHeartbeats 4000000 in
theorem iFuseRanks (l0 h0 l1 h1 : Nat) (A B : Option Addr) (n c m d : Nat) (xs ys : List (Int × Int)) (w : World) (hx : RHits w l0 h0 A n c xs) (hy : RHits w l1 h1 B m d ys) :
    Calls Try.prog 18 #[.slice A n c, .slice B m d] w (RetInts (FuseF xs ys) w) := by
  cases hb1 : hitsB xs with
  | false =>
    have hnc := hx.le; have hcm := hx.cap; have hmd := hy.le; have hdm := hy.cap
    have HF := hid (FuseF_no1 (ys := ys) hb1)
    have K1 := hid (fun W (h : RHits W l0 h0 A n c xs) => areHits l0 h0 A n c xs W h)
    rw [hb1] at K1
    have HX := hid (hx.no ((((Chg.refl No w).alloc (.cells #[.slice A n c] 24))).alloc (.cells #[.slice B m d] 24)))
    clear hb1 hx hy
    go_enter Try.func18, Try.ntmps18
    (go_wp2_with fail; (with_reducible refine (K1.out _ HX.out).mono ?_); rintro e w1 ⟨rfl, hc1⟩)
    go_wp2
    go_ret
    exact ⟨_, rfl, by rw [HF.out]; exact OSl.nil_ _, by (repeat (first | (with_reducible exact Chg.refl _ _) | ((with_reducible refine Chg.setNew ?_ _ ?_); rotate_left; first | (dsimp only; omega) | (simp; done) | (simp; omega)) | (with_reducible refine Chg.alloc ?_ _) | (with_reducible refine Chg.drew ?_) | (with_reducible refine Chg.drewN ?_ _) | (with_reducible refine Chg.no ?_ (by assumption)) | (with_reducible refine Chg.and_ ?_ (by assumption)) | ((with_reducible refine Chg.at_ ?_ (by assumption) ?_); rotate_left; (try simp only [World.size_alloc]); omega)))⟩
  | true =>
    cases hb2 : hitsB ys with
    | true =>
      rw [FuseF_ok hb1 hb2]
      exact iFuseL l0 h0 l1 h1 A B n c m d xs ys w hx hy hb1 hb2
    | false =>
      have hnc := hx.le; have hcm := hx.cap; have hmd := hy.le; have hdm := hy.cap
      have HF := hid (FuseF_no2 (xs := xs) hb2)
      have K1 := hid (fun W (h : RHits W l0 h0 A n c xs) => areHits l0 h0 A n c xs W h)
      rw [hb1] at K1
      have K2 := hid (fun W (h : RHits W l1 h1 B m d ys) => areHits l1 h1 B m d ys W h)
      rw [hb2] at K2
      have HX := hid (hx.no ((((Chg.refl No w).alloc (.cells #[.slice A n c] 24))).alloc (.cells #[.slice B m d] 24)))
      have HY := hid (hy.no ((((Chg.refl No w).alloc (.cells #[.slice A n c] 24))).alloc (.cells #[.slice B m d] 24)))
      have BB := hid (Box.new (w := w.alloc (.cells #[.slice A n c] 24)) (g := w.heap.size + 1) [.slice B m d] 24 (by simp))
      clear hb1 hb2 hx hy
      go_enter Try.func18, Try.ntmps18
      (go_wp2_with fail; (with_reducible refine (K1.out _ HX.out).mono ?_); rintro e w1 ⟨rfl, hc1⟩)
      have cb1 : w1.cell? ⟨w.heap.size + 1, 0, none⟩ = some (.slice B m d) := (BB.out.no hc1).cell 0
      (go_wp2_with fail; (with_reducible refine (K2.out _ (HY.out.no hc1)).mono ?_); rintro e w2 ⟨rfl, hc2⟩)
      go_wp2
      go_ret
      exact ⟨_, rfl, by rw [HF.out]; exact OSl.nil_ _, by (repeat (first | (with_reducible exact Chg.refl _ _) | ((with_reducible refine Chg.setNew ?_ _ ?_); rotate_left; first | (dsimp only; omega) | (simp; done) | (simp; omega)) | (with_reducible refine Chg.alloc ?_ _) | (with_reducible refine Chg.drew ?_) | (with_reducible refine Chg.drewN ?_ _) | (with_reducible refine Chg.no ?_ (by assumption)) | (with_reducible refine Chg.and_ ?_ (by assumption)) | ((with_reducible refine Chg.at_ ?_ (by assumption) ?_); rotate_left; (try simp only [World.size_alloc]); omega)))⟩
end Go.Proofs.Ytofbjganahbekaa
