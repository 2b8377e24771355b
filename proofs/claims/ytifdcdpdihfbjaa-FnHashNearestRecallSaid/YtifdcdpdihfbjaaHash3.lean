/- Hashes: BucketOf, the program's and the reference's. -/
import Derived.Test.YtifdcdpdihfbjaaHash2
namespace Go.Proofs.Ytifdcdpdihfbjaa
open Go.RowKit Go.Shelf
set_option linter.unusedVariables false
set_option linter.unusedSimpArgs false
theorem canB3 (l : List It) (at_ : List Int) : canB l 3 at_ 1 = (storeB l && vecB at_) := by
  unfold canB kindB; simp
theorem bucketOk_eq (ps : List (List Int)) (l : List It) (at_ : List Int) (bt : Int) : bucketOk ps l at_ bt = (planesB ps && (canB l 3 at_ 1 && decide (0 ≤ bt ∧ bt ≤ 6))) := by
  rw [canB3]; unfold bucketOk; rw [Bool.and_assoc]
theorem ointsN (w : World) (base : Nat) : OInts w base (.slice none 0 0) [] := OSl.nil_ _
set_option maxRecDepth 100000 in
set_option maxHeartbeats 4000000 in
theorem iBucketOf (lp hp : Nat) (AP : Option Addr) (np cp : Nat) (ps : List (List Int)) (l0 h0 : Nat) (A : Option Addr) (n c : Nat) (xs : List It) (l1 h1 : Nat) (A' : Option Addr) (n' c' : Nat) (at_ : List Int) (bt : Int) (w : World)
    (hps : RRows w lp hp AP np cp ps) (hx : RItems w l0 h0 A n c xs) (hy : RInts w l1 h1 A' n' c' at_) :
    Calls Try.prog 40 #[.slice AP np cp, .slice A n c, .slice A' n' c', .int .i64 bt] w (RetInts (bucketF ps xs at_ bt) w) := by
  have HX := hid hx; have HY := hid hy; have HP := hid hps
  have K1 := hid (fun W (h : RRows W lp hp AP np cp ps) => areVectors lp hp AP np cp ps W h)
  have K2 := hid (fun W (h : RItems W l0 h0 A n c xs) (h2 : RInts W l1 h1 A' n' c' at_) => iCanFind l0 h0 A n c xs l1 h1 A' n' c' at_ 3 1 W h h2)
  have HB := hid (bucketOk_eq ps xs at_ bt)
  clear hps hx hy
  cases hb1 : planesB ps with
  | false =>
    have HF := hid (bucketF_no (ps := ps) (l := xs) (at_ := at_) (bt := bt) (by rw [HB.out, hb1]; rfl))
    rw [hb1] at K1
    clear hb1
    go_enter Try.func40, Try.ntmps40
    (go_wp2_with fail; (with_reducible refine (K1.out _ HP.out).mono ?_); rintro e w1 ⟨rfl, hc1⟩)
    go_wp2
    go_ret
    exact ⟨_, rfl, by rw [HF.out]; exact ointsN _ _, by (repeat (first | (with_reducible exact Chg.refl _ _) | ((with_reducible refine Chg.setNew ?_ _ ?_); rotate_left; first | (dsimp only; omega) | (simp; done) | (simp; omega)) | (with_reducible refine Chg.alloc ?_ _) | (with_reducible refine Chg.drew ?_) | (with_reducible refine Chg.drewN ?_ _) | (with_reducible refine Chg.no ?_ (by assumption)) | (with_reducible refine Chg.and_ ?_ (by assumption)) | ((with_reducible refine Chg.at_ ?_ (by assumption) ?_); rotate_left; (try simp only [World.size_alloc]); omega)))⟩
  | true =>
    cases hb2 : canB xs 3 at_ 1 with
    | false =>
      have HF := hid (bucketF_no (ps := ps) (l := xs) (at_ := at_) (bt := bt) (by rw [HB.out, hb2]; simp))
      rw [hb1] at K1
      rw [hb2] at K2
      clear hb1 hb2
      go_enter Try.func40, Try.ntmps40
      (go_wp2_with fail; (with_reducible refine (K1.out _ HP.out).mono ?_); rintro e w1 ⟨rfl, hc1⟩)
      (go_wp2_with fail; (with_reducible refine (K2.out _ (HX.out.no hc1) (HY.out.no hc1)).mono ?_); rintro e w2 ⟨rfl, hc2⟩)
      go_wp2
      go_ret
      exact ⟨_, rfl, by rw [HF.out]; exact ointsN _ _, by (repeat (first | (with_reducible exact Chg.refl _ _) | ((with_reducible refine Chg.setNew ?_ _ ?_); rotate_left; first | (dsimp only; omega) | (simp; done) | (simp; omega)) | (with_reducible refine Chg.alloc ?_ _) | (with_reducible refine Chg.drew ?_) | (with_reducible refine Chg.drewN ?_ _) | (with_reducible refine Chg.no ?_ (by assumption)) | (with_reducible refine Chg.and_ ?_ (by assumption)) | ((with_reducible refine Chg.at_ ?_ (by assumption) ?_); rotate_left; (try simp only [World.size_alloc]); omega)))⟩
    | true =>
      by_cases a1 : bt < 0
      · have HF := hid (bucketF_no (ps := ps) (l := xs) (at_ := at_) (bt := bt) (by rw [HB.out, decide_eq_false (by omega)]; simp))
        rw [hb1] at K1
        rw [hb2] at K2
        clear hb1 hb2
        go_enter Try.func40, Try.ntmps40
        (go_wp2_with fail; (with_reducible refine (K1.out _ HP.out).mono ?_); rintro e w1 ⟨rfl, hc1⟩)
        (go_wp2_with fail; (with_reducible refine (K2.out _ (HX.out.no hc1) (HY.out.no hc1)).mono ?_); rintro e w2 ⟨rfl, hc2⟩)
        go_wp2
        go_ret
        exact ⟨_, rfl, by rw [HF.out]; exact ointsN _ _, by (repeat (first | (with_reducible exact Chg.refl _ _) | ((with_reducible refine Chg.setNew ?_ _ ?_); rotate_left; first | (dsimp only; omega) | (simp; done) | (simp; omega)) | (with_reducible refine Chg.alloc ?_ _) | (with_reducible refine Chg.drew ?_) | (with_reducible refine Chg.drewN ?_ _) | (with_reducible refine Chg.no ?_ (by assumption)) | (with_reducible refine Chg.and_ ?_ (by assumption)) | ((with_reducible refine Chg.at_ ?_ (by assumption) ?_); rotate_left; (try simp only [World.size_alloc]); omega)))⟩
      · by_cases a2 : 6 < bt
        · have HF := hid (bucketF_no (ps := ps) (l := xs) (at_ := at_) (bt := bt) (by rw [HB.out, decide_eq_false (by omega)]; simp))
          have a1' : 0 ≤ bt := by omega
          rw [hb1] at K1
          rw [hb2] at K2
          clear hb1 hb2 a1
          go_enter Try.func40, Try.ntmps40
          (go_wp2_with fail; (with_reducible refine (K1.out _ HP.out).mono ?_); rintro e w1 ⟨rfl, hc1⟩)
          (go_wp2_with fail; (with_reducible refine (K2.out _ (HX.out.no hc1) (HY.out.no hc1)).mono ?_); rintro e w2 ⟨rfl, hc2⟩)
          go_wp2
          go_ret
          exact ⟨_, rfl, by rw [HF.out]; exact ointsN _ _, by (repeat (first | (with_reducible exact Chg.refl _ _) | ((with_reducible refine Chg.setNew ?_ _ ?_); rotate_left; first | (dsimp only; omega) | (simp; done) | (simp; omega)) | (with_reducible refine Chg.alloc ?_ _) | (with_reducible refine Chg.drew ?_) | (with_reducible refine Chg.drewN ?_ _) | (with_reducible refine Chg.no ?_ (by assumption)) | (with_reducible refine Chg.and_ ?_ (by assumption)) | ((with_reducible refine Chg.at_ ?_ (by assumption) ?_); rotate_left; (try simp only [World.size_alloc]); omega)))⟩
        · have a1' : 0 ≤ bt := by omega
          have a2' : bt ≤ 6 := by omega
          have HF := hid (bucketF_ok (ps := ps) (l := xs) (at_ := at_) (bt := bt) (by rw [HB.out, hb1, hb2, decide_eq_true ⟨a1', a2'⟩]; rfl))
          have hpv := (planesB_iff ps).1 hb1
          have hcn : storeB xs = true ∧ vecB at_ = true := by
            have h9 := canB3 xs at_
            rw [hb2] at h9
            have h9 := h9.symm
            rwa [Bool.and_eq_true] at h9
          have hn16 : n ≤ 16 := by have := HX.out.len; have := storeB_len hcn.1; omega
          have hn4 : n' = 4 := by have h9 : at_.length = n' := HY.out.len; have := vecB_len hcn.2; omega
          have hp6 : np ≤ 6 := by have h9 : ps.length = np := HP.out.len; omega
          have HPV := hid hpv.2
          have HXV := hid (show ∀ x ∈ xs, vecB x.vec = true from fun x hx => by
            obtain ⟨i, hi⟩ := List.getElem?_of_mem hx
            exact ((itemB_iff _).1 (storeB_item hcn.1 hi)).2.1)
          have SA := hid (vecB_small hcn.2)
          subst hn4
          rw [hb1] at K1
          rw [hb2] at K2
          have j1 : decide (bt < 0) = false := decide_eq_false a1
          have j2 : decide (6 < bt) = false := decide_eq_false a2
          clear hb1 hb2 a1 a2 hpv hcn
          go_enter Try.func40, Try.ntmps40
          (go_wp2_with fail; (with_reducible refine (K1.out _ HP.out).mono ?_); rintro e w1 ⟨rfl, hc1⟩)
          (go_wp2_with fail; (with_reducible refine (K2.out _ (HX.out.no hc1) (HY.out.no hc1)).mono ?_); rintro e w2 ⟨rfl, hc2⟩)
          have hcw2 : Chg No w w2 := hc1.no hc2
          have hcA : Chg No w (w2.alloc (.cells #[] 3)) := hcw2.alloc _
          (go_wp2_with fail; (with_reducible refine (iBucketL _ _ _ _ _ ps _ _ _ _ _ xs _ _ _ _ at_ bt _ (HP.out.no hcA) (HX.out.no hcA) (HY.out.no hcA) (by omega) HPV.out hp6 HXV.out SA.out).mono ?_); rintro e w3 ⟨v3, qs, rfl, hqs, ho3, hi3, hc3⟩)
          have s2 := hcw2.size
          have s3 := hc3.size
          have HO0 := hid (OSl.no (OSl.lit (T := 3) (enc := cInt) (w := w2.alloc (.cells #[] 3)) (base := w.heap.size) (n := 0) [] [] (fun _ => rfl) rfl rfl (by omega) s2 (heap_top rfl)) hc3)
          have hlb : qs.length ≤ 16 := by
            have h9 := List.length_filter_le (nearHB ps at_ bt) xs
            have h8 := HX.out.len
            have h7 := congrArg List.length hqs
            unfold bucketL at h7
            rw [List.length_map] at h7
            omega
          have HFQ : Hid (bucketF ps xs at_ bt = qs.map (·.it.key)) := by show _ = _; rw [HF.out, ← hqs, List.map_map]; rfl
          obtain ⟨A3, c3, hv3, hl3, hm3, hA3⟩ := OSl.form ho3
          subst hv3
          unfold maxLen at hm3
          have HQ := hid ho3
          have HA3 := hid hA3
          have hcw3 : Chg No w w3 := hcA.no hc3
          simp only [World.size_alloc] at s3
          clear ho3 hi3 hqs hA3 HF
          go_wp2
          go_loopw [9, 36] (fun v i wr => ∃ k : Nat, k ≤ qs.length ∧ i = .int .i64 k ∧ Chg No w wr ∧ Chg (fun j => j = w2.heap.size) w3 wr ∧ Hid (OInts wr w.heap.size v ((qs.take k).map (·.it.key))) ∧ Hid (∀ j, v.ownBlock = some j → j = w2.heap.size ∨ w3.heap.size ≤ j)) (fun _ i _ => qs.length - (intOf i).toNat)
          case atStart => exact ⟨0, Nat.zero_le _, rfl, hcw3, Chg.refl _ _, by show OInts _ _ _ _; rw [List.take_zero]; exact HO0.out, fun j hj => by injection hj with hj; exact .inl hj.symm⟩
          case round =>
            clear HO0
            obtain ⟨k, hk, rfl, hc, hc3', HO, HW⟩ := hrel
            obtain ⟨wo, rfl⟩ : ∃ W : World, W = wr := ⟨_, rfl⟩
            by_cases hlt : k < qs.length
            · obtain ⟨g, rfl, hgb, hgl⟩ := HA3.out (by omega)
              have HQ2 := hid (OSl.keep HQ.out hc3' (fun j h1 h2 (h3 : j = _) => by simp only [World.size_alloc] at h1; omega))
              obtain ⟨z, hz⟩ : ∃ z, qs[k]? = some z := ⟨_, List.getElem?_eq_getElem hlt⟩
              have hE1 : wo.cell? ⟨g, k * 3, none⟩ = some (.int .i64 z.it.key) := HQ2.out.cell (fun _ => rfl) (i := 0) hz rfl
              have hE2 : wo.cell? ⟨g, k * 3 + 1, none⟩ = some (.slice z.A z.n z.c) := HQ2.out.cell (fun _ => rfl) (i := 1) hz rfl
              have hE3 : wo.cell? ⟨g, k * 3 + 2, none⟩ = some (.int .i64 z.it.tags) := HQ2.out.cell (fun _ => rfl) (i := 2) hz rfl
              have hs := hc.size
              have hs3 := hc3'.size
              have HH := hid ((OSl.alloc HO.out (.cells #[.int .i64 z.it.key, .slice z.A z.n z.c, .int .i64 z.it.tags] 36)).alloc (.cells #[.int .i64 z.it.key] 3))
              have HX1 := hid (Src.one (sz := 1) (enc := cInt) (y := z.it.key) (Box.new (w := wo.alloc (.cells #[.int .i64 z.it.key, .slice z.A z.n z.c, .int .i64 z.it.tags] 36)) (g := wo.heap.size + 1) [.int .i64 z.it.key] 3 (by simp)) rfl)
              have HK := hid (show (qs.take (k + 1)).map (·.it.key) = (qs.take k).map (·.it.key) ++ [z.it.key] from by rw [take_snoc hz, List.map_append]; rfl)
              clear hz
              go_wp2_with (at_builtin; refine wpList_push _ rfl _ _ 27 rfl 3 1 8 (.int .i64 0) cInt Try.underlying27 infoInt rfl (by omega) (by omega) (fun _ => rfl) oneInt w.heap.size _ _ rfl HH.out _ 1 1 [z.it.key] rfl HX1.out (by rw [List.length_map, List.length_take]; omega) (by simp; omega) ?_; intro v' w4 ho hg2 hb2)
              have hc4 : Chg No w w4 := Chg.pushed ((hc.alloc _).alloc _) hg2 HH.out (Nat.le_refl _)
              have hc34 : Chg (fun j => j = w2.heap.size) w3 w4 := Chg.pushG ((hc3'.alloc _).alloc _) hg2 HW.out
              have HO4 : Hid (OInts w4 w.heap.size v' ((qs.take (k + 1)).map (·.it.key))) := by show OInts _ _ _ _; rw [HK.out]; exact ho
              have HW4 : Hid (∀ j, v'.ownBlock = some j → j = w2.heap.size ∨ w3.heap.size ≤ j) := fun j hj => by
                rcases hb2 j hj with h | h
                · exact HW.out j h
                · right; rw [h]; simp only [World.size_alloc]; omega
              clear ho hg2 hb2 HX1 HH HO HK HQ2 HW
              go_wp2
              go_roundw
              case rel => exact ⟨k + 1, by omega, by go_num, hc4, hc34, HO4, HW4⟩
              case measure => simp [intOf]; omega
            · have HO5 := HO.out
              rw [List.take_of_length_le (by omega)] at HO5
              have HO6 := hid HO5
              clear HO HO5
              go_wp2
              go_ret
              exact ⟨_, rfl, by rw [HFQ.out]; exact HO6.out, hc⟩
set_option maxHeartbeats 4000000 in
theorem sBucketOf (lp hp : Nat) (AP : Option Addr) (np cp : Nat) (ps : List (List Int)) (l0 h0 : Nat) (A : Option Addr) (n c : Nat) (xs : List It) (l1 h1 : Nat) (A' : Option Addr) (n' c' : Nat) (at_ : List Int) (bt : Int) (w : World)
    (hps : RRows w lp hp AP np cp ps) (hx : RItems w l0 h0 A n c xs) (hy : RInts w l1 h1 A' n' c' at_) :
    Calls Try.prog 69 #[.slice AP np cp, .slice A n c, .slice A' n' c', .int .i64 bt] w (RetInts (bucketF ps xs at_ bt) w) := by
  have hnc := hx.le; have hcm := hx.cap
  have HX := hid hx; have HY := hid hy; have HP := hid hps
  have K1 := hid (fun W (h : RRows W lp hp AP np cp ps) => sValidPlanes lp hp AP np cp ps W h)
  have K2 := hid (fun W (h : RItems W l0 h0 A n c xs) => sValidStore l0 h0 A n c xs W h)
  have K3 := hid (fun W (h : RInts W l1 h1 A' n' c' at_) => sIsVector l1 h1 A' n' c' at_ W h)
  have K4 := hid (fun W => inRange bt 0 6 W)
  have HB := hid (show bucketOk ps xs at_ bt = (planesB ps && (storeB xs && (vecB at_ && inB bt 0 6))) from rfl)
  have hcA : Chg No w (w.alloc (.cells #[] 3)) := (Chg.refl _ w).alloc _
  clear hps hx hy
  cases hb1 : planesB ps with
  | false =>
    have HF := hid (bucketF_no (ps := ps) (l := xs) (at_ := at_) (bt := bt) (by rw [HB.out, hb1]; rfl))
    rw [hb1] at K1
    clear hb1
    go_enter Try.func69, Try.ntmps69
    (go_wp2_with fail; (with_reducible refine (K1.out _ (HP.out.no hcA)).mono ?_); rintro e w1 ⟨rfl, rfl⟩)
    go_wp2
    go_ret
    exact ⟨_, rfl, by rw [HF.out]; exact ointsN _ _, by (repeat (first | (with_reducible exact Chg.refl _ _) | ((with_reducible refine Chg.setNew ?_ _ ?_); rotate_left; first | (dsimp only; omega) | (simp; done) | (simp; omega)) | (with_reducible refine Chg.alloc ?_ _) | (with_reducible refine Chg.drew ?_) | (with_reducible refine Chg.drewN ?_ _) | (with_reducible refine Chg.no ?_ (by assumption)) | (with_reducible refine Chg.and_ ?_ (by assumption)) | ((with_reducible refine Chg.at_ ?_ (by assumption) ?_); rotate_left; (try simp only [World.size_alloc]); omega)))⟩
  | true =>
    rw [hb1] at K1
    cases hb2 : storeB xs with
    | false =>
      have HF := hid (bucketF_no (ps := ps) (l := xs) (at_ := at_) (bt := bt) (by rw [HB.out, hb2]; simp))
      rw [hb2] at K2
      clear hb1 hb2
      go_enter Try.func69, Try.ntmps69
      (go_wp2_with fail; (with_reducible refine (K1.out _ (HP.out.no hcA)).mono ?_); rintro e w1 ⟨rfl, rfl⟩)
      (go_wp2_with fail; (with_reducible refine (K2.out _ (HX.out.no hcA)).mono ?_); rintro e w2 ⟨rfl, hc2⟩)
      go_wp2
      go_ret
      exact ⟨_, rfl, by rw [HF.out]; exact ointsN _ _, by (repeat (first | (with_reducible exact Chg.refl _ _) | ((with_reducible refine Chg.setNew ?_ _ ?_); rotate_left; first | (dsimp only; omega) | (simp; done) | (simp; omega)) | (with_reducible refine Chg.alloc ?_ _) | (with_reducible refine Chg.drew ?_) | (with_reducible refine Chg.drewN ?_ _) | (with_reducible refine Chg.no ?_ (by assumption)) | (with_reducible refine Chg.and_ ?_ (by assumption)) | ((with_reducible refine Chg.at_ ?_ (by assumption) ?_); rotate_left; (try simp only [World.size_alloc]); omega)))⟩
    | true =>
      rw [hb2] at K2
      cases hb3 : vecB at_ with
      | false =>
        have HF := hid (bucketF_no (ps := ps) (l := xs) (at_ := at_) (bt := bt) (by rw [HB.out, hb3]; simp))
        rw [hb3] at K3
        clear hb1 hb2 hb3
        go_enter Try.func69, Try.ntmps69
        (go_wp2_with fail; (with_reducible refine (K1.out _ (HP.out.no hcA)).mono ?_); rintro e w1 ⟨rfl, rfl⟩)
        (go_wp2_with fail; (with_reducible refine (K2.out _ (HX.out.no hcA)).mono ?_); rintro e w2 ⟨rfl, hc2⟩)
        (go_wp2_with fail; (with_reducible refine (K3.out _ (HY.out.no (hcA.no hc2))).mono ?_); rintro e w3 ⟨rfl, rfl⟩)
        go_wp2
        go_ret
        exact ⟨_, rfl, by rw [HF.out]; exact ointsN _ _, by (repeat (first | (with_reducible exact Chg.refl _ _) | ((with_reducible refine Chg.setNew ?_ _ ?_); rotate_left; first | (dsimp only; omega) | (simp; done) | (simp; omega)) | (with_reducible refine Chg.alloc ?_ _) | (with_reducible refine Chg.drew ?_) | (with_reducible refine Chg.drewN ?_ _) | (with_reducible refine Chg.no ?_ (by assumption)) | (with_reducible refine Chg.and_ ?_ (by assumption)) | ((with_reducible refine Chg.at_ ?_ (by assumption) ?_); rotate_left; (try simp only [World.size_alloc]); omega)))⟩
      | true =>
        rw [hb3] at K3
        cases hb4 : inB bt 0 6 with
        | false =>
          have HF := hid (bucketF_no (ps := ps) (l := xs) (at_ := at_) (bt := bt) (by rw [HB.out, hb4]; simp))
          rw [hb4] at K4
          clear hb1 hb2 hb3 hb4
          go_enter Try.func69, Try.ntmps69
          (go_wp2_with fail; (with_reducible refine (K1.out _ (HP.out.no hcA)).mono ?_); rintro e w1 ⟨rfl, rfl⟩)
          (go_wp2_with fail; (with_reducible refine (K2.out _ (HX.out.no hcA)).mono ?_); rintro e w2 ⟨rfl, hc2⟩)
          (go_wp2_with fail; (with_reducible refine (K3.out _ (HY.out.no (hcA.no hc2))).mono ?_); rintro e w3 ⟨rfl, rfl⟩)
          (go_wp2_with fail; (with_reducible refine (K4.out _).mono ?_); rintro e w3 ⟨rfl, rfl⟩)
          go_wp2
          go_ret
          exact ⟨_, rfl, by rw [HF.out]; exact ointsN _ _, by (repeat (first | (with_reducible exact Chg.refl _ _) | ((with_reducible refine Chg.setNew ?_ _ ?_); rotate_left; first | (dsimp only; omega) | (simp; done) | (simp; omega)) | (with_reducible refine Chg.alloc ?_ _) | (with_reducible refine Chg.drew ?_) | (with_reducible refine Chg.drewN ?_ _) | (with_reducible refine Chg.no ?_ (by assumption)) | (with_reducible refine Chg.and_ ?_ (by assumption)) | ((with_reducible refine Chg.at_ ?_ (by assumption) ?_); rotate_left; (try simp only [World.size_alloc]); omega)))⟩
        | true =>
          rw [hb4] at K4
          have HF := hid (bucketF_ok (ps := ps) (l := xs) (at_ := at_) (bt := bt) (by rw [HB.out, hb1, hb2, hb3, hb4]; rfl))
          have hn16 : n ≤ 16 := by have := HX.out.len; have := storeB_len hb2; omega
          have hn4 : n' = 4 := by have h9 : at_.length = n' := HY.out.len; have := vecB_len hb3; omega
          have hp6 : np ≤ 6 := by have h9 : ps.length = np := HP.out.len; have := (planesB_iff ps).1 hb1; omega
          have HLP := hid (show ps.length ≤ 6 from ((planesB_iff ps).1 hb1).1.2)
          have HPV := hid ((planesB_iff ps).1 hb1).2
          have HXV := hid (show ∀ x ∈ xs, vecB x.vec = true from fun x hx => by
            obtain ⟨i, hi⟩ := List.getElem?_of_mem hx
            exact ((itemB_iff _).1 (storeB_item hb2 hi)).2.1)
          have SA := hid (vecB_small hb3)
          have hbat := hashF_64 HLP.out at_
          subst hn4
          clear hb1 hb2 hb3 hb4
          go_enter Try.func69, Try.ntmps69
          (go_wp2_with fail; (with_reducible refine (K1.out _ (HP.out.no hcA)).mono ?_); rintro e w1 ⟨rfl, rfl⟩)
          (go_wp2_with fail; (with_reducible refine (K2.out _ (HX.out.no hcA)).mono ?_); rintro e w2 ⟨rfl, hc2⟩)
          (go_wp2_with fail; (with_reducible refine (K3.out _ (HY.out.no (hcA.no hc2))).mono ?_); rintro e w3 ⟨rfl, rfl⟩)
          (go_wp2_with fail; (with_reducible refine (K4.out _).mono ?_); rintro e w3 ⟨rfl, rfl⟩)
          have hcw2 : Chg No w w2 := hcA.no hc2
          have HO0 := hid (OSl.no (OSl.lit (T := 3) (enc := cInt) (w := w.alloc (.cells #[] 3)) (base := w.heap.size) (n := 0) [] [] (fun _ => rfl) rfl rfl (by omega) (Nat.le_refl _) (heap_top rfl)) hc2)
          go_wp2
          go_loopw [9, 10] (fun v i wr => ∃ k : Nat, k ≤ n ∧ i = .int .i64 k ∧ Chg No w wr ∧ Hid (OInts wr w.heap.size v ((bucketL ps (xs.take k) at_ bt).map (·.key)))) (fun _ i _ => n - (intOf i).toNat)
          case atStart => exact ⟨0, Nat.zero_le _, rfl, hcw2, by show OInts _ _ _ _; rw [List.take_zero]; exact HO0.out⟩
          case round =>
            clear HO0
            obtain ⟨k, hk, rfl, hc, HO⟩ := hrel
            obtain ⟨wo, rfl⟩ : ∃ W : World, W = wr := ⟨_, rfl⟩
            by_cases hlt : k < n
            · obtain ⟨b, o, z, rfl, _, _, hzk, hE⟩ := (HX.out.no hc).at_ hlt
              obtain ⟨zk, zv, zt⟩ := z
              obtain ⟨hE1, ⟨A1, n1, c1, hE2, hv⟩, hE3⟩ := hE
              have hE1 : wo.cell? ⟨b, o + k * 3, none⟩ = some (.int .i64 zk) := hE1
              have Hzk := hid hzk
              have hzb := HXV.out _ (List.mem_of_getElem? hzk)
              simp only [] at hzb
              have hn4 : n1 = 4 := by have h9 : zv.length = n1 := hv.len; have := vecB_len hzb; omega
              subst hn4
              have HV := hid hv
              have HQL := hid (show ((bucketL ps (xs.take k) at_ bt).map (·.key)).length ≤ 1048576 from by
                have h8 := List.length_filter_le (nearHB ps at_ bt) (xs.take k)
                rw [List.length_take] at h8
                unfold bucketL
                rw [List.length_map]
                omega)
              have hbz := hashF_64 HLP.out zv
              have HAP := hid (show nearHB ps at_ bt ⟨zk, zv, zt⟩ = decide (apartF (hashF ps zv) (hashF ps at_) ≤ bt) from rfl)
              have KZ := hid (fun W (h : RRows W lp hp AP np cp ps) (h2 : RInts W l0 h0 A1 4 c1 zv) => sHash lp hp l0 h0 AP A1 np cp c1 ps zv W h h2 HPV.out hp6 (vecB_small hzb))
              have KA := hid (fun W (h : RRows W lp hp AP np cp ps) (h2 : RInts W l1 h1 A' 4 c' at_) => sHash lp hp l1 h1 AP A' np cp c' ps at_ W h h2 HPV.out hp6 SA.out)
              have KP := hid (fun W => sBitsApart (hashF ps zv) (hashF ps at_) W hbz hbat)
              generalize hashF ps zv = u at *
              generalize hashF ps at_ = vv at *
              generalize apartF u vv = r at *
              clear hzk hv hzb hbz
              by_cases hnear : r ≤ bt
              · have HFK := hid (show (bucketL ps (xs.take (k + 1)) at_ bt).map (·.key) = (bucketL ps (xs.take k) at_ bt).map (·.key) ++ [zk] from by
                  unfold bucketL
                  rw [take_snoc Hzk.out, List.filter_append, List.map_append]
                  congr 1
                  rw [List.filter_cons, HAP.out, decide_eq_true hnear]
                  rfl)
                (go_wp2_with fail; (with_reducible refine (KZ.out _ (HP.out.no hc) (HV.out)).mono ?_); rintro e w3 ⟨rfl, hc3⟩)
                (go_wp2_with fail; (with_reducible refine (KA.out _ (HP.out.no (hc.no hc3)) (HY.out.no (hc.no hc3))).mono ?_); rintro e w4 ⟨rfl, hc4⟩)
                (go_wp2_with fail; (with_reducible refine (KP.out _).mono ?_); rintro e w5 ⟨rfl, rfl⟩)
                have hc24 : Chg No wo w4 := hc3.no hc4
                have hE1' := cell_keep hc24 hE1 (fun e => e)
                have HH := hid (OSl.alloc (OSl.no HO.out hc24) (.cells #[.int .i64 zk] 3))
                have hs := (hc.no hc24).size
                have HX1 := hid (Src.one (sz := 1) (enc := cInt) (y := zk) (Box.new (w := w4) [.int .i64 zk] 3 rfl) rfl)
                go_wp2_with (at_builtin; refine wpList_push _ rfl _ _ 27 rfl 3 1 8 (.int .i64 0) cInt Try.underlying27 infoInt rfl (by omega) (by omega) (fun _ => rfl) oneInt w.heap.size _ _ rfl HH.out _ 1 1 [zk] rfl HX1.out (by have := HQL.out; omega) (by simp; omega) ?_; intro v' w6 ho hg2 hb2)
                have hc6 : Chg No w w6 := Chg.pushed ((hc.no hc24).alloc _) hg2 HH.out (Nat.le_refl _)
                have HO4 : Hid (OInts w6 w.heap.size v' ((bucketL ps (xs.take (k + 1)) at_ bt).map (·.key))) := by show OInts _ _ _ _; rw [HFK.out]; exact ho
                clear ho hg2 hb2 HX1 HH HO HFK
                go_wp2
                go_roundw
                case rel => exact ⟨k + 1, by omega, by go_num, hc6, HO4⟩
                case measure => simp [intOf]; omega
              · have HFK := hid (show bucketL ps (xs.take (k + 1)) at_ bt = bucketL ps (xs.take k) at_ bt from by
                  unfold bucketL
                  rw [take_snoc Hzk.out, List.filter_append, List.filter_cons, HAP.out, decide_eq_false hnear]
                  simp)
                have hnear' : bt < r := by omega
                (go_wp2_with fail; (with_reducible refine (KZ.out _ (HP.out.no hc) (HV.out)).mono ?_); rintro e w3 ⟨rfl, hc3⟩)
                (go_wp2_with fail; (with_reducible refine (KA.out _ (HP.out.no (hc.no hc3)) (HY.out.no (hc.no hc3))).mono ?_); rintro e w4 ⟨rfl, hc4⟩)
                (go_wp2_with fail; (with_reducible refine (KP.out _).mono ?_); rintro e w5 ⟨rfl, rfl⟩)
                have hc24 : Chg No wo w4 := hc3.no hc4
                have h9 := OSl.no HO.out hc24
                rw [← HFK.out] at h9
                have HO4 := hid h9
                clear HO HFK h9
                go_wp2
                go_roundw
                case rel => exact ⟨k + 1, by omega, by go_num, hc.no hc24, HO4⟩
                case measure => simp [intOf]; omega
            · have HO5 := HO.out
              rw [List.take_of_length_le (by have := HX.out.len; omega)] at HO5
              have HO6 := hid HO5
              clear HO HO5
              go_wp2
              go_ret
              exact ⟨_, rfl, by rw [HF.out]; exact HO6.out, hc⟩
end Go.Proofs.Ytifdcdpdihfbjaa
