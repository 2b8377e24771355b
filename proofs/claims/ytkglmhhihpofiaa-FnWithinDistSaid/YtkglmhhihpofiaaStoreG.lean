/- Stores: the reference's FilterStore. -/
import Derived.Test.YtkglmhhihpofiaaStoreF
namespace Go.Proofs.Ytkglmhhihpofiaa
open Go.RowKit
set_option linter.unusedVariables false
set_option linter.unusedSimpArgs false
set_option maxHeartbeats 4000000 in
theorem sFilterStore (l0 h0 : Nat) (A : Option Addr) (n c : Nat) (xs : List It) (fa fb fc : Int) (w : World) (hx : RItems w l0 h0 A n c xs) :
    Calls Try.prog 60 #[.slice A n c, .agg #[.int .i64 fa, .int .i64 fb, .int .i64 fc]] w (RetItems (filtF xs fa fb fc) w) := by
  have hnc := hx.le; have hcm := hx.cap
  have HX := hid hx
  have BX := hid ((Box.new (w := w) [.int .i64 fa, .int .i64 fb, .int .i64 fc] 38 rfl).alloc (.cells #[] 54))
  have BW := hid (Box.new (w := w) [.int .i64 fa, .int .i64 fb, .int .i64 fc] 38 rfl)
  have hcF : Chg No w (w.alloc (.cells #[.int .i64 fa, .int .i64 fb, .int .i64 fc] 38)) := (Chg.refl No w).alloc _
  have hcX : Chg No w ((w.alloc (.cells #[.int .i64 fa, .int .i64 fb, .int .i64 fc] 38)).alloc (.cells #[] 54)) := ((Chg.refl No w).alloc _).alloc _
  have HO0 := hid (show OItems ((w.alloc (.cells #[.int .i64 fa, .int .i64 fb, .int .i64 fc] 38)).alloc (.cells #[] 54)) (w.heap.size + 1) (.slice (some ⟨w.heap.size + 1, 0, none⟩) 0 0) [] from
    ⟨[], rfl, OSl.lit (enc := cItem) (n := 0) [] [] (fun _ => rfl) rfl rfl (by omega) (by omega) (heap_top (by simp)), fun p hp => by cases hp⟩)
  clear hx
  have K1 := hid (fun W (h : RItems W l0 h0 A n c xs) => sValidStore l0 h0 A n c xs W h)
  have K2 := hid (fun W => validFilter fa fb fc W)
  cases hb1 : storeB xs with
  | false =>
    have HF := hid (filtF_bad (xs := xs) (a := fa) (b := fb) (c := fc) (by rw [hb1]; rfl))
    rw [hb1] at K1
    clear hb1
    go_enter Try.func60, Try.ntmps60
    (go_wp2_with fail; (with_reducible refine (K1.out _ (HX.out.no (by (repeat (first | (with_reducible exact Chg.refl _ _) | ((with_reducible refine Chg.setNew ?_ _ ?_); rotate_left; first | (dsimp only; omega) | (simp; done) | (simp; omega)) | (with_reducible refine Chg.alloc ?_ _) | (with_reducible refine Chg.drew ?_) | (with_reducible refine Chg.drewN ?_ _) | (with_reducible refine Chg.no ?_ (by assumption)) | (with_reducible refine Chg.and_ ?_ (by assumption)) | ((with_reducible refine Chg.at_ ?_ (by assumption) ?_); rotate_left; (try simp only [World.size_alloc]); omega)))))).mono ?_); rintro e w1 ⟨rfl, hc1⟩)
    go_wp2
    go_ret
    exact ⟨_, rfl, by rw [HF.out]; exact ⟨[], rfl, OSl.nil_ _, fun p hp => by cases hp⟩, by (repeat (first | (with_reducible exact Chg.refl _ _) | ((with_reducible refine Chg.setNew ?_ _ ?_); rotate_left; first | (dsimp only; omega) | (simp; done) | (simp; omega)) | (with_reducible refine Chg.alloc ?_ _) | (with_reducible refine Chg.drew ?_) | (with_reducible refine Chg.drewN ?_ _) | (with_reducible refine Chg.no ?_ (by assumption)) | (with_reducible refine Chg.and_ ?_ (by assumption)) | ((with_reducible refine Chg.at_ ?_ (by assumption) ?_); rotate_left; (try simp only [World.size_alloc]); omega)))⟩
  | true =>
    cases hb2 : filterB fa fb fc with
    | false =>
      have HF := hid (filtF_bad (xs := xs) (a := fa) (b := fb) (c := fc) (by rw [hb2]; simp))
      rw [hb1] at K1
      rw [hb2] at K2
      clear hb1 hb2
      go_enter Try.func60, Try.ntmps60
      (go_wp2_with fail; (with_reducible refine (K1.out _ (HX.out.no (by (repeat (first | (with_reducible exact Chg.refl _ _) | ((with_reducible refine Chg.setNew ?_ _ ?_); rotate_left; first | (dsimp only; omega) | (simp; done) | (simp; omega)) | (with_reducible refine Chg.alloc ?_ _) | (with_reducible refine Chg.drew ?_) | (with_reducible refine Chg.drewN ?_ _) | (with_reducible refine Chg.no ?_ (by assumption)) | (with_reducible refine Chg.and_ ?_ (by assumption)) | ((with_reducible refine Chg.at_ ?_ (by assumption) ?_); rotate_left; (try simp only [World.size_alloc]); omega)))))).mono ?_); rintro e w1 ⟨rfl, hc1⟩)
      have q1 := (BX.out.no hc1).f3
      (go_wp2_with fail; (with_reducible refine (K2.out _).mono ?_); rintro e w2 ⟨rfl, hc2⟩)
      go_wp2
      go_ret
      exact ⟨_, rfl, by rw [HF.out]; exact ⟨[], rfl, OSl.nil_ _, fun p hp => by cases hp⟩, by (repeat (first | (with_reducible exact Chg.refl _ _) | ((with_reducible refine Chg.setNew ?_ _ ?_); rotate_left; first | (dsimp only; omega) | (simp; done) | (simp; omega)) | (with_reducible refine Chg.alloc ?_ _) | (with_reducible refine Chg.drew ?_) | (with_reducible refine Chg.drewN ?_ _) | (with_reducible refine Chg.no ?_ (by assumption)) | (with_reducible refine Chg.and_ ?_ (by assumption)) | ((with_reducible refine Chg.at_ ?_ (by assumption) ?_); rotate_left; (try simp only [World.size_alloc]); omega)))⟩
    | true =>
      have HF := hid (filtF_ok hb1 hb2)
      have hn16 : n ≤ 16 := by have := HX.out.len; have := storeB_len hb1; omega
      have hbd := store_bd hb1
      rw [hb1] at K1
      rw [hb2] at K2
      clear hb1 hb2
      go_enter Try.func60, Try.ntmps60
      (go_wp2_with fail; (with_reducible refine (K1.out _ (HX.out.no (by (repeat (first | (with_reducible exact Chg.refl _ _) | ((with_reducible refine Chg.setNew ?_ _ ?_); rotate_left; first | (dsimp only; omega) | (simp; done) | (simp; omega)) | (with_reducible refine Chg.alloc ?_ _) | (with_reducible refine Chg.drew ?_) | (with_reducible refine Chg.drewN ?_ _) | (with_reducible refine Chg.no ?_ (by assumption)) | (with_reducible refine Chg.and_ ?_ (by assumption)) | ((with_reducible refine Chg.at_ ?_ (by assumption) ?_); rotate_left; (try simp only [World.size_alloc]); omega)))))).mono ?_); rintro e w1 ⟨rfl, hc1⟩)
      have q1 := (BX.out.no hc1).f3
      (go_wp2_with fail; (with_reducible refine (K2.out _).mono ?_); rintro e w2 ⟨rfl, hc2⟩)
      have HO2 := hid ((HO0.out.no hc1).no hc2)
      have hcz : Chg No (w.alloc (.cells #[.int .i64 fa, .int .i64 fb, .int .i64 fc] 38)) w2 := (((Chg.refl No _).alloc _).no hc1).no hc2
      clear HO0 BX q1 K1 K2
      go_wp2
      go_loopw [5, 6] (fun v i wr => ∃ k : Nat, k ≤ n ∧ i = .int .i64 k ∧ Chg No (w.alloc (.cells #[.int .i64 fa, .int .i64 fb, .int .i64 fc] 38)) wr ∧ Hid (OItems wr (w.heap.size + 1) v ((xs.take k).filter (fun x => passB fa fb fc x.tags)))) (fun _ i _ => n - (intOf i).toNat)
      case atStart => exact ⟨0, Nat.zero_le _, rfl, hcz, HO2⟩
      case round =>
        clear HO2
        obtain ⟨k, hk, rfl, hc0, HO⟩ := hrel
        obtain ⟨wo, rfl⟩ : ∃ W : World, W = wr := ⟨_, rfl⟩
        have hc : Chg No w wo := hcF.no hc0
        have hz0 := hc0.size
        simp only [World.size_alloc] at hz0
        by_cases hlt : k < n
        · skip
          obtain ⟨b, o, z, rfl, _, _, hzk, hE⟩ := (HX.out.no hc).at_ hlt
          obtain ⟨zk, zv, zt⟩ := z
          obtain ⟨hE1, ⟨A1, n1, c1, hE2, hv⟩, hE3⟩ := hE
          have hE1 : wo.cell? ⟨b, o + k * 3, none⟩ = some (.int .i64 zk) := hE1
          have hE3 : wo.cell? ⟨b, o + k * 3 + 2, none⟩ = some (.int .i64 zt) := hE3
          have HV := hid hv
          have Hzk := hid hzk
          have hvn : n1 ≤ 1048576 := by have h9 : zv.length = n1 := hv.len; have h8 := hbd zk zv zt (List.mem_of_getElem? hzk); omega
          clear hzk hv
          have f1 : ∀ p : NB wo, p.wd.cell? ⟨b, o + k * 3 + 2, none⟩ = some (.int .i64 zt) := nb_cell hE3
          have B9 := BW.out.no hc0
          have f2 : ∀ p : NB wo, p.wd.cell? ⟨w.heap.size, 0, none⟩ = some (.int .i64 fa) := nb_cell (B9.cell 0)
          have f3 : ∀ p : NB wo, p.wd.cell? ⟨w.heap.size, 1, none⟩ = some (.int .i64 fb) := nb_cell (B9.cell 1)
          have f4 : ∀ p : NB wo, p.wd.cell? ⟨w.heap.size, 2, none⟩ = some (.int .i64 fc) := nb_cell (B9.cell 2)
          have HLen := hid (show ((xs.take k).filter (fun x => passB fa fb fc x.tags)).length ≤ 1048576 from Nat.le_trans (List.length_filter_le _ _) (by rw [List.length_take]; omega))
          obtain ⟨pb, hpb⟩ : ∃ pb, passB fa fb fc zt = pb := ⟨_, rfl⟩
          have HPB := hid hpb
          clear hpb B9
          have HFK := hid (show (xs.take (k + 1)).filter (fun x => passB fa fb fc x.tags) = (xs.take k).filter (fun x => passB fa fb fc x.tags) ++ (if pb then [⟨zk, zv, zt⟩] else []) from by
            rw [take_snoc Hzk.out, List.filter_append]
            congr 1
            rw [List.filter_cons]
            show (if passB fa fb fc zt = true then _ else _) = _
            rw [HPB.out]
            cases pb <;> rfl)
          have HE := hid (show _ ∧ _ ∧ _ from ⟨hE1, hE2, hE3⟩)
          clear hE1 hE2 hE3
          cases pb with
          | true =>
            go_wp2_with fail
            (refine wp_region_nb (by kernel_rfl) (by kernel_rfl) ?_; (repeat (first | go_big_quiet_step ((go_at_call 90; exact nb_ofE (spasses _ _ _ _ _) (congrArg Value.bool HPB.out))) | quiet_step ((go_at_call 90; exact nb_ofE (spasses _ _ _ _ _) (congrArg Value.bool HPB.out))))); (with_reducible refine wpQuiet_nil ?_); intro wq hw1; have hq := nb_out hw1; clear hw1)
            have hz9 := hq.size
            have e1 := cell_keep hq HE.out.1 (fun e => e)
            have e2 := cell_keep hq HE.out.2.1 (fun e => e)
            have e3 := cell_keep hq HE.out.2.2 (fun e => e)
            (go_wp2_with fail; (with_reducible refine (sCopyItem _ _ _ _ _ _ _ zv _ (HV.out.no hq) hvn).mono ?_); rintro e w2' ⟨A2, n2, c2, rfl, ht2, hc2'⟩)
            have hc2x := hc2
            clear hc2
            obtain ⟨w5, rfl⟩ : ∃ W, W = w2' := ⟨_, rfl⟩
            have hcw5 : Chg No w w5 := (hc.no hq).no hc2'
            have hz2 := hcw5.size
            have HO1 := hid ((HO.out.no (hq.no hc2')).no ((Chg.refl No w5).alloc (.cells #[.int .i64 zk, .slice A2 n2 c2, .int .i64 zt] 54)))
            obtain ⟨ps, he, hoo, hii⟩ := HO1.out
            have HX1 := hid (Src.one (sz := 3) (enc := cItem) (y := ⟨⟨zk, zv, zt⟩, A2, n2, c2⟩) (Box.new (w := w5) [.int .i64 zk, .slice A2 n2 c2, .int .i64 zt] 54 rfl) rfl)
            have HH := hid hoo
            have hpl : ps.length ≤ 20000000 := by
              have h9 := congrArg List.length he
              rw [List.length_map] at h9
              have h8 := HLen.out
              omega
            have hz4 := ((hc.no hq)).size
            have HT2 := hid (((ht2.keep ((Chg.refl No w5).alloc (.cells #[.int .i64 zk, .slice A2 n2 c2, .int .i64 zt] 54)) (fun _ _ _ e => e)).wide (lo' := w.heap.size + 1) (hi' := (w5.alloc (.cells #[.int .i64 zk, .slice A2 n2 c2, .int .i64 zt] 54)).heap.size) (by omega) (by simp)))
            have HII := hid hii
            have HE9 := hid he
            clear hoo hii he ht2
            go_wp2_with (at_builtin; refine wpList_push _ rfl _ _ 23 rfl 54 3 40 (.agg #[.int .i64 0, .slice none 0 0, .int .i64 0]) cItem Try.underlying23 infoItem rfl (by omega) (by omega) (fun _ => rfl) oneItem (w.heap.size + 1) _ ps rfl HH.out _ 1 1 [⟨⟨zk, zv, zt⟩, A2, n2, c2⟩] rfl HX1.out (by omega) (by simp; omega) ?_; intro v' w3 ho3 hg3 hb3)
            have HO3 := hid (OItems.push HE9.out HH.out HII.out HT2.out ho3 hg3)
            have HO4 : Hid (OItems w3 (w.heap.size + 1) v' ((xs.take (k + 1)).filter (fun x => passB fa fb fc x.tags))) := by
              have := HO3.out
              show OItems _ _ _ _
              rw [HFK.out]
              exact this
            have hc4 : Chg No (w.alloc (.cells #[.int .i64 fa, .int .i64 fb, .int .i64 fc] 38)) w3 := Chg.pushed (((hc0.no hq).no hc2').alloc _) hg3 HH.out (by simp)
            clear ho3 hg3 hb3 HO1 HH HII HT2 HX1 HE9
            go_roundw
            case rel => exact ⟨k + 1, by omega, by go_num, hc4, HO4⟩
            case measure => simp [intOf]; omega
          | false =>
            go_wp2_with fail
            (refine wp_region_nb (by kernel_rfl) (by kernel_rfl) ?_; (repeat (first | go_big_quiet_step ((go_at_call 90; exact nb_ofE (spasses _ _ _ _ _) (congrArg Value.bool HPB.out))) | quiet_step ((go_at_call 90; exact nb_ofE (spasses _ _ _ _ _) (congrArg Value.bool HPB.out))))); (with_reducible refine wpQuiet_nil ?_); intro wq hw1; have hq := nb_out hw1; clear hw1)
            go_wp2
            go_roundw
            case rel => exact ⟨k + 1, by omega, by go_num, hc0.no hq, (by show OItems _ _ _ _; rw [HFK.out]; simp; exact HO.out.no hq)⟩
            case measure => simp [intOf]; omega
        · have h9 := HO.out
          rw [List.take_of_length_le (by have := HX.out.len; omega)] at h9
          have HO8 := hid h9
          clear h9
          go_wp2
          go_ret
          exact ⟨_, rfl, by rw [HF.out]; exact HO8.out.down (by omega), hc⟩
end Go.Proofs.Ytkglmhhihpofiaa
