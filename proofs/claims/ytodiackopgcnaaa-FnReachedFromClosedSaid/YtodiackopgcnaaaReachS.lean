/- ReachedFrom: the reference's. -/
import Derived.Test.YtodiackopgcnaaaReach
namespace Go.Proofs.Ytodiackopgcnaaa
open Go.RowKit Go.Sort Go.Shelf
set_option linter.unusedVariables false
set_option linter.unusedSimpArgs false
theorem sKeyAtC (l0 h0 : Nat) (A : Option Addr) (n c : Nat) (xs : List It) (key : Int) (w : World) (hx : RItems w l0 h0 A n c xs) :
    Calls Try.prog 44 #[.slice A n c, .int .i64 key] w fun e w' => e = .returned (.int .i64 (keyAtF xs key)) ∧ Chg No w w' := chg_of_eq (sKeyAt l0 h0 A n c xs key w hx)
theorem filt_snocK (p : Int → Bool) {l : List Int} {k : Nat} {x : Int} (h : l[k]? = some x) : (l.take (k + 1)).filter p = (l.take k).filter p ++ (if p x = true then [x] else []) := by
  rw [take_snoc h, List.filter_append]
  congr 1
  rw [List.filter_cons]
  split <;> rfl
set_option maxRecDepth 100000 in
set_option maxHeartbeats 8000000 in
theorem sReachedFrom (l0 h0 : Nat) (A : Option Addr) (n c : Nat) (xs : List It) (kind many key : Int) (w : World) (hx : RItems w l0 h0 A n c xs) :
    Calls Try.prog 14 #[.slice A n c, .int .i64 kind, .int .i64 many, .int .i64 key] w (RetInts (ReachF xs kind many key) w) := by
  have hnc := hx.le; have hcm := hx.cap
  have HX := hid hx
  have K1 := hid (fun W (h : RItems W l0 h0 A n c xs) => sValidStore l0 h0 A n c xs W h)
  have K2 := hid (fun W => sValidKind kind W)
  have K3 := hid (fun W => inRange many 1 5 W)
  have K4 := hid (fun W (h : RItems W l0 h0 A n c xs) => sKeyAt l0 h0 A n c xs key W h)
  have hcq := linkB_query xs kind many
  cases h1 : storeB xs with
  | false =>
    rw [h1] at K1 hcq
    have HF := hid (ReachF_no (key := key) (by unfold reachOk; rw [hcq]; rfl))
    clear h1 hcq hx
    go_enter Try.func14, Try.ntmps14
    (go_wp2_with fail; (with_reducible refine (K1.out _ HX.out).mono ?_); rintro e w1 ⟨rfl, hc1⟩)
    go_wp2
    go_ret
    exact ⟨_, rfl, by rw [HF.out]; exact OSl.nil_ _, by (repeat (first | (with_reducible exact Chg.refl _ _) | ((with_reducible refine Chg.setNew ?_ _ ?_); rotate_left; first | (dsimp only; omega) | (simp; done) | (simp; omega)) | (with_reducible refine Chg.alloc ?_ _) | (with_reducible refine Chg.drew ?_) | (with_reducible refine Chg.drewN ?_ _) | (with_reducible refine Chg.no ?_ (by assumption)) | (with_reducible refine Chg.and_ ?_ (by assumption)) | ((with_reducible refine Chg.at_ ?_ (by assumption) ?_); rotate_left; (try simp only [World.size_alloc]); omega)))⟩
  | true =>
    rw [h1] at K1
    cases h2 : kindB kind with
    | false =>
      rw [h1, h2] at hcq
      rw [h2] at K2
      have HF := hid (ReachF_no (key := key) (by unfold reachOk; rw [hcq]; rfl))
      clear h1 h2 hcq hx
      go_enter Try.func14, Try.ntmps14
      (go_wp2_with fail; (with_reducible refine (K1.out _ HX.out).mono ?_); rintro e w1 ⟨rfl, hc1⟩)
      (go_wp2_with fail; (with_reducible refine (K2.out _).mono ?_); rintro e w2 ⟨rfl, rfl⟩)
      go_wp2
      go_ret
      exact ⟨_, rfl, by rw [HF.out]; exact OSl.nil_ _, by (repeat (first | (with_reducible exact Chg.refl _ _) | ((with_reducible refine Chg.setNew ?_ _ ?_); rotate_left; first | (dsimp only; omega) | (simp; done) | (simp; omega)) | (with_reducible refine Chg.alloc ?_ _) | (with_reducible refine Chg.drew ?_) | (with_reducible refine Chg.drewN ?_ _) | (with_reducible refine Chg.no ?_ (by assumption)) | (with_reducible refine Chg.and_ ?_ (by assumption)) | ((with_reducible refine Chg.at_ ?_ (by assumption) ?_); rotate_left; (try simp only [World.size_alloc]); omega)))⟩
    | true =>
      rw [h2] at K2
      cases h3 : inB many 1 5 with
      | false =>
        rw [h1, h2, h3] at hcq
        rw [h3] at K3
        have HF := hid (ReachF_no (key := key) (by unfold reachOk; rw [hcq]; rfl))
        clear h1 h2 h3 hcq hx
        go_enter Try.func14, Try.ntmps14
        (go_wp2_with fail; (with_reducible refine (K1.out _ HX.out).mono ?_); rintro e w1 ⟨rfl, hc1⟩)
        (go_wp2_with fail; (with_reducible refine (K2.out _).mono ?_); rintro e w2 ⟨rfl, rfl⟩)
        (go_wp2_with fail; (with_reducible refine (K3.out _).mono ?_); rintro e w2 ⟨rfl, rfl⟩)
        go_wp2
        go_ret
        exact ⟨_, rfl, by rw [HF.out]; exact OSl.nil_ _, by (repeat (first | (with_reducible exact Chg.refl _ _) | ((with_reducible refine Chg.setNew ?_ _ ?_); rotate_left; first | (dsimp only; omega) | (simp; done) | (simp; omega)) | (with_reducible refine Chg.alloc ?_ _) | (with_reducible refine Chg.drew ?_) | (with_reducible refine Chg.drewN ?_ _) | (with_reducible refine Chg.no ?_ (by assumption)) | (with_reducible refine Chg.and_ ?_ (by assumption)) | ((with_reducible refine Chg.at_ ?_ (by assumption) ?_); rotate_left; (try simp only [World.size_alloc]); omega)))⟩
      | true =>
        rw [h3] at K3
        rw [h1, h2, h3] at hcq
        have hq : linkB xs kind many = true := hcq
        by_cases hk0 : 0 ≤ keyAtF xs key
        · have hok := linkB_ok hq
          have HF := hid (ReachF_ok (key := key) (by unfold reachOk; rw [hq, decide_eq_true hk0]; rfl))
          have HKA := hid (keyAt_mem.1 hk0)
          have HOK := hid hok
          have hxl : xs.length = n := hx.len
          have hn16 : n ≤ 16 := by have := storeB_len hok.store; omega
          have K5 := hid (fun W (h : RItems W l0 h0 A n c xs) => sLinksL l0 h0 A n c xs kind many W h hok)
          obtain ⟨L, hL⟩ : ∃ L, linksL xs kind many = L := ⟨_, rfl⟩
          have hLl : L.length = xs.length := by rw [← hL, linksL_len]
          rw [hL] at K5
          have HLL := hid hL
          generalize keyAtF xs key = r at *
          have HXL := hid hxl
          have hLn : n ≤ L.length := by omega
          have hLn2 : L.length ≤ n := by omega
          have hxn : n ≤ xs.length := by omega
          have hxn2 : xs.length ≤ n := by omega
          clear hq hx hok hL hLl hxl h1 h2 h3 hcq
          go_enter Try.func14, Try.ntmps14
          (go_wp2_with fail; (with_reducible refine (K1.out _ HX.out).mono ?_); rintro e w1 ⟨rfl, hc1⟩)
          (go_wp2_with fail; (with_reducible refine (K2.out _).mono ?_); rintro e w2 ⟨rfl, rfl⟩)
          (go_wp2_with fail; (with_reducible refine (K3.out _).mono ?_); rintro e w2 ⟨rfl, rfl⟩)
          (go_wp2_with fail; (with_reducible refine (K4.out _ (HX.out.no hc1)).mono ?_); rintro e w2 ⟨rfl, rfl⟩)
          (go_wp2_with fail; (with_reducible refine (K5.out _ (HX.out.no hc1)).mono ?_); rintro e w4 ⟨v4, rfl, ho4, hc4⟩)
          obtain ⟨A4, c4, rfl, hr4⟩ := ORows.read ho4
          have hp4 := hr4.cap; have hq4 := hr4.le
          have R4 := hid hr4
          have q4 : Chg No w w4 := hc1.no hc4
          clear ho4 hr4 hc1 hc4 K1 K2 K3 K4 K5
          have HB0 := hid (BfsOk.start (gOf xs kind many) HKA.out)
          obtain ⟨w5, hw5⟩ : ∃ W, w4.alloc (.cells #[.int .i64 key] 3) = W := ⟨_, rfl⟩
          have h45 : Chg No w4 w5 := by rw [← hw5]; exact (Chg.refl No w4).alloc _
          have q5 : Chg No w w5 := q4.no h45
          have s5 : w4.heap.size + 1 = w5.heap.size := by rw [← hw5]; simp
          have s5' : w4.heap.size + 1 ≤ w5.heap.size := by omega
          have HO0 := hid (show OInts w5 w4.heap.size (.slice (some ⟨w4.heap.size, 0, none⟩) 1 1) [key] from by rw [← hw5]; exact OSl.lit (T := 3) (sz := 1) (enc := cInt) (w := w4.alloc (.cells #[.int .i64 key] 3)) (base := w4.heap.size) (n := 1) [key] [.int .i64 key] (fun _ => rfl) rfl rfl (by omega) (Nat.le_refl _) (heap_top rfl))
          have HW0 := hid (show ∀ b, (Value.slice (some ⟨w4.heap.size, 0, none⟩) 1 1).ownBlock = some b → b = w4.heap.size ∨ w5.heap.size ≤ b from fun b hb => by injection hb with hb; exact Or.inl hb.symm)
          have R5 := hid (R4.out.no h45)
          have s4 := q4.size
          clear s5
          go_wp2
          go_loopw [10, 11] (fun v i wr => ∃ (O : List Int) (j : Nat), j ≤ O.length ∧ i = .int .i64 j ∧ Chg (fun b => b = w4.heap.size) w5 wr ∧ Hid (BfsOk (gOf xs kind many) key (xs.map (·.key)) O j) ∧ Hid (OInts wr w4.heap.size v O) ∧ Hid (∀ b, v.ownBlock = some b → b = w4.heap.size ∨ w5.heap.size ≤ b)) (fun _ i _ => 20 - (intOf i).toNat)
          case atStart => exact ⟨[key], 0, Nat.zero_le _, rfl, by first | exact Chg.refl _ _ | (rw [← hw5]; exact Chg.refl _ _), HB0, by first | exact HO0 | (rw [hw5]; exact HO0), HW0⟩
          case round =>
            clear HO0 HW0 HB0 hw5
            obtain ⟨O, j, hj, rfl, hc, HB, HO, HW⟩ := hrel
            obtain ⟨wo, rfl⟩ : ∃ W : World, W = wr := ⟨_, rfl⟩
            have so := hc.size
            have qo : Chg No w wo := q5.trans hc (fun i hi (h : i = _) => by omega)
            have hOl : O.length ≤ 16 := by have h9 := HB.out.len; rw [List.length_map] at h9; omega
            obtain ⟨A9, c9, hv9, hr9⟩ := OInts.read HO.out
            subst hv9
            have hp9 := hr9.cap; have hq9 := hr9.le
            have HR9 := hid hr9
            clear hr9
            by_cases hlt : j < O.length
            · obtain ⟨b, o, y, rfl, _, _, hyj, hE⟩ := HR9.out.at_ hlt
              have f1 : wo.cell? ⟨b, o + j, none⟩ = some (.int .i64 y) := by simpa [EInt] using hE
              obtain ⟨q, x, hxq, hxy, hkq⟩ := keyAt_some HOK.out.store (HB.out.inn y (List.mem_of_getElem? hyj))
              have hql := (List.getElem?_eq_some_iff.1 hxq).1
              have hqn : q < n := by omega
              have hqL : q < L.length := by omega
              have KX := hid (fun W (h : Chg No wo W) => sKeyAtC l0 h0 A n c xs y W (HX.out.no (qo.no h)))
              rw [hkq] at KX
              have HY := hid hyj
              have HQ := hid hkq
              clear hyj hE hxq hxy hkq hql
              (go_wp2_with fail; (with_reducible refine (KX.out _ (Chg.refl _ _)).mono ?_); rintro e w6 ⟨rfl, hc6⟩)
              obtain ⟨bL, oL, r, Ar, nr, cr, rfl, _, _, hr, fL, hvr⟩ := ((R5.out.keep hc (fun b h1 h2 (h3 : b = _) => by omega)).no hc6).at_ hqL
              have hrr : r = gOf xs kind many y := by
                have h9 := linksL_at (l := xs) (kind := kind) (many := many) (i := q) (by omega)
                rw [HLL.out, hr] at h9
                injection h9 with h9
                rw [h9]; unfold gOf; rw [HQ.out]; rfl
              have hr16 : r.length ≤ 16 := by rw [hrr]; unfold gOf; rw [HQ.out]; rw [show ((q : Int)).toNat = q from rfl, linkAt_len (by omega)]; omega
              obtain rfl : nr = r.length := hvr.len.symm
              have hlr := hvr.le; have hpr := hvr.cap
              have HRR := hid hrr
              have HVR := hid hvr
              have s6 := hc6.size
              have HO6 := hid (OSl.no HO.out hc6)
              have hc06 : Chg (fun b => b = w4.heap.size) w5 w6 := hc.no hc6
              have s56 := hc06.size
              clear hr hvr hrr HO HR9
              go_wp2
              go_loopw [10, 13] (fun v i wr => ∃ (O' : List Int) (m : Nat), m ≤ r.length ∧ i = .int .i64 m ∧ Chg (fun b => w4.heap.size ≤ b) w6 wr ∧ Chg (fun b => b = w4.heap.size) w5 wr ∧ Hid (BfsOk (gOf xs kind many) key (xs.map (·.key)) O' j) ∧ Hid (O'[j]? = some y) ∧ Hid (∀ z ∈ r.take m, z ∈ O') ∧ Hid (OInts wr w4.heap.size v O') ∧ Hid (∀ b, v.ownBlock = some b → b = w4.heap.size ∨ w5.heap.size ≤ b)) (fun _ i _ => r.length - (intOf i).toNat)
              case atStart => exact ⟨O, 0, Nat.zero_le _, rfl, Chg.refl _ _, hc06, HB, HY, hid (fun z hz => by simp at hz), HO6, HW⟩
              case round =>
                clear HO6 HW HB HY hlt hc06 hOl hp9 hq9 hj
                obtain ⟨O', m, hm, rfl, hcm6, hcm, HB, HY, HA, HO, HW⟩ := hrel
                obtain ⟨wi, rfl⟩ : ∃ W : World, W = wr := ⟨_, rfl⟩
                have si := hcm.size
                have hOl : O'.length ≤ 16 := by have h9 := HB.out.len; rw [List.length_map] at h9; omega
                have hjO : j < O'.length := (List.getElem?_eq_some_iff.1 HY.out).1
                obtain ⟨A8, c8, hv8, hr8⟩ := OInts.read HO.out
                subst hv8
                have hp8 := hr8.cap; have hq8 := hr8.le
                have HR8 := hid hr8
                clear hr8
                by_cases hlm : m < r.length
                · obtain ⟨b7, o7, z, rfl, _, _, hzm, hE⟩ := (HVR.out.keep hcm6 (fun b h1 h2 (h3 : _ ≤ b) => by omega)).at_ hlm
                  have g1 : wi.cell? ⟨b7, o7 + m, none⟩ = some (.int .i64 z) := by simpa [EInt] using hE
                  have hzr : z ∈ gOf xs kind many y := by rw [← HRR.out]; exact List.mem_of_getElem? hzm
                  have HZ := hid hzr
                  have HTK := hid (take_snoc hzm)
                  have KC := hid (sIsIn _ _ A8 O'.length c8 O' z wi HR8.out)
                  clear hzm hE hzr
                  by_cases hin : z ∈ O'
                  · rw [decide_eq_true hin] at KC
                    have HA2 := hid (show ∀ z ∈ r.take (m + 1), z ∈ O' from fun u hu => by
                      rw [HTK.out] at hu
                      rcases List.mem_append.1 hu with hu | hu
                      · exact HA.out u hu
                      · rw [List.mem_singleton.1 hu]; exact hin)
                    clear hin
                    (go_wp2_with fail; (with_reducible refine KC.out.mono ?_); rintro e w7 ⟨rfl, rfl⟩)
                    go_wp2
                    go_roundw
                    case rel => exact ⟨O', m + 1, by omega, by go_num, hcm6, hcm, HB, HY, HA2, HO, HW⟩
                    case measure => simp [intOf]; omega
                  · rw [decide_eq_false hin] at KC
                    have HB2 := hid (HB.out.push (Nat.le_of_lt hjO) (List.mem_of_getElem? HY.out) HZ.out (gOf_keys HZ.out) hin)
                    have HA2 := hid (show ∀ u ∈ r.take (m + 1), u ∈ O' ++ [z] from fun u hu => by
                      rw [HTK.out] at hu
                      rcases List.mem_append.1 hu with hu | hu
                      · exact List.mem_append.2 (Or.inl (HA.out u hu))
                      · exact List.mem_append.2 (Or.inr hu))
                    have HY2 := hid (show (O' ++ [z])[j]? = some y from by rw [List.getElem?_append_left hjO]; exact HY.out)
                    have HH := hid (OSl.alloc HO.out (.cells #[.int .i64 z] 3))
                    have HX1 := hid (Src.one (sz := 1) (enc := cInt) (y := z) (Box.new (w := wi) (g := wi.heap.size) [.int .i64 z] 3 rfl) rfl)
                    clear hin
                    (go_wp2_with fail; (with_reducible refine KC.out.mono ?_); rintro e w7 ⟨rfl, rfl⟩)
                    go_wp2_with (at_builtin; refine wpList_push _ rfl _ _ 26 rfl 3 1 8 (.int .i64 0) cInt Try.underlying26 infoInt rfl (by omega) (by omega) (fun _ => rfl) oneInt w4.heap.size _ O' rfl HH.out _ 1 1 [z] rfl HX1.out (by omega) (by simp; omega) ?_; intro v' w8 ho hg2 hb2)
                    have hc8 : Chg (fun b => b = w4.heap.size) w5 w8 := Chg.grown (hcm.alloc _) hg2 (fun b hb hlt => by
                      rcases HW.out b hb with h | h
                      · exact h
                      · omega)
                    have hc86 : Chg (fun b => w4.heap.size ≤ b) w6 w8 := Chg.grown (hcm6.alloc _) hg2 (fun b hb hlt => by
                      rcases HW.out b hb with h | h
                      · exact Nat.le_of_eq h.symm
                      · exact Nat.le_trans (by omega) h)
                    have HW2 : Hid (∀ b, v'.ownBlock = some b → b = w4.heap.size ∨ w5.heap.size ≤ b) := fun b hb => by
                      rcases hb2 b hb with h | h
                      · exact HW.out b h
                      · simp only [World.size_alloc] at h; exact Or.inr (by omega)
                    have HO2 := hid ho
                    clear ho hg2 hb2 HX1 HH HO HW
                    go_wp2
                    go_roundw
                    case rel => exact ⟨O' ++ [z], m + 1, by omega, by go_num, hc86, hc8, HB2, HY2, HA2, HO2, HW2⟩
                    case measure => simp [intOf]; omega
                · have HB2 := hid (HB.out.next HY.out (fun z hz => HA.out z (by rw [List.take_of_length_le (by omega), HRR.out]; exact hz)))
                  go_wp2
                  go_roundw
                  case rel => exact ⟨O', j + 1, by omega, by go_num, hcm, HB2, HO, HW⟩
                  case measure => simp [intOf]; omega
            · have hjO : j = O.length := by omega
              subst hjO
              skip
              have HEND := hid (bfs_filter HB.out)
              have HN0 := hid (OSl.lit (T := 3) (sz := 1) (enc := cInt) (w := wo.alloc (.cells #[] 3)) (base := wo.heap.size) (n := 0) [] [] (fun _ => rfl) rfl rfl (by omega) (Nat.le_refl _) (heap_top rfl))
              have sw := qo.size
              clear HB HO HW
              go_wp2
              go_loopw [14, 15] (fun v i wr => ∃ k : Nat, k ≤ n ∧ i = .int .i64 k ∧ Chg No wo wr ∧ Hid (OInts wr wo.heap.size v (((xs.map (·.key)).take k).filter fun k => decide (k ∈ O)))) (fun _ i _ => n - (intOf i).toNat)
              case atStart => exact ⟨0, Nat.zero_le _, rfl, (Chg.refl _ _).alloc _, HN0⟩
              case round =>
                clear HN0
                obtain ⟨k, hk, rfl, hck, HN⟩ := hrel
                obtain ⟨wi, rfl⟩ : ∃ W : World, W = wr := ⟨_, rfl⟩
                have si := hck.size
                by_cases hlk : k < n
                · obtain ⟨b, o, z, rfl, _, _, hzk, hE⟩ := (HX.out.no (qo.no hck)).at_ hlk
                  obtain ⟨zk, zv, zt⟩ := z
                  have f1 : wi.cell? ⟨b, o + k * 3, none⟩ = some (.int .i64 zk) := hE.1
                  have hzk2 : (xs.map (·.key))[k]? = some zk := by rw [List.getElem?_map, hzk]; rfl
                  have HD := hid (filt_snocK (fun k => decide (k ∈ O)) hzk2)
                  have hfl := List.length_filter_le (fun k => decide (k ∈ O)) ((xs.map (·.key)).take k)
                  rw [List.length_take] at hfl
                  generalize ((xs.map (·.key)).take k).filter (fun k => decide (k ∈ O)) = T at *
                  obtain ⟨A8, c8, hv8, hr8⟩ := OInts.read HN.out
                  subst hv8
                  have hp8 := hr8.cap; have hq8 := hr8.le
                  have KC := hid (sIsIn _ _ A9 O.length c9 O zk wi (HR9.out.no hck))
                  clear hzk hzk2 hE hr8
                  by_cases hin : zk ∈ O
                  · rw [decide_eq_true hin] at KC
                    have HD2 := HD.out
                    rw [if_pos (decide_eq_true hin)] at HD2
                    have HD3 := hid HD2
                    have HH := hid (OSl.alloc HN.out (.cells #[.int .i64 zk] 3))
                    have HX1 := hid (Src.one (sz := 1) (enc := cInt) (y := zk) (Box.new (w := wi) (g := wi.heap.size) [.int .i64 zk] 3 rfl) rfl)
                    clear hin HD HD2
                    (go_wp2_with fail; (with_reducible refine KC.out.mono ?_); rintro e w7 ⟨rfl, rfl⟩)
                    go_wp2_with (at_builtin; refine wpList_push _ rfl _ _ 26 rfl 3 1 8 (.int .i64 0) cInt Try.underlying26 infoInt rfl (by omega) (by omega) (fun _ => rfl) oneInt wo.heap.size _ T rfl HH.out _ 1 1 [zk] rfl HX1.out (by omega) (by simp; omega) ?_; intro v' w8 ho hg2 hb2)
                    have hc8 : Chg No wo w8 := Chg.pushed (hck.alloc _) hg2 HH.out (Nat.le_refl _)
                    have HO2 : Hid (OInts w8 wo.heap.size v' (((xs.map (·.key)).take (k + 1)).filter fun k => decide (k ∈ O))) := by show OInts _ _ _ _; rw [HD3.out]; exact ho
                    clear ho hg2 hb2 HX1 HH HN
                    go_wp2
                    go_roundw
                    case rel => exact ⟨k + 1, by omega, by go_num, hc8, HO2⟩
                    case measure => simp [intOf]; omega
                  · rw [decide_eq_false hin] at KC
                    have HD2 := HD.out
                    rw [if_neg (by rw [decide_eq_false hin]; simp), List.append_nil] at HD2
                    have HO2 := hid (Eq.mp (congrArg (fun l => OSl 3 1 cInt wi wo.heap.size (.slice A8 T.length c8) l) HD2.symm) HN.out)
                    clear hin HD HD2 HN
                    (go_wp2_with fail; (with_reducible refine KC.out.mono ?_); rintro e w7 ⟨rfl, rfl⟩)
                    go_wp2
                    go_roundw
                    case rel => exact ⟨k + 1, by omega, by go_num, hck, HO2⟩
                    case measure => simp [intOf]; omega
                · have h9 := HN.out
                  rw [List.take_of_length_le (by rw [List.length_map]; omega), HEND.out] at h9
                  have HO6 := hid (OSl.down h9 (base' := w.heap.size) sw)
                  clear HN h9
                  go_wp2
                  go_ret
                  exact ⟨_, rfl, by rw [HF.out]; exact HO6.out, qo.no hck⟩
        · have hk0' : keyAtF xs key < 0 := by omega
          have HF := hid (ReachF_no (key := key) (by unfold reachOk; rw [hq, decide_eq_false hk0]; rfl))
          generalize keyAtF xs key = r at *
          clear hq hx hk0 h1 h2 h3 hcq
          go_enter Try.func14, Try.ntmps14
          (go_wp2_with fail; (with_reducible refine (K1.out _ HX.out).mono ?_); rintro e w1 ⟨rfl, hc1⟩)
          (go_wp2_with fail; (with_reducible refine (K2.out _).mono ?_); rintro e w2 ⟨rfl, rfl⟩)
          (go_wp2_with fail; (with_reducible refine (K3.out _).mono ?_); rintro e w2 ⟨rfl, rfl⟩)
          (go_wp2_with fail; (with_reducible refine (K4.out _ (HX.out.no hc1)).mono ?_); rintro e w2 ⟨rfl, rfl⟩)
          go_wp2
          go_ret
          exact ⟨_, rfl, by rw [HF.out]; exact OSl.nil_ _, by (repeat (first | (with_reducible exact Chg.refl _ _) | ((with_reducible refine Chg.setNew ?_ _ ?_); rotate_left; first | (dsimp only; omega) | (simp; done) | (simp; omega)) | (with_reducible refine Chg.alloc ?_ _) | (with_reducible refine Chg.drew ?_) | (with_reducible refine Chg.drewN ?_ _) | (with_reducible refine Chg.no ?_ (by assumption)) | (with_reducible refine Chg.and_ ?_ (by assumption)) | ((with_reducible refine Chg.at_ ?_ (by assumption) ?_); rotate_left; (try simp only [World.size_alloc]); omega)))⟩
end Go.Proofs.Ytodiackopgcnaaa
