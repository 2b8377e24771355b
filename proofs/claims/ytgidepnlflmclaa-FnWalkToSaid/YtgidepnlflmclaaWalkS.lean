/- WalkTo: the reference's. -/
import Derived.Test.YtgidepnlflmclaaWalk0
import Derived.Test.YtgidepnlflmclaaIndex
namespace Go.Proofs.Ytgidepnlflmclaa
open Go.RowKit Go.Sort Go.Shelf
set_option linter.unusedVariables false
set_option linter.unusedSimpArgs false
theorem walkB_query (l : List It) (kind many key : Int) (at_ : List Int) : walkB l kind many key at_ = (queryB l kind at_ && (inB many 1 5 && decide (0 ≤ keyAtF l key))) := by
  unfold walkB linkB queryB inB
  cases storeB l <;> cases kindB kind <;> cases vecB at_ <;> simp
/-- the next of a walk, from the best one -/
theorem next_is {l : List It} {kind many : Int} {at_ : List Int} {k kb db dx : Int} (hb : (kb, db) = bestOf (hitK l kind at_ k) ((gOf l kind many k).map (hitK l kind at_))) (hx : (k, dx) = hitK l kind at_ k) : (kb = k → db = dx ∧ nextF l kind many at_ k = none) ∧ (kb ≠ k → nextF l kind many at_ k = some kb ∧ (kb, db) = hitK l kind at_ kb) := by
  have hn : (kb, db) ≠ hitK l kind at_ k → nextF l kind many at_ k = some kb := fun h => by
    unfold nextF
    rw [← hb, if_neg h]
  constructor
  · intro e
    by_cases h : (kb, db) = hitK l kind at_ k
    · constructor
      · rw [← hx] at h; injection h
      · unfold nextF; rw [← hb, if_pos h]
    · have h1 := next_less (hn h)
      rw [e] at h1
      exact absurd h1 (Nat.lt_irrefl _)
  · intro e
    have h : (kb, db) ≠ hitK l kind at_ k := fun h => e (by rw [← hx] at h; injection h)
    have h1 := hn h
    refine ⟨h1, ?_⟩
    rw [(next_some h1).2.2, hb]
/-- how long a slice is -/
def lenS : Value → Nat
  | .slice _ n _ => n
  | _ => 0
set_option maxRecDepth 100000 in
set_option maxHeartbeats 8000000 in
theorem sWalkTo (l0 h0 : Nat) (A : Option Addr) (n c : Nat) (xs : List It) (l1 h1 : Nat) (A' : Option Addr) (n' c' : Nat) (at_ : List Int) (kind many key : Int) (w : World) (hx : RItems w l0 h0 A n c xs) (hy : RInts w l1 h1 A' n' c' at_) :
    Calls Try.prog 13 #[.slice A n c, .int .i64 kind, .int .i64 many, .int .i64 key, .slice A' n' c'] w (RetWalk (WalkF xs kind many key at_) (walkB xs kind many key at_) w) := by
  have hnc := hx.le; have hcm := hx.cap
  have hnc' := hy.le; have hcm' := hy.cap
  have HX := hid hx; have HY := hid hy
  have K1 := hid (fun W (h : RItems W l0 h0 A n c xs) (h' : RInts W l1 h1 A' n' c' at_) => sValidQuery l0 h0 A n c xs l1 h1 A' n' c' at_ kind W h h')
  have K2 := hid (fun W => inRange many 1 5 W)
  have K3 := hid (fun W (h : RItems W l0 h0 A n c xs) => sKeyAt l0 h0 A n c xs key W h)
  have hwe := walkB_query xs kind many key at_
  cases hq : queryB xs kind at_ with
  | false =>
    have hwq : walkB xs kind many key at_ = false := by rw [hwe, hq]; rfl
    rw [hq] at K1
    have HF := hid (WalkF_no hwq)
    rw [hwq]
    clear hq hwq hx hy hwe
    go_enter Try.func13, Try.ntmps13
    (go_wp2_with fail; (with_reducible refine (K1.out _ HX.out HY.out).mono ?_); rintro e w1 ⟨rfl, hc1⟩)
    go_wp2
    go_ret2
    exact ⟨_, rfl, by rw [HF.out]; exact OSl.nil_ _, by (repeat (first | (with_reducible exact Chg.refl _ _) | ((with_reducible refine Chg.setNew ?_ _ ?_); rotate_left; first | (dsimp only; omega) | (simp; done) | (simp; omega)) | (with_reducible refine Chg.alloc ?_ _) | (with_reducible refine Chg.drew ?_) | (with_reducible refine Chg.drewN ?_ _) | (with_reducible refine Chg.no ?_ (by assumption)) | (with_reducible refine Chg.and_ ?_ (by assumption)) | ((with_reducible refine Chg.at_ ?_ (by assumption) ?_); rotate_left; (try simp only [World.size_alloc]); omega)))⟩
  | true =>
    rw [hq] at K1
    cases hm : inB many 1 5 with
    | false =>
      have hwq : walkB xs kind many key at_ = false := by rw [hwe, hq, hm]; rfl
      rw [hm] at K2
      have HF := hid (WalkF_no hwq)
      rw [hwq]
      clear hq hm hwq hx hy hwe
      go_enter Try.func13, Try.ntmps13
      (go_wp2_with fail; (with_reducible refine (K1.out _ HX.out HY.out).mono ?_); rintro e w1 ⟨rfl, hc1⟩)
      (go_wp2_with fail; (with_reducible refine (K2.out _).mono ?_); rintro e w2 ⟨rfl, rfl⟩)
      go_wp2
      go_ret2
      exact ⟨_, rfl, by rw [HF.out]; exact OSl.nil_ _, by (repeat (first | (with_reducible exact Chg.refl _ _) | ((with_reducible refine Chg.setNew ?_ _ ?_); rotate_left; first | (dsimp only; omega) | (simp; done) | (simp; omega)) | (with_reducible refine Chg.alloc ?_ _) | (with_reducible refine Chg.drew ?_) | (with_reducible refine Chg.drewN ?_ _) | (with_reducible refine Chg.no ?_ (by assumption)) | (with_reducible refine Chg.and_ ?_ (by assumption)) | ((with_reducible refine Chg.at_ ?_ (by assumption) ?_); rotate_left; (try simp only [World.size_alloc]); omega)))⟩
    | true =>
      rw [hm] at K2
      by_cases hk0 : 0 ≤ keyAtF xs key
      · have hwq : walkB xs kind many key at_ = true := by rw [hwe, hq, hm, decide_eq_true hk0]; rfl
        have HF := hid (WalkF_ok hwq)
        have hlk : linkB xs kind many = true := by unfold walkB at hwq; rw [Bool.and_eq_true] at hwq; exact hwq.1
        have hvb : vecB at_ = true := by unfold walkB at hwq; rw [Bool.and_eq_true, Bool.and_eq_true] at hwq; exact hwq.2.1
        rw [hwq]
        have hok := linkB_ok hlk
        have HKA := hid (keyAt_mem.1 hk0)
        have HOK := hid hok
        have HVB := hid hvb
        have hxl : xs.length = n := hx.len
        have hn16 : n ≤ 16 := by have := storeB_len hok.store; omega
        have K5 := hid (fun W (h : RItems W l0 h0 A n c xs) => sLinksL l0 h0 A n c xs kind many W h hok)
        obtain ⟨L, hL⟩ : ∃ L, linksL xs kind many = L := ⟨_, rfl⟩
        have hLl : L.length = xs.length := by rw [← hL, linksL_len]
        rw [hL] at K5
        have HLL := hid hL
        obtain ⟨q0, x0, hx0, hxk, hkq⟩ := keyAt_some hok.store (keyAt_mem.1 hk0)
        rw [hkq] at K3
        have HX0 := hid hx0
        have HXK := hid hxk
        have hq0 : q0 < n := by have := (List.getElem?_eq_some_iff.1 hx0).1; omega
        have HXL := hid hxl
        have hLn : n ≤ L.length := by omega
        have hLn2 : L.length ≤ n := by omega
        have hxn : n ≤ xs.length := by omega
        have hxn2 : xs.length ≤ n := by omega
        have HWL := hid (walk_len (kind := kind) (many := many) (at_ := at_) HKA.out).2
        clear hq hm hwq hx hy hwe hok hL hLl hxl hk0 hkq hx0 hxk hlk hvb
        go_enter Try.func13, Try.ntmps13
        (go_wp2_with fail; (with_reducible refine (K1.out _ HX.out HY.out).mono ?_); rintro e w1 ⟨rfl, hc1⟩)
        (go_wp2_with fail; (with_reducible refine (K2.out _).mono ?_); rintro e w2 ⟨rfl, rfl⟩)
        (go_wp2_with fail; (with_reducible refine (K3.out _ (HX.out.no hc1)).mono ?_); rintro e w2 ⟨rfl, rfl⟩)
        (go_wp2_with fail; (with_reducible refine (K5.out _ (HX.out.no hc1)).mono ?_); rintro e w4 ⟨v4, rfl, ho4, hc4⟩)
        obtain ⟨A4, c4, rfl, hr4⟩ := ORows.read ho4
        have hp4 := hr4.cap; have hq4 := hr4.le
        have R4 := hid hr4
        have q4 : Chg No w w4 := hc1.no hc4
        have s4 := q4.size
        have X4 := hid (HX.out.no q4); have Y4 := hid (HY.out.no q4)
        clear ho4 hr4 hc1 hc4 K1 K2 K5
        (go_wp2_with fail; (with_reducible refine (K3.out _ X4.out).mono ?_); rintro e w5 ⟨rfl, rfl⟩)
        have KI := hid (fun z W (h : Chg No w4 W) => sKeyAt l0 h0 A n c xs z W (X4.out.no h))
        obtain ⟨b, o, z0, rfl, _, _, hz0, hE⟩ := X4.out.at_ hq0
        have e0 : z0 = x0 := by have h9 := HX0.out; rw [hz0] at h9; injection h9
        subst e0
        obtain ⟨zk, zv, zt⟩ := z0
        obtain ⟨hE1, ⟨A1, n1, c1, hE2, hv⟩, hE3⟩ := hE
        have f1 : w4.cell? ⟨b, o + q0 * 3, none⟩ = some (.int .i64 zk) := hE1
        have f2 : w4.cell? ⟨b, o + q0 * 3 + 1, none⟩ = some (.slice A1 n1 c1) := hE2
        have f3 : w4.cell? ⟨b, o + q0 * 3 + 2, none⟩ = some (.int .i64 zt) := hE3
        have hzv := storeB_vec HOK.out.store (List.mem_of_getElem? hz0)
        have K6 := hid (fun W (h : Chg No w4 W) => sHit l0 h0 l1 h1 A1 A' n1 c1 n' c' zk zt zv at_ kind W (RInts.no hv h) (Y4.out.no h) hzv HVB.out HOK.out.kind1 HOK.out.kind4)
        have hkz : zk = key := HXK.out
        have HD0 := hid (show (zk, distF kind zv at_) = hitK xs kind at_ zk from (hitK_eq HOK.out.store kind at_ hz0).symm)
        obtain ⟨d0, hd0⟩ : ∃ d, distF kind zv at_ = d := ⟨_, rfl⟩
        rw [hd0] at K6 HD0
        subst hkz
        clear hz0 hE1 hE2 hE3 hv hzv hd0 HXK HX0 K3
        (go_wp2_with fail; (with_reducible refine (K6.out _ (Chg.refl _ _)).mono ?_); rintro e w5 ⟨rfl, hc5⟩)
        have s5 := hc5.size
        obtain ⟨w6, hw6⟩ : ∃ W, (w5.alloc (.cells #[.int .i64 zk, .int .i64 d0] 43)).alloc (.cells #[.int .i64 zk] 3) = W := ⟨_, rfl⟩
        have h46 : Chg No w4 w6 := by rw [← hw6]; exact (hc5.alloc _).alloc _
        have BH0 := hid (show Box w6 w5.heap.size [.int .i64 zk, .int .i64 d0] from by rw [← hw6]; exact (Box.new (w := w5) [.int .i64 zk, .int .i64 d0] 43 rfl).alloc _)
        have HO0 := hid (show OInts w6 (w5.heap.size + 1) (.slice (some ⟨w5.heap.size + 1, 0, none⟩) 1 1) [zk] from by rw [← hw6]; exact OSl.lit (T := 3) (sz := 1) (enc := cInt) (base := w5.heap.size + 1) (n := 1) [zk] [.int .i64 zk] (fun _ => rfl) rfl rfl (by omega) (Nat.le_refl _) (heap_top (by simp)))
        have HW0 := hid (show walkL xs kind many at_ zk = [zk] ++ (walkL xs kind many at_ zk).tail from walk_cons _ _ _ _ _)
        have HKM := HKA
        go_wp2
        go_loopw [14] (fun v wr => ∃ (kx dx : Int) (O : List Int), Hid (kx ∈ xs.map (·.key)) ∧ Hid ((kx, dx) = hitK xs kind at_ kx) ∧ Chg No w4 wr ∧ Hid (Box wr w5.heap.size [.int .i64 kx, .int .i64 dx]) ∧ Hid (OInts wr (w5.heap.size + 1) v O) ∧ Hid (walkL xs kind many at_ zk = O ++ (walkL xs kind many at_ kx).tail)) (fun v _ => 17 - lenS v)
        case atStart => exact ⟨zk, d0, [zk], HKM, HD0, by first | exact h46 | (rw [hw6]; exact h46), by first | exact BH0 | (rw [hw6]; exact BH0), by first | exact HO0 | (rw [hw6]; exact HO0), HW0⟩
        case round =>
          clear HO0 HW0 hw6 h46 HKM HD0 BH0
          obtain ⟨kx, dx, O, HKX, HDX, hc, BH, HO, HW⟩ := hrel
          obtain ⟨wo, rfl⟩ : ∃ W : World, W = wr := ⟨_, rfl⟩
          have so := hc.size
          obtain ⟨q, x, hxq, hxk, hkq⟩ := keyAt_some HOK.out.store HKX.out
          have hqn : q < n := by have := (List.getElem?_eq_some_iff.1 hxq).1; omega
          have hqL : q < L.length := by omega
          have hOl : O.length ≤ 16 := by
            have h9 := HWL.out
            rw [HW.out, List.length_append] at h9
            omega
          obtain ⟨A9, c9, hv9, hr9⟩ := OInts.read HO.out
          subst hv9
          have hp9 := hr9.cap; have hq9 := hr9.le
          obtain ⟨bL, oL, r, Ar, nr, cr, rfl, _, _, hr, fL, hvr⟩ := (R4.out.no hc).at_ hqL
          have hrr : r = gOf xs kind many kx := by
            have h9 := linksL_at (l := xs) (kind := kind) (many := many) (i := q) (by omega)
            rw [HLL.out, hr] at h9
            injection h9 with h9
            rw [h9]; unfold gOf; rw [hkq]; rfl
          have hrl : r.length = nr := hvr.len
          have hr16 : nr ≤ 16 := by
            rw [← hrl, hrr]; unfold gOf; rw [hkq]; rw [show ((q : Int)).toNat = q from rfl, linkAt_len (by omega)]; omega
          have hlr := hvr.le; have hpr := hvr.cap
          have HRR := hid hrr
          have HVR := hid hvr
          have HRL := hid hrl
          obtain ⟨wz, hwz⟩ : ∃ W, wo.alloc (.cells #[.int .i64 kx, .int .i64 dx] 43) = W := ⟨_, rfl⟩
          have hcz : Chg No wo wz := by rw [← hwz]; exact (Chg.refl No wo).alloc _
          have BZ := hid (show Box wz wo.heap.size [.int .i64 kx, .int .i64 dx] from by rw [← hwz]; exact Box.new _ _ rfl)
          have BH2 := hid (BH.out.no hcz)
          have tH := BH.out.lt
          have q0 := BH.out.f2
          have q1 := BH2.out.f2
          have f4 : wz.cell? ⟨bL, oL + q, none⟩ = some (.slice Ar nr cr) := cell_keep hcz fL (fun e => e)
          have KX := hid (KI.out kx wz (hc.no hcz))
          rw [hkq] at KX
          have HB0 := hid (show (kx, dx) = bestOf (hitK xs kind at_ kx) ((r.take 0).map (hitK xs kind at_)) from by rw [HDX.out]; simp [bestOf])
          have h4z : Chg No w4 wz := hc.no hcz
          clear hr hvr hrr hr9 hrl fL hxq hxk hkq
          (go_wp2_with fail; (with_reducible refine (KX.out).mono ?_); rintro e wy ⟨rfl, rfl⟩)
          have sz := hcz.size
          go_wp2
          go_loopw [17] (fun i wr => ∃ (m : Nat) (kb db : Int), m ≤ nr ∧ i = .int .i64 m ∧ Hid ((kb, db) = bestOf (hitK xs kind at_ kx) ((r.take m).map (hitK xs kind at_))) ∧ Chg (At wo.heap.size) wz wr ∧ Hid (Box wr wo.heap.size [.int .i64 kb, .int .i64 db])) (fun i _ => nr - (intOf i).toNat)
          case atStart => exact ⟨0, kx, dx, Nat.zero_le _, rfl, HB0, Chg.refl _ _, BZ⟩
          case round =>
            clear HB0 BZ hwz q0 q1 f4
            obtain ⟨m, kb, db, hm, rfl, HBB, hcm, BB⟩ := hrel
            obtain ⟨wi, rfl⟩ : ∃ W : World, W = wr := ⟨_, rfl⟩
            have si := hcm.size
            have hoi : Chg No wo wi := hcz.at_ hcm (Nat.le_refl _)
            have hci : Chg No w4 wi := hc.no hoi
            have tB := BB.out.lt
            by_cases hlm : m < nr
            · obtain ⟨b7, o7, z, rfl, _, _, hzm, hE⟩ := (HVR.out.no hoi).at_ hlm
              have g1 : wi.cell? ⟨b7, o7 + m, none⟩ = some (.int .i64 z) := by simpa [EInt] using hE
              have hzr : z ∈ gOf xs kind many kx := by rw [← HRR.out]; exact List.mem_of_getElem? hzm
              obtain ⟨qm, xm, hxm, hxmk, hkqm⟩ := keyAt_some HOK.out.store (gOf_keys hzr)
              have hqm : qm < n := by have := (List.getElem?_eq_some_iff.1 hxm).1; omega
              have KX2 := hid (KI.out z wi hci)
              rw [hkqm] at KX2
              have hTK := take_snoc hzm
              obtain ⟨b', o', zm, hA7, _, _, hzm2, hE⟩ := (X4.out.no hci).at_ hqm
              injection hA7 with hA7
              injection hA7 with e1 e2 _
              subst e1 e2
              have e3 : zm = xm := by rw [hzm2] at hxm; injection hxm
              subst e3
              obtain ⟨zk, zv, zt⟩ := zm
              obtain ⟨hE1, ⟨A1, n1, c1, hE2, hv⟩, hE3⟩ := hE
              have f1 : wi.cell? ⟨b, o + qm * 3, none⟩ = some (.int .i64 zk) := hE1
              have f2 : wi.cell? ⟨b, o + qm * 3 + 1, none⟩ = some (.slice A1 n1 c1) := hE2
              have f3 : wi.cell? ⟨b, o + qm * 3 + 2, none⟩ = some (.int .i64 zt) := hE3
              have hzv := storeB_vec HOK.out.store (List.mem_of_getElem? hxm)
              have K8 := hid (fun W (h : Chg No wi W) => sHit l0 h0 l1 h1 A1 A' n1 c1 n' c' zk zt zv at_ kind W (RInts.no hv h) (Y4.out.no (hci.no h)) hzv HVB.out HOK.out.kind1 HOK.out.kind4)
              have hdm : hitK xs kind at_ z = (zk, distF kind zv at_) := by rw [← hxmk]; exact hitK_eq HOK.out.store kind at_ hxm
              obtain ⟨dm, hdd⟩ : ∃ d, distF kind zv at_ = d := ⟨_, rfl⟩
              rw [hdd] at K8 hdm
              have HSN := hid (show bestOf (hitK xs kind at_ kx) ((r.take (m + 1)).map (hitK xs kind at_)) = if nearB (zk, dm) (kb, db) = true then (zk, dm) else (kb, db) from by
                rw [hTK, List.map_append, List.map_cons, List.map_nil, bestOf_snoc, ← HBB.out, hdm])
              clear hzm hE hE1 hE2 hE3 hv hzv hzr hxm hxmk hkqm hTK hzm2 hdm hdd
              (go_wp2_with fail; (with_reducible refine (KX2.out).mono ?_); rintro e wa ⟨rfl, rfl⟩)
              (go_wp2_with fail; (with_reducible refine (K8.out _ (Chg.refl _ _)).mono ?_); rintro e wj ⟨rfl, hcj⟩)
              have sj := hcj.size
              obtain ⟨wk, hwk⟩ : ∃ W, wj.alloc (.cells #[.int .i64 zk, .int .i64 dm] 43) = W := ⟨_, rfl⟩
              have hck : Chg No wj wk := by rw [← hwk]; exact (Chg.refl No wj).alloc _
              have BX := hid (show Box wk wj.heap.size [.int .i64 zk, .int .i64 dm] from by rw [← hwk]; exact Box.new _ _ rfl)
              have hik : Chg No wi wk := hcj.no hck
              have p1 := BX.out.f2
              have p2 := (BB.out.no hik).f2
              have p3 := BX.out.lt
              have KN := hid (fun W => sNearer zk dm kb db W)
              by_cases hnn : nearB (zk, dm) (kb, db) = true
              · rw [hnn] at KN
                have HB2 := hid (show (zk, dm) = bestOf (hitK xs kind at_ kx) ((r.take (m + 1)).map (hitK xs kind at_)) from by rw [HSN.out, if_pos hnn])
                clear hnn HSN
                (go_wp2_with fail; (with_reducible refine (KN.out _).mono ?_); rintro e wl ⟨rfl, hcl⟩)
                have hil : Chg No wi wl := hik.no hcl
                have r1 := (BX.out.no hcl).f2
                have r2 := (BB.out.no hil).f2
                have r3 := (BX.out.no hcl).lt
                have sl := hil.size
                have BN := hid (((BB.out.no hil).set_ 0 (.int .i64 zk)).set_ 1 (.int .i64 dm))
                have hcn : Chg (At wo.heap.size) wz ((wl.setCell ⟨wo.heap.size, 0, none⟩ (.int .i64 zk)).setCell ⟨wo.heap.size, 1, none⟩ (.int .i64 dm)) := ((hcm.no hil).setCell (p := ⟨wo.heap.size, 0, none⟩) _ (fun _ => rfl)).setCell (p := ⟨wo.heap.size, 1, none⟩) _ (fun _ => rfl)
                clear p1 p2 hwk
                go_wp2
                go_roundw
                case rel => exact ⟨m + 1, zk, dm, by omega, by go_num, HB2, hcn, BN⟩
                case measure => simp [intOf]; omega
              · have hnf : nearB (zk, dm) (kb, db) = false := by simpa using hnn
                rw [hnf] at KN
                have HB2 := hid (show (kb, db) = bestOf (hitK xs kind at_ kx) ((r.take (m + 1)).map (hitK xs kind at_)) from by rw [HSN.out, if_neg hnn])
                clear hnn hnf HSN
                (go_wp2_with fail; (with_reducible refine (KN.out _).mono ?_); rintro e wl ⟨rfl, hcl⟩)
                have hil : Chg No wi wl := hik.no hcl
                have BN := hid (BB.out.no hil)
                have hcn : Chg (At wo.heap.size) wz wl := hcm.no hil
                clear p1 p2 hwk
                go_wp2
                go_roundw
                case rel => exact ⟨m + 1, kb, db, by omega, by go_num, HB2, hcn, BN⟩
                case measure => simp [intOf]; omega
            · have hmn : m = nr := by omega
              have HB3 := hid (show (kb, db) = bestOf (hitK xs kind at_ kx) ((gOf xs kind many kx).map (hitK xs kind at_)) from by
                have h9 := HBB.out
                rw [List.take_of_length_le (by rw [HRL.out, hmn]; exact Nat.le_refl _), HRR.out] at h9
                exact h9)
              have hnx := next_is HB3.out HDX.out
              have p1 := BB.out.f2
              have p2 := (BH.out.no hoi).f2
              have p3 := (BH.out.no hoi).lt
              have HOI := hid (OSl.no HO.out hoi)
              clear hmn HBB HB3
              by_cases hkk : kb = kx
              · obtain ⟨hdd, hnone⟩ := hnx.1 hkk
                subst hkk
                subst hdd
                have HW2 := hid (show walkL xs kind many at_ zk = O from by
                  have h9 := HW.out
                  rw [walkL_none hnone] at h9
                  rw [h9]; simp)
                have HO6 := hid (OSl.down HOI.out (base' := w.heap.size) (by omega))
                have h06 : Chg No w wi := q4.no hci
                clear hnx hnone HW
                go_wp2
                go_ret2
                exact ⟨_, rfl, by rw [HF.out, HW2.out]; exact HO6.out, h06⟩
              · obtain ⟨hsome, hkd⟩ := hnx.2 hkk
                have e1 : (kb == kx) = false := by simp [hkk]
                have HW2 := hid (show walkL xs kind many at_ zk = (O ++ [kb]) ++ (walkL xs kind many at_ kb).tail from by
                  have h9 := HW.out
                  rw [walkL_some hsome, List.tail_cons, walk_cons xs kind many at_ kb] at h9
                  rw [h9, List.append_assoc]; rfl)
                have HKB := hid (gOf_keys (next_some hsome).1)
                have HDB := hid hkd
                obtain ⟨wf, hwf⟩ : ∃ W, (wi.setCell ⟨w5.heap.size, 0, none⟩ (.int .i64 kb)).setCell ⟨w5.heap.size, 1, none⟩ (.int .i64 db) = W := ⟨_, rfl⟩
                have hcf : Chg (At w5.heap.size) wi wf := by rw [← hwf]; exact ((Chg.refl (At w5.heap.size) wi).setCell (p := ⟨w5.heap.size, 0, none⟩) _ (fun _ => rfl)).setCell (p := ⟨w5.heap.size, 1, none⟩) _ (fun _ => rfl)
                have BF := hid (show Box wf w5.heap.size [.int .i64 kb, .int .i64 db] from by rw [← hwf]; exact ((BH.out.no hoi).set_ 0 (.int .i64 kb)).set_ 1 (.int .i64 db))
                have sf := hcf.size
                have h4f : Chg No w4 wf := hci.at_ hcf s5
                have HOF := hid (OSl.keep HOI.out hcf (fun k h1 h2 (h3 : k = _) => by omega))
                have HH := hid (OSl.alloc HOF.out (.cells #[.int .i64 kb] 3))
                have HX1 := hid (Src.one (sz := 1) (enc := cInt) (y := kb) (Box.new (w := wf) (g := wf.heap.size) [.int .i64 kb] 3 rfl) rfl)
                have p4 := BF.out.f2
                have p5 := BF.out.lt
                clear hnx hsome hkd hkk HW
                go_wp2_with (at_builtin; go_loud (refine wpList_push _ rfl _ _ 23 rfl 3 1 8 (.int .i64 0) cInt Try.underlying23 infoInt rfl (by omega) (by omega) (fun _ => rfl) oneInt (w5.heap.size + 1) _ O rfl HH.out _ 1 1 [kb] rfl HX1.out (by omega) (by simp; omega) ?_; intro v' w8 ho hg2 hb2))
                have hc8 : Chg No w4 w8 := Chg.pushed (h4f.alloc _) hg2 HH.out (by omega)
                have BH8 := hid (Box.grown (BF.out.alloc (.cells #[.int .i64 kb] 3)) hg2 (fun h => by have h9 := (World.ownsRow.lt HH.out _ h).1; omega))
                obtain ⟨A6, c6, hv6, hr6⟩ := OInts.read ho
                have HO2 := hid ho
                subst hv6
                clear ho hg2 hb2 HX1 HH HO HOI HOF hwf hr6
                go_wp2
                go_roundw
                case rel => exact ⟨kb, db, O ++ [kb], HKB, HDB, hc8, BH8, HO2, HW2⟩
                case measure => simp [lenS]; omega
      · have hwq : walkB xs kind many key at_ = false := by rw [hwe, hq, hm, decide_eq_false hk0]; rfl
        have hk0' : keyAtF xs key < 0 := by omega
        have HF := hid (WalkF_no hwq)
        rw [hwq]
        generalize keyAtF xs key = r at *
        clear hq hm hwq hx hy hwe hk0
        go_enter Try.func13, Try.ntmps13
        (go_wp2_with fail; (with_reducible refine (K1.out _ HX.out HY.out).mono ?_); rintro e w1 ⟨rfl, hc1⟩)
        (go_wp2_with fail; (with_reducible refine (K2.out _).mono ?_); rintro e w2 ⟨rfl, rfl⟩)
        (go_wp2_with fail; (with_reducible refine (K3.out _ (HX.out.no hc1)).mono ?_); rintro e w2 ⟨rfl, rfl⟩)
        go_wp2
        go_ret2
        exact ⟨_, rfl, by rw [HF.out]; exact OSl.nil_ _, by (repeat (first | (with_reducible exact Chg.refl _ _) | ((with_reducible refine Chg.setNew ?_ _ ?_); rotate_left; first | (dsimp only; omega) | (simp; done) | (simp; omega)) | (with_reducible refine Chg.alloc ?_ _) | (with_reducible refine Chg.drew ?_) | (with_reducible refine Chg.drewN ?_ _) | (with_reducible refine Chg.no ?_ (by assumption)) | (with_reducible refine Chg.and_ ?_ (by assumption)) | ((with_reducible refine Chg.at_ ?_ (by assumption) ?_); rotate_left; (try simp only [World.size_alloc]); omega)))⟩
end Go.Proofs.Ytgidepnlflmclaa
