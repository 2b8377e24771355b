/- MutualLinks: the program's and the reference's answer the same plain function. -/
import Derived.Test.YtgidepnlflmclaaLinksJ
import Derived.Test.YtgidepnlflmclaaPMut
import Derived.Test.YtgidepnlflmclaaReach
import Derived.Deep.RegionLaw
import Derived.Deep.DeepCutAuto
namespace Go.Proofs.Ytgidepnlflmclaa
open Go.RowKit Go.Sort Go.Shelf
set_option linter.unusedVariables false
set_option linter.unusedSimpArgs false
/-- mutual links of valid arguments -/
def MutF (l : List It) (kind many : Int) : List (List Int) := if linkB l kind many = true then mutL l kind many else []
theorem MutF_no {l : List It} {kind many : Int} (h : linkB l kind many = false) : MutF l kind many = [] := by unfold MutF; rw [h]; rfl
theorem MutF_ok {l : List It} {kind many : Int} (h : linkB l kind many = true) : MutF l kind many = mutL l kind many := by unfold MutF; rw [h]; rfl
/-- a pair more -/
theorem pair_push {w W w' : World} {base g : Nat} {v v' : Value} {ps : List RwP} {xs : List (List Int)} {a b : Int} (hps : ps.map (·.row) = xs) (hoo : OSl 23 1 cRow w base v ps) (hii : ∀ p ∈ ps, TInts w base w.heap.size p.A p.n p.c p.row) (haa : Apart (ps.map fun p => (p.A, p.n))) (hb : base ≤ w.heap.size)
    (hc : Chg No w W) (hcell : W.heap[g]? = some (.cells #[.int .i64 a, .int .i64 b] 3 (0, 0))) (hg : w.heap.size ≤ g) (hgr : W.grownBy w' v.ownBlock) (ho : OSl 23 1 cRow w' base v' (ps ++ [⟨[a, b], some ⟨g, 0, none⟩, 2, 2⟩])) : ORows w' base v' (xs ++ [[a, b]]) := by
  have hO : OInts W w.heap.size (.slice (some ⟨g, 0, none⟩) 2 2) [a, b] := OSl.lit (T := 3) (sz := 1) (enc := cInt) (n := 2) [a, b] [.int .i64 a, .int .i64 b] (fun _ => rfl) rfl rfl (by omega) hg hcell
  obtain ⟨A, c, hv, ht⟩ := OInts.typed hO
  injection hv with e1 e2 e3
  subst e1 e3
  have hs := hc.size
  exact ORows.push (B := w.heap.size) hps (hoo.no hc) (fun p hp => ((hii p hp).no' hc).wide (Nat.le_refl _) hs) (p := ⟨[a, b], some ⟨g, 0, none⟩, 2, 2⟩) (ht.wide hb (Nat.le_refl _)) ho hgr haa (ORows.lt hii) (tints_ge ht)
set_option maxRecDepth 100000 in
set_option maxHeartbeats 8000000 in
theorem iMutualLinks (l0 h0 : Nat) (A : Option Addr) (n c : Nat) (xs : List It) (kind many : Int) (w : World) (hx : RItems w l0 h0 A n c xs) :
    Calls Try.prog 30 #[.slice A n c, .int .i64 kind, .int .i64 many] w (RetRows (MutF xs kind many) w) := by
  have hnc := hx.le; have hcm := hx.cap
  have HX := hid hx
  have K1 := hid (fun W (h : RItems W l0 h0 A n c xs) => iCanLink l0 h0 A n c xs kind many W h)
  cases hq : linkB xs kind many with
  | false =>
    rw [hq] at K1
    have HF := hid (MutF_no hq)
    clear hq hx
    go_enter Try.func30, Try.ntmps30
    (go_wp2_with fail; (with_reducible refine (K1.out _ HX.out).mono ?_); rintro e w1 ⟨rfl, hc1⟩)
    go_wp2
    go_ret
    exact ⟨_, rfl, by rw [HF.out]; exact ORows.nil_ _ _, by (repeat (first | (with_reducible exact Chg.refl _ _) | ((with_reducible refine Chg.setNew ?_ _ ?_); rotate_left; first | (dsimp only; omega) | (simp; done) | (simp; omega)) | (with_reducible refine Chg.alloc ?_ _) | (with_reducible refine Chg.drew ?_) | (with_reducible refine Chg.drewN ?_ _) | (with_reducible refine Chg.no ?_ (by assumption)) | (with_reducible refine Chg.and_ ?_ (by assumption)) | ((with_reducible refine Chg.at_ ?_ (by assumption) ?_); rotate_left; (try simp only [World.size_alloc]); omega)))⟩
  | true =>
    have hok := linkB_ok hq
    rw [hq] at K1
    have HF := hid (MutF_ok hq)
    have hxl : xs.length = n := hx.len
    have hn16 : n ≤ 16 := by have := storeB_len hok.store; omega
    have K3 := hid (fun W (h : RItems W l0 h0 A n c xs) => iLinksL l0 h0 A n c xs kind many W h hok)
    obtain ⟨L, hL⟩ : ∃ L, linksL xs kind many = L := ⟨_, rfl⟩
    have hLl : L.length = xs.length := by rw [← hL, linksL_len]
    rw [hL] at K3
    have HLL := hid hL
    have HXL := hid hxl
    have hLn : n ≤ L.length := by omega
    have hLn2 : L.length ≤ n := by omega
    have hxn : n ≤ xs.length := by omega
    have hxn2 : xs.length ≤ n := by omega
    clear hq hx hok hL hLl hxl
    go_enter Try.func30, Try.ntmps30
    (go_wp2_with fail; (with_reducible refine (K1.out _ HX.out).mono ?_); rintro e w1 ⟨rfl, hc1⟩)
    (go_wp2_with fail; (with_reducible refine (K3.out _ (HX.out.no hc1)).mono ?_); rintro e w4 ⟨v4, rfl, ho4, hc4⟩)
    obtain ⟨A4, c4, rfl, hr4⟩ := ORows.read ho4
    have hp4 := hr4.cap; have hq4 := hr4.le
    have R4 := hid hr4
    have q4 : Chg No w w4 := hc1.no hc4
    have s4 := q4.size
    have HO0 := hid (show ORows (w4.alloc (.cells #[] 23)) w4.heap.size (.slice (some ⟨w4.heap.size, 0, none⟩) 0 0) (mutTo xs kind many 0) from
      ⟨[], rfl, OSl.lit (enc := cRow) (n := 0) [] [] (fun _ => rfl) rfl rfl (by omega) (Nat.le_refl _) (heap_top rfl), (fun p hp => by cases hp), List.Pairwise.nil⟩)
    clear ho4 hr4 hc1 hc4 K1 K3
    go_wp2
    go_loopw [8, 24] (fun v i wr => ∃ k : Nat, k ≤ n ∧ i = .int .i64 k ∧ Chg No w4 wr ∧ Hid (ORows wr w4.heap.size v (mutTo xs kind many k))) (fun _ i _ => n - (intOf i).toNat)
    case atStart => exact ⟨0, Nat.zero_le _, rfl, (Chg.refl _ _).alloc _, HO0⟩
    case round =>
      clear HO0
      obtain ⟨i, hi, rfl, hc, HO⟩ := hrel
      obtain ⟨wo, rfl⟩ : ∃ W : World, W = wr := ⟨_, rfl⟩
      have so := hc.size
      by_cases hlt : i < n
      · obtain ⟨b, o, z, rfl, _, _, hzk, hE⟩ := (HX.out.no (q4.no hc)).at_ hlt
        obtain ⟨zk, zv, zt⟩ := z
        obtain ⟨hE1, ⟨A1, n1, c1, hE2, hv⟩, hE3⟩ := hE
        have f1 : wo.cell? ⟨b, o + i * 3, none⟩ = some (.int .i64 zk) := hE1
        have f2 : wo.cell? ⟨b, o + i * 3 + 1, none⟩ = some (.slice A1 n1 c1) := hE2
        have f3 : wo.cell? ⟨b, o + i * 3 + 2, none⟩ = some (.int .i64 zt) := hE3
        have HZ := hid hzk
        obtain ⟨wz, hwz⟩ : ∃ W, wo.alloc (.cells #[.int .i64 zk, .slice A1 n1 c1, .int .i64 zt] 48) = W := ⟨_, rfl⟩
        have hcz : Chg No wo wz := by rw [← hwz]; exact (Chg.refl No wo).alloc _
        have BZ := hid (show Box wz wo.heap.size [.int .i64 zk, .slice A1 n1 c1, .int .i64 zt] from by rw [← hwz]; exact Box.new _ _ rfl)
        have HO1 := hid (show ORows wz w4.heap.size u8 (mutTo xs kind many i ++ mutRow xs kind many i (i + 1)) from by rw [mutRow_start, List.append_nil]; exact HO.out.no hcz)
        have HW1 := hid (show ∀ g, u8.ownBlock = some g → g ≠ wo.heap.size from fun g hg => by
          obtain ⟨ps, _, hoo, _, _⟩ := HO.out
          have := (World.ownsRow.lt hoo g hg).2
          omega)
        clear hzk hE1 hE2 hE3 hv
        go_wp2
        go_loopw [8, 11] (fun v i' wr => ∃ k : Nat, i + 1 ≤ k ∧ k ≤ n ∧ i' = .int .i64 k ∧ Chg No w4 wr ∧ Hid (ORows wr w4.heap.size v (mutTo xs kind many i ++ mutRow xs kind many i k)) ∧ Hid (Box wr wo.heap.size [.int .i64 zk, .slice A1 n1 c1, .int .i64 zt]) ∧ Hid (∀ g, v.ownBlock = some g → g ≠ wo.heap.size)) (fun _ i' _ => n - (intOf i').toNat)
        case atStart => exact ⟨i + 1, Nat.le_refl _, by omega, by go_num, hc.no hcz, HO1, BZ, HW1⟩
        case round =>
          clear HO1 BZ HW1 hwz
          obtain ⟨k, hk1, hk, rfl, hck, HO, BZ, HW⟩ := hrel
          obtain ⟨wi, rfl⟩ : ∃ W : World, W = wr := ⟨_, rfl⟩
          by_cases hlk : k < n
          · skip
            obtain ⟨bL, oL, ri, Ai, ni, ci, rfl, _, _, hri, fi', hvi⟩ := (R4.out.no hck).at_ (k := i) (by omega)
            obtain ⟨bL', oL', rk, Ak, nk, ck, hAL, _, _, hrk, fk', hvk⟩ := (R4.out.no hck).at_ (k := k) (by omega)
            injection hAL with hAL
            injection hAL with e1 e2 _
            subst e1 e2
            obtain rfl : ni = ri.length := hvi.len.symm
            obtain rfl : nk = rk.length := hvk.len.symm
            have hri2 : ri = linkAt xs kind many i := by
              have h9 := linksL_at (l := xs) (kind := kind) (many := many) (i := i) (by omega)
              rw [HLL.out, hri] at h9
              injection h9
            have hrk2 : rk = linkAt xs kind many k := by
              have h9 := linksL_at (l := xs) (kind := kind) (many := many) (i := k) (by omega)
              rw [HLL.out, hrk] at h9
              injection h9
            obtain ⟨b2, o2, y, hA2, _, _, hyk, hE2⟩ := (HX.out.no (q4.no hck)).at_ (k := k) (by omega)
            injection hA2 with hA2
            injection hA2 with e1 e2 _
            subst e1 e2
            obtain ⟨yk, yv, yt⟩ := y
            have hki : keyI xs i = zk := keyI_eq HZ.out
            have hkk : keyI xs k = yk := keyI_eq hyk
            have HMB := hid (show mutB xs kind many i k = (decide (yk ∈ ri) && decide (zk ∈ rk)) from by unfold mutB; rw [hki, hkk, ← hri2, ← hrk2])
            have HMS := hid (mutRow_snoc (l := xs) (kind := kind) (many := many) (i := i) (k := k) (by omega))
            have HKI := hid hki; have HKK := hid hkk
            have f1 : ∀ p : NB wi, p.wd.cell? ⟨bL, oL + i, none⟩ = some (.slice Ai ri.length ci) := nb_cell fi'
            have f2 : ∀ p : NB wi, p.wd.cell? ⟨bL, oL + k, none⟩ = some (.slice Ak rk.length ck) := nb_cell fk'
            have f3 : ∀ p : NB wi, p.wd.cell? ⟨b, o + k * 3, none⟩ = some (.int .i64 yk) := nb_cell hE2.1
            have F3 := hid hE2.1
            have KC1 := hid (fun W (h : Chg No wi W) => containsI _ _ Ai ri.length ci ri yk W (hvi.no h))
            have KC2 := hid (fun W (h : Chg No wi W) => containsI _ _ Ak rk.length ck rk zk W (hvk.no h))
            have hlr := hvi.le; have hpr := hvi.cap; have hlr2 := hvk.le; have hpr2 := hvk.cap
            clear hri hri2 hrk hrk2 fi' fk' hvi hvk hyk hE2 hki hkk
            have f4 : ∀ p : NB wi, p.wd.cell? ⟨wo.heap.size, 0, none⟩ = some (.int .i64 zk) := nb_cell (BZ.out.cell 0)
            by_cases hin1 : yk ∈ ri
            · have hb1 : decide (yk ∈ ri) = true := decide_eq_true hin1
              clear hin1
              by_cases hin2 : zk ∈ rk
              · have hb2 : decide (zk ∈ rk) = true := decide_eq_true hin2
                clear hin2
                go_wp2_with fail
                (refine wp_region_nb (by kernel_rfl) (by kernel_rfl) ?_; (repeat (first | go_big_quiet_step ((go_at_call 65; first | (with_reducible exact nb_sameE (KC1.out _ (NB.h _)) (congrArg Value.bool hb1)) | (with_reducible exact nb_sameE (KC2.out _ (NB.h _)) (congrArg Value.bool hb2)))) | quiet_step ((go_at_call 65; first | (with_reducible exact nb_sameE (KC1.out _ (NB.h _)) (congrArg Value.bool hb1)) | (with_reducible exact nb_sameE (KC2.out _ (NB.h _)) (congrArg Value.bool hb2)))))); (with_reducible refine wpQuiet_nil ?_); intro wq hw1; have hq := nb_out hw1; clear hw1)
                obtain ⟨wB, rfl⟩ : ∃ W : World, W = wq := ⟨_, rfl⟩
                have hcB : Chg No w4 wB := hck.no hq
                have sB := hcB.size
                obtain ⟨ps, hps, hoo, hii, haa⟩ := HO.out.no hq
                have hpl : ps.length ≤ 1000 := by
                  have h9 := congrArg List.length hps
                  rw [List.length_map, List.length_append] at h9
                  have h8 := mutTo_len xs kind many i
                  have h7 := mutRow_len xs kind many i k
                  have h6 : i * xs.length ≤ 16 * 16 := Nat.mul_le_mul (by omega) (by omega)
                  omega
                have HPS := hid hps; have HOO := hid hoo; have HII := hid hii; have HAA := hid haa
                have g3 : wB.cell? ⟨b, o + k * 3, none⟩ = some (.int .i64 yk) := cell_keep hq F3.out (fun e => e)
                have g4 := (BZ.out.no hq).f3; have BZB := hid (BZ.out.no hq)
                clear hps hoo hii haa
                go_wp2_with fail
                go_region_law ((refine step_push _ rfl (.tmp 56) (.tmp 65) 44 rfl 23 1 24 (.slice none 0 0) cRow Try.underlying44 infoRow rfl (by omega) (by omega) (fun _ => rfl) oneRow w4.heap.size _ ps rfl ?_ _ 1 1 [⟨[zk, yk], some ⟨wB.heap.size, 0, none⟩, 2, 2⟩] rfl ?_ ?_ ?_ ?_); (refine OSl.no HOO.out ?_); (repeat (first | (with_reducible exact Chg.refl _ _) | ((with_reducible refine Chg.setNew ?_ _ ?_); rotate_left; first | (dsimp only; omega) | (simp; done) | (simp; omega)) | (with_reducible refine Chg.alloc ?_ _) | (with_reducible refine Chg.drew ?_) | (with_reducible refine Chg.drewN ?_ _) | (with_reducible refine Chg.no ?_ (by assumption)) | (with_reducible refine Chg.and_ ?_ (by assumption)) | ((with_reducible refine Chg.at_ ?_ (by assumption) ?_); rotate_left; (try simp only [World.size_alloc]); omega))); (first | exact Src.one (Box.new _ 23 rfl) rfl | exact Src.one (Box.new _ 23 (by simp)) rfl); (simp; omega); (simp; omega); intro v4 w8 ho8 hg8 hb8; have HP := hid (pair_push HPS.out HOO.out HII.out HAA.out sB (by (repeat (first | (with_reducible exact Chg.refl _ _) | ((with_reducible refine Chg.setNew ?_ _ ?_); rotate_left; first | (dsimp only; omega) | (simp; done) | (simp; omega)) | (with_reducible refine Chg.alloc ?_ _) | (with_reducible refine Chg.drew ?_) | (with_reducible refine Chg.drewN ?_ _) | (with_reducible refine Chg.no ?_ (by assumption)) | (with_reducible refine Chg.and_ ?_ (by assumption)) | ((with_reducible refine Chg.at_ ?_ (by assumption) ?_); rotate_left; (try simp only [World.size_alloc]); omega)))) (by first | exact heap_under1 rfl | exact heap_under rfl | exact heap_under1 (by simp) | exact heap_under (by simp)) (Nat.le_refl _) hg8 ho8); have hc8 : Chg No w4 w8 := Chg.grown (by (repeat (first | (with_reducible exact Chg.refl _ _) | ((with_reducible refine Chg.setNew ?_ _ ?_); rotate_left; first | (dsimp only; omega) | (simp; done) | (simp; omega)) | (with_reducible refine Chg.alloc ?_ _) | (with_reducible refine Chg.drew ?_) | (with_reducible refine Chg.drewN ?_ _) | (with_reducible refine Chg.no ?_ (by assumption)) | (with_reducible refine Chg.and_ ?_ (by assumption)) | ((with_reducible refine Chg.at_ ?_ (by assumption) ?_); rotate_left; (try simp only [World.size_alloc]); omega)))) hg8 (fun j hj hlt => by have := (World.ownsRow.lt HOO.out j hj).1; omega))
                all_goals
                  have HO2 : Hid (ORows w8 w4.heap.size v4 (mutTo xs kind many i ++ mutRow xs kind many i (k + 1))) := by
                    show ORows _ _ _ _
                    rw [HMS.out, if_pos (by rw [HMB.out, hb1, hb2]; rfl), HKI.out, HKK.out, ← List.append_assoc]
                    exact HP.out
                  have BZ2 := hid (Box.grown (BZB.out.no (by (repeat (first | (with_reducible exact Chg.refl _ _) | ((with_reducible refine Chg.setNew ?_ _ ?_); rotate_left; first | (dsimp only; omega) | (simp; done) | (simp; omega)) | (with_reducible refine Chg.alloc ?_ _) | (with_reducible refine Chg.drew ?_) | (with_reducible refine Chg.drewN ?_ _) | (with_reducible refine Chg.no ?_ (by assumption)) | (with_reducible refine Chg.and_ ?_ (by assumption)) | ((with_reducible refine Chg.at_ ?_ (by assumption) ?_); rotate_left; (try simp only [World.size_alloc]); omega))))) hg8 (fun h => HW.out wo.heap.size h rfl)); have HW2 : Hid (∀ g, v4.ownBlock = some g → g ≠ wo.heap.size) := fun g hg => Or.elim (hb8 g hg) (fun h => HW.out g h) (fun h => by have h7 := BZB.out.lt; (try simp at h); omega)
                  clear ho8 hg8 hb8 HP
                  go_wp2
                  go_roundw
                  case rel => exact ⟨k + 1, by omega, by omega, by go_num, hc8, HO2, BZ2, HW2⟩
                  case measure => simp [intOf]; omega
              · have hb2 : decide (zk ∈ rk) = false := decide_eq_false hin2
                clear hin2
                go_wp2_with fail
                (refine wp_region_nb (by kernel_rfl) (by kernel_rfl) ?_; (repeat (first | go_big_quiet_step ((go_at_call 65; first | (with_reducible exact nb_sameE (KC1.out _ (NB.h _)) (congrArg Value.bool hb1)) | (with_reducible exact nb_sameE (KC2.out _ (NB.h _)) (congrArg Value.bool hb2)))) | quiet_step ((go_at_call 65; first | (with_reducible exact nb_sameE (KC1.out _ (NB.h _)) (congrArg Value.bool hb1)) | (with_reducible exact nb_sameE (KC2.out _ (NB.h _)) (congrArg Value.bool hb2)))))); (with_reducible refine wpQuiet_nil ?_); intro wq hw1; have hq := nb_out hw1; clear hw1)
                have HO2 : Hid (ORows wq w4.heap.size u8 (mutTo xs kind many i ++ mutRow xs kind many i (k + 1))) := by
                  show ORows _ _ _ _
                  rw [HMS.out, if_neg (by rw [HMB.out, hb2]; simp), List.append_nil]
                  exact HO.out.no hq
                have BZ2 := hid (BZ.out.no hq)
                go_wp2
                go_roundw
                case rel => exact ⟨k + 1, by omega, by omega, by go_num, hck.no hq, HO2, BZ2, HW⟩
                case measure => simp [intOf]; omega
            · have hb1 : decide (yk ∈ ri) = false := decide_eq_false hin1
              clear hin1
              have hb2 : (Value.bool true) = Value.bool true := rfl
              go_wp2_with fail
              (refine wp_region_nb (by kernel_rfl) (by kernel_rfl) ?_; (repeat (first | go_big_quiet_step ((go_at_call 65; first | (with_reducible exact nb_sameE (KC1.out _ (NB.h _)) (congrArg Value.bool hb1)) | (with_reducible exact nb_sameE (KC2.out _ (NB.h _)) (congrArg Value.bool hb2)))) | quiet_step ((go_at_call 65; first | (with_reducible exact nb_sameE (KC1.out _ (NB.h _)) (congrArg Value.bool hb1)) | (with_reducible exact nb_sameE (KC2.out _ (NB.h _)) (congrArg Value.bool hb2)))))); (with_reducible refine wpQuiet_nil ?_); intro wq hw1; have hq := nb_out hw1; clear hw1)
              have HO2 : Hid (ORows wq w4.heap.size u8 (mutTo xs kind many i ++ mutRow xs kind many i (k + 1))) := by
                show ORows _ _ _ _
                rw [HMS.out, if_neg (by rw [HMB.out, hb1]; simp), List.append_nil]
                exact HO.out.no hq
              have BZ2 := hid (BZ.out.no hq)
              go_wp2
              go_roundw
              case rel => exact ⟨k + 1, by omega, by omega, by go_num, hck.no hq, HO2, BZ2, HW⟩
              case measure => simp [intOf]; omega
          · have hkn : k = n := by omega
            have HO2 := hid (show ORows wi w4.heap.size u8 (mutTo xs kind many (i + 1)) from by rw [mutTo_snoc, HXL.out, ← hkn]; exact HO.out)
            clear hkn
            go_wp2
            go_roundw
            case rel => exact ⟨i + 1, by omega, by go_num, hck, HO2⟩
            case measure => simp [intOf]; omega
      · have hin : i = n := by omega
        have h9 := HO.out
        rw [show mutTo xs kind many i = mutL xs kind many from by unfold mutL; rw [HXL.out, hin]] at h9
        have HO5 := hid (ORows.down h9 (base' := w.heap.size) s4)
        clear HO h9 hin
        go_wp2
        go_ret
        exact ⟨_, rfl, by rw [HF.out]; exact HO5.out, q4.no hc⟩
end Go.Proofs.Ytgidepnlflmclaa
