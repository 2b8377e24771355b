/- Ranked again: the program's and the reference's RerankNearest. -/
import Derived.Test.YtifdcdpdihfbjaaCode
import Derived.Test.YtifdcdpdihfbjaaIndex
import Derived.Test.YtifdcdpdihfbjaaStoreF
namespace Go.Proofs.Ytifdcdpdihfbjaa
open Go.RowKit Go.Shelf
set_option linter.unusedVariables false
set_option linter.unusedSimpArgs false
set_option maxRecDepth 100000 in
set_option maxHeartbeats 8000000 in
theorem iRerankNearest (lp hp : Nat) (AL : Option Addr) (nL cL : Nat) (L : List (List Int)) (lq hq : Nat) (AR : Option Addr) (nR cR : Nat) (R : List (List Int)) (l0 h0 : Nat) (A : Option Addr) (n c : Nat) (xs : List It) (l1 h1 : Nat) (A' : Option Addr) (n' c' : Nat) (at_ : List Int) (many k : Int) (w : World)
    (hl : RRows w lp hp AL nL cL L) (hr : RRows w lq hq AR nR cR R) (hx : RItems w l0 h0 A n c xs) (hy : RInts w l1 h1 A' n' c' at_) :
    Calls Try.prog 17 #[.agg #[.slice AL nL cL, .slice AR nR cR], .slice A n c, .slice A' n' c', .int .i64 many, .int .i64 k] w (RetHits (RerankF L R xs at_ many k) w) := by
  have hnc := hx.le; have hcm := hx.cap
  have HX := hid hx; have HY := hid hy; have HL := hid hl; have HR := hid hr
  have BX := hid (Box.new (w := w) [.slice AL nL cL, .slice AR nR cR] 25 rfl)
  have K1 := hid (fun W (h : Chg No w W) => isBook lp hp AL nL cL L lq hq AR nR cR R W (HL.out.no h) (HR.out.no h))
  have K2 := hid (fun W (h : Chg No w W) => iCanFind l0 h0 A n c xs l1 h1 A' n' c' at_ 3 k W (HX.out.no h) (HY.out.no h))
  have HB := hid (show rrOk L R xs at_ many k = (bookB L R && (canB xs 3 at_ k && inB many 1 16)) from rfl)
  clear hl hr hx hy
  cases hb1 : bookB L R with
  | false =>
    have HF := hid (RerankF_no (L := L) (R := R) (l := xs) (at_ := at_) (many := many) (k := k) (by rw [HB.out, hb1]; rfl))
    rw [hb1] at K1
    clear hb1
    go_enter Try.func17, Try.ntmps17
    (go_wp2_with fail; (with_reducible refine (K1.out _ (by (repeat (first | (with_reducible exact Chg.refl _ _) | ((with_reducible refine Chg.setNew ?_ _ ?_); rotate_left; first | (dsimp only; omega) | (simp; done) | (simp; omega)) | (with_reducible refine Chg.alloc ?_ _) | (with_reducible refine Chg.drew ?_) | (with_reducible refine Chg.drewN ?_ _) | (with_reducible refine Chg.no ?_ (by assumption)) | (with_reducible refine Chg.and_ ?_ (by assumption)) | ((with_reducible refine Chg.at_ ?_ (by assumption) ?_); rotate_left; (try simp only [World.size_alloc]); omega))))).mono ?_); rintro e w1 ⟨rfl, hc1⟩)
    go_wp2
    go_ret
    exact ⟨_, rfl, by rw [HF.out]; exact OSl.nil_ _, by (repeat (first | (with_reducible exact Chg.refl _ _) | ((with_reducible refine Chg.setNew ?_ _ ?_); rotate_left; first | (dsimp only; omega) | (simp; done) | (simp; omega)) | (with_reducible refine Chg.alloc ?_ _) | (with_reducible refine Chg.drew ?_) | (with_reducible refine Chg.drewN ?_ _) | (with_reducible refine Chg.no ?_ (by assumption)) | (with_reducible refine Chg.and_ ?_ (by assumption)) | ((with_reducible refine Chg.at_ ?_ (by assumption) ?_); rotate_left; (try simp only [World.size_alloc]); omega)))⟩
  | true =>
    rw [hb1] at K1
    cases hb2 : canB xs 3 at_ k with
    | false =>
      have HF := hid (RerankF_no (L := L) (R := R) (l := xs) (at_ := at_) (many := many) (k := k) (by rw [HB.out, hb2]; simp))
      rw [hb2] at K2
      clear hb1 hb2
      go_enter Try.func17, Try.ntmps17
      (go_wp2_with fail; (with_reducible refine (K1.out _ (by (repeat (first | (with_reducible exact Chg.refl _ _) | ((with_reducible refine Chg.setNew ?_ _ ?_); rotate_left; first | (dsimp only; omega) | (simp; done) | (simp; omega)) | (with_reducible refine Chg.alloc ?_ _) | (with_reducible refine Chg.drew ?_) | (with_reducible refine Chg.drewN ?_ _) | (with_reducible refine Chg.no ?_ (by assumption)) | (with_reducible refine Chg.and_ ?_ (by assumption)) | ((with_reducible refine Chg.at_ ?_ (by assumption) ?_); rotate_left; (try simp only [World.size_alloc]); omega))))).mono ?_); rintro e w1 ⟨rfl, hc1⟩)
      have q1 : Chg No w w1 := (by (repeat (first | (with_reducible exact Chg.refl _ _) | ((with_reducible refine Chg.setNew ?_ _ ?_); rotate_left; first | (dsimp only; omega) | (simp; done) | (simp; omega)) | (with_reducible refine Chg.alloc ?_ _) | (with_reducible refine Chg.drew ?_) | (with_reducible refine Chg.drewN ?_ _) | (with_reducible refine Chg.no ?_ (by assumption)) | (with_reducible refine Chg.and_ ?_ (by assumption)) | ((with_reducible refine Chg.at_ ?_ (by assumption) ?_); rotate_left; (try simp only [World.size_alloc]); omega))) : Chg No w w1)
      (go_wp2_with fail; (with_reducible refine (K2.out _ q1).mono ?_); rintro e w2 ⟨rfl, hc2⟩)
      go_wp2
      go_ret
      exact ⟨_, rfl, by rw [HF.out]; exact OSl.nil_ _, q1.no hc2⟩
    | true =>
      rw [hb2] at K2
      by_cases a1 : many < 1
      · have HF := hid (RerankF_no (L := L) (R := R) (l := xs) (at_ := at_) (many := many) (k := k) (by rw [HB.out]; unfold inB; rw [decide_eq_false (by omega)]; simp))
        have j1 : decide (many < 1) = true := decide_eq_true a1
        clear hb1 hb2
        go_enter Try.func17, Try.ntmps17
        (go_wp2_with fail; (with_reducible refine (K1.out _ (by (repeat (first | (with_reducible exact Chg.refl _ _) | ((with_reducible refine Chg.setNew ?_ _ ?_); rotate_left; first | (dsimp only; omega) | (simp; done) | (simp; omega)) | (with_reducible refine Chg.alloc ?_ _) | (with_reducible refine Chg.drew ?_) | (with_reducible refine Chg.drewN ?_ _) | (with_reducible refine Chg.no ?_ (by assumption)) | (with_reducible refine Chg.and_ ?_ (by assumption)) | ((with_reducible refine Chg.at_ ?_ (by assumption) ?_); rotate_left; (try simp only [World.size_alloc]); omega))))).mono ?_); rintro e w1 ⟨rfl, hc1⟩)
        have q1 : Chg No w w1 := (by (repeat (first | (with_reducible exact Chg.refl _ _) | ((with_reducible refine Chg.setNew ?_ _ ?_); rotate_left; first | (dsimp only; omega) | (simp; done) | (simp; omega)) | (with_reducible refine Chg.alloc ?_ _) | (with_reducible refine Chg.drew ?_) | (with_reducible refine Chg.drewN ?_ _) | (with_reducible refine Chg.no ?_ (by assumption)) | (with_reducible refine Chg.and_ ?_ (by assumption)) | ((with_reducible refine Chg.at_ ?_ (by assumption) ?_); rotate_left; (try simp only [World.size_alloc]); omega))) : Chg No w w1)
        (go_wp2_with fail; (with_reducible refine (K2.out _ q1).mono ?_); rintro e w2 ⟨rfl, hc2⟩)
        go_wp2
        go_ret
        exact ⟨_, rfl, by rw [HF.out]; exact OSl.nil_ _, q1.no hc2⟩
      · have j1 : decide (many < 1) = false := decide_eq_false a1
        by_cases a2 : 16 < many
        · have HF := hid (RerankF_no (L := L) (R := R) (l := xs) (at_ := at_) (many := many) (k := k) (by rw [HB.out]; unfold inB; rw [decide_eq_false (by omega)]; simp))
          have j2 : decide (16 < many) = true := decide_eq_true a2
          clear hb1 hb2 a1
          go_enter Try.func17, Try.ntmps17
          (go_wp2_with fail; (with_reducible refine (K1.out _ (by (repeat (first | (with_reducible exact Chg.refl _ _) | ((with_reducible refine Chg.setNew ?_ _ ?_); rotate_left; first | (dsimp only; omega) | (simp; done) | (simp; omega)) | (with_reducible refine Chg.alloc ?_ _) | (with_reducible refine Chg.drew ?_) | (with_reducible refine Chg.drewN ?_ _) | (with_reducible refine Chg.no ?_ (by assumption)) | (with_reducible refine Chg.and_ ?_ (by assumption)) | ((with_reducible refine Chg.at_ ?_ (by assumption) ?_); rotate_left; (try simp only [World.size_alloc]); omega))))).mono ?_); rintro e w1 ⟨rfl, hc1⟩)
          have q1 : Chg No w w1 := (by (repeat (first | (with_reducible exact Chg.refl _ _) | ((with_reducible refine Chg.setNew ?_ _ ?_); rotate_left; first | (dsimp only; omega) | (simp; done) | (simp; omega)) | (with_reducible refine Chg.alloc ?_ _) | (with_reducible refine Chg.drew ?_) | (with_reducible refine Chg.drewN ?_ _) | (with_reducible refine Chg.no ?_ (by assumption)) | (with_reducible refine Chg.and_ ?_ (by assumption)) | ((with_reducible refine Chg.at_ ?_ (by assumption) ?_); rotate_left; (try simp only [World.size_alloc]); omega))) : Chg No w w1)
          (go_wp2_with fail; (with_reducible refine (K2.out _ q1).mono ?_); rintro e w2 ⟨rfl, hc2⟩)
          go_wp2
          go_ret
          exact ⟨_, rfl, by rw [HF.out]; exact OSl.nil_ _, q1.no hc2⟩
        · have j2 : decide (16 < many) = false := decide_eq_false a2
          have hok : RrOk L R xs at_ many k := rrOk_ok (by rw [HB.out, hb1, hb2]; unfold inB; rw [decide_eq_true (by omega)]; rfl)
          have HF := hid (RerankF_ok hok.ok)
          have hn16 : n ≤ 16 := by have := HX.out.len; have := storeB_len hok.can.store; omega
          have hk1 := hok.k1; have hk16 := hok.k16; have hm1 := hok.m1; have hm16 := hok.m16
          have hMl : (cnearL L R xs at_ many).length ≤ 16 := by rw [cnear_len]; omega
          have HKY := hid (fun (y : Int × Int) (hy : y ∈ cnearL L R xs at_ many) => pickA_some hok.can.store (cnear_keys y hy))
          have hSl : (pickL xs (cnearL L R xs at_ many)).length ≤ 16 := by rw [pick_len]; exact hMl
          have HSV := hid (fun (x : It) (hx : x ∈ pickL xs (cnearL L R xs at_ many)) => storeB_vec hok.can.store (pick_mem hok.can.store cnear_keys hx))
          have HVB := hid hok.can.vec
          unfold rerankL at HF
          have K3 := hid (fun W (h : Chg No w W) => iCodeNear lp hp AL nL cL L lq hq AR nR cR R l0 h0 A n c xs l1 h1 A' n' c' at_ many W (HL.out.no h) (HR.out.no h) (HX.out.no h) (HY.out.no h) (by omega) hok.cn.book hok.can.each hok.can.vec (by omega) (by omega))
          have K6 := hid (fun A9 c9 W l9 h9 (h : RItems W l9 h9 A9 (pickL xs (cnearL L R xs at_ many)).length c9 (pickL xs (cnearL L R xs at_ many))) (h2 : RInts W l1 h1 A' n' c' at_) => iNearest l9 h9 A9 (pickL xs (cnearL L R xs at_ many)).length c9 (pickL xs (cnearL L R xs at_ many)) l1 h1 A' n' c' at_ 3 k W h h2 (by omega) HSV.out HVB.out (by omega) (by omega) (by omega) (by omega))
          obtain ⟨M, hM⟩ : ∃ M, cnearL L R xs at_ many = M := ⟨_, rfl⟩
          rw [hM] at K3 K6 HF HKY HSV hMl hSl
          obtain ⟨S, hS⟩ : ∃ S, pickL xs M = S := ⟨_, rfl⟩
          rw [hS] at K6 HF hSl
          have HSM := hid hS
          clear hb1 hb2 a1 a2 hok hM hS
          go_enter Try.func17, Try.ntmps17
          (go_wp2_with fail; (with_reducible refine (K1.out _ (by (repeat (first | (with_reducible exact Chg.refl _ _) | ((with_reducible refine Chg.setNew ?_ _ ?_); rotate_left; first | (dsimp only; omega) | (simp; done) | (simp; omega)) | (with_reducible refine Chg.alloc ?_ _) | (with_reducible refine Chg.drew ?_) | (with_reducible refine Chg.drewN ?_ _) | (with_reducible refine Chg.no ?_ (by assumption)) | (with_reducible refine Chg.and_ ?_ (by assumption)) | ((with_reducible refine Chg.at_ ?_ (by assumption) ?_); rotate_left; (try simp only [World.size_alloc]); omega))))).mono ?_); rintro e w1 ⟨rfl, hc1⟩)
          have q1 : Chg No w w1 := (by (repeat (first | (with_reducible exact Chg.refl _ _) | ((with_reducible refine Chg.setNew ?_ _ ?_); rotate_left; first | (dsimp only; omega) | (simp; done) | (simp; omega)) | (with_reducible refine Chg.alloc ?_ _) | (with_reducible refine Chg.drew ?_) | (with_reducible refine Chg.drewN ?_ _) | (with_reducible refine Chg.no ?_ (by assumption)) | (with_reducible refine Chg.and_ ?_ (by assumption)) | ((with_reducible refine Chg.at_ ?_ (by assumption) ?_); rotate_left; (try simp only [World.size_alloc]); omega))) : Chg No w w1)
          have b1 := (BX.out.no hc1).f2
          have m1 := (BX.out.no hc1).lt
          (go_wp2_with fail; (with_reducible refine (K2.out _ q1).mono ?_); rintro e w2 ⟨rfl, hc2⟩)
          have q2 : Chg No w w2 := q1.no hc2
          have b2 := (BX.out.no (hc1.no hc2)).f2
          have m2 := (BX.out.no (hc1.no hc2)).lt
          clear hc1 hc2 K1 K2
          have q2s := q2.size
          have WA0 : Chg No w2 (w2.alloc (.cells #[] 36)) := (Chg.refl No w2).alloc _
          (go_wp2_with fail; (with_reducible refine (K3.out _ (q2.no WA0)).mono ?_); rintro e w4 ⟨v4, rfl, ho4, hc4⟩)
          obtain ⟨A4, c4, rfl, hr4⟩ := OHits.read ho4
          have hp4 := hr4.cap; have hl4 := hr4.le
          have R4 := hid hr4
          have s4 := hc4.size
          simp only [World.size_alloc] at R4 s4
          have q4 : Chg No w w4 := (q2.no WA0).no hc4
          have HO0 := hid (show OSl 36 3 cItem w4 w2.heap.size (.slice (some ⟨w2.heap.size, 0, none⟩) 0 0) [] from OSl.no (OSl.lit (enc := cItem) (n := 0) [] [] (fun _ => rfl) rfl rfl (by omega) (Nat.le_refl _) (heap_top rfl)) hc4)
          have HW0 := hid (show ∀ b, (Value.slice (some ⟨w2.heap.size, 0, none⟩) 0 0).ownBlock = some b → b = w2.heap.size ∨ w4.heap.size ≤ b from fun b hb => by injection hb with hb; exact Or.inl hb.symm)
          clear ho4 hr4 WA0
          go_wp2
          go_loopw [11, 39] (fun v i wr => ∃ j : Nat, j ≤ M.length ∧ i = .int .i64 j ∧ Chg (fun b => b = w2.heap.size) w4 wr ∧ ∃ qs : List ItP, Hid (qs.map (·.it) = pickL xs (M.take j)) ∧ Hid (OSl 36 3 cItem wr w2.heap.size v qs) ∧ Hid (∀ p ∈ qs, RInts w l0 h0 p.A p.n p.c p.it.vec) ∧ Hid (∀ b, v.ownBlock = some b → b = w2.heap.size ∨ w4.heap.size ≤ b)) (fun _ i _ => M.length - (intOf i).toNat)
          case atStart => exact ⟨0, Nat.zero_le _, rfl, Chg.refl _ _, [], rfl, HO0, (fun p hp => by cases hp), HW0⟩
          case round =>
            clear HO0 HW0
            obtain ⟨j, hj, rfl, hc, qs, HE, HO, HI, HW⟩ := hrel
            obtain ⟨wo, rfl⟩ : ∃ W : World, W = wr := ⟨_, rfl⟩
            have hcw : Chg No w wo := q4.trans hc (fun i hi (h : i = _) => by omega)
            have so := hc.size
            by_cases hlt : j < M.length
            · obtain ⟨b4, o4, y, rfl, _, _, hyj, hE4⟩ := (R4.out.keep hc (fun b h1 h2 (h3 : b = _) => by omega)).at_ hlt
              obtain ⟨y1, y2⟩ := y
              have g1 : wo.cell? ⟨b4, o4 + j * 2, none⟩ = some (.int .i64 y1) := hE4.1
              have g2 : wo.cell? ⟨b4, o4 + j * 2 + 1, none⟩ = some (.int .i64 y2) := hE4.2
              obtain ⟨q, hq, _, hkq⟩ := HKY.out _ (List.mem_of_getElem? hyj)
              have hqn : q < n := by have := (List.getElem?_eq_some_iff.1 hq).1; have := HX.out.len; omega
              have HP := hid (pick_snoc (l := xs) hyj)
              simp only [] at hq hkq HP
              obtain ⟨z, hz⟩ : ∃ z, pickA xs y1 = z := ⟨_, rfl⟩
              rw [hz] at hq HP
              have KX := hid (fun W (h : Chg No wo W) => indexOf l0 h0 A n c xs y1 W (HX.out.no (hcw.no h)))
              rw [hkq] at KX
              obtain ⟨b, o, z1, hA0, _, _, hz1, hE⟩ := (HX.out.no hcw).at_ hqn
              obtain ⟨_, _, z2, hA1, _, _, hz2, hEo⟩ := HX.out.at_ hqn
              rw [hA0] at hA1
              injection hA1 with hA1
              injection hA1 with e1 e2 _
              subst e1 e2
              rw [hq] at hz1 hz2
              injection hz1 with hz1
              injection hz2 with hz2
              subst hz1 hz2
              subst hA0
              obtain ⟨zk, zv, zt⟩ := z
              obtain ⟨hE1, ⟨A1, n1, c1, hE2, hv⟩, hE3⟩ := hE
              obtain ⟨_, ⟨A2, n2, c2, hE2o, hvo⟩, _⟩ := hEo
              have h9 := cell_keep hcw hE2o (fun e => e)
              rw [hE2] at h9
              injection h9 with h9
              injection h9 with e1 e2 e3
              subst e1 e2 e3
              have f1 : wo.cell? ⟨b, o + q * 3, none⟩ = some (.int .i64 zk) := hE1
              have f2 : wo.cell? ⟨b, o + q * 3 + 1, none⟩ = some (.slice A1 n1 c1) := hE2
              have f3 : wo.cell? ⟨b, o + q * 3 + 2, none⟩ = some (.int .i64 zt) := hE3
              have HV := hid hvo
              have hpl : qs.length ≤ 16 := by
                have h9 := congrArg List.length HE.out
                rw [List.length_map, pick_len, List.length_take] at h9
                omega
              have BZ := hid (Box.new (w := wo) [.int .i64 y1, .int .i64 y2] 39 rfl)
              clear hyj hE4 hq hkq hz hE1 hE2 hE3 hv hvo hE2o
              (go_wp2_with fail; (with_reducible refine (KX.out _ (by (repeat (first | (with_reducible exact Chg.refl _ _) | ((with_reducible refine Chg.setNew ?_ _ ?_); rotate_left; first | (dsimp only; omega) | (simp; done) | (simp; omega)) | (with_reducible refine Chg.alloc ?_ _) | (with_reducible refine Chg.drew ?_) | (with_reducible refine Chg.drewN ?_ _) | (with_reducible refine Chg.no ?_ (by assumption)) | (with_reducible refine Chg.and_ ?_ (by assumption)) | ((with_reducible refine Chg.at_ ?_ (by assumption) ?_); rotate_left; (try simp only [World.size_alloc]); omega))))).mono ?_); rintro e w5 ⟨rfl, hc5⟩)
              have hc05 : Chg No wo w5 := (by (repeat (first | (with_reducible exact Chg.refl _ _) | ((with_reducible refine Chg.setNew ?_ _ ?_); rotate_left; first | (dsimp only; omega) | (simp; done) | (simp; omega)) | (with_reducible refine Chg.alloc ?_ _) | (with_reducible refine Chg.drew ?_) | (with_reducible refine Chg.drewN ?_ _) | (with_reducible refine Chg.no ?_ (by assumption)) | (with_reducible refine Chg.and_ ?_ (by assumption)) | ((with_reducible refine Chg.at_ ?_ (by assumption) ?_); rotate_left; (try simp only [World.size_alloc]); omega))) : Chg No wo w5)
              have s5 := hc05.size
              have g5 := cell_keep hc05 f1 (fun e => e); have g6 := cell_keep hc05 f2 (fun e => e); have g7 := cell_keep hc05 f3 (fun e => e)
              have hcq : Chg (fun b => b = w2.heap.size) w4 w5 := hc.no hc05
              have HH := hid ((OSl.no HO.out hc05).alloc (.cells #[.int .i64 zk, .slice A1 n1 c1, .int .i64 zt] 36))
              have HX1 := hid (Src.one (sz := 3) (enc := cItem) (y := ⟨⟨zk, zv, zt⟩, A1, n1, c1⟩) (Box.new (w := w5) (g := w5.heap.size) [.int .i64 zk, .slice A1 n1 c1, .int .i64 zt] 36 rfl) rfl)
              go_wp2_with (at_builtin; refine wpList_push _ rfl _ _ 26 rfl 36 3 40 (.agg #[.int .i64 0, .slice none 0 0, .int .i64 0]) cItem Try.underlying26 infoItem rfl (by omega) (by omega) (fun _ => rfl) oneItem w2.heap.size _ qs rfl HH.out _ 1 1 [⟨⟨zk, zv, zt⟩, A1, n1, c1⟩] rfl HX1.out (by omega) (by simp; omega) ?_; intro v' w6 ho6 hg6 hb6)
              have hc6 : Chg (fun b => b = w2.heap.size) w4 w6 := Chg.grown (hcq.alloc _) hg6 (fun b hb hlt => by
                rcases HW.out b hb with h | h
                · exact h
                · omega)
              have HW6 : Hid (∀ b, v'.ownBlock = some b → b = w2.heap.size ∨ w4.heap.size ≤ b) := fun b hb => by
                rcases hb6 b hb with h | h
                · exact HW.out b h
                · simp only [World.size_alloc] at h; exact Or.inr (by omega)
              have HO6 := hid ho6
              have HE6 : Hid ((qs ++ [(⟨⟨zk, zv, zt⟩, A1, n1, c1⟩ : ItP)]).map (·.it) = pickL xs (M.take (j + 1))) := by show _ = _; rw [HP.out, List.map_append, HE.out]; rfl
              have HI6 : Hid (∀ p ∈ qs ++ [(⟨⟨zk, zv, zt⟩, A1, n1, c1⟩ : ItP)], RInts w l0 h0 p.A p.n p.c p.it.vec) := fun p hp => by
                rcases List.mem_append.1 hp with hp | hp
                · exact HI.out p hp
                · rw [List.mem_singleton.1 hp]; exact HV.out
              clear ho6 hg6 hb6 HX1 HH HE HI HO HW HP
              go_wp2
              go_roundw
              case rel => exact ⟨j + 1, by omega, by go_num, hc6, _, HE6, HO6, HI6, HW6⟩
              case measure => simp [intOf]; omega
            · have HE2 := HE.out
              rw [List.take_of_length_le (by omega), HSM.out] at HE2
              obtain ⟨A6, c6, hv6, hr6⟩ := read_ps HO.out (fun p hp => (HI.out p hp).no hcw)
              rw [HE2] at hv6 hr6
              subst hv6
              have hp6 := hr6.cap; have hl6 := hr6.le
              have HR6 := hid hr6
              clear HE HE2 hr6 HO HI
              (go_wp2_with fail; (with_reducible refine (K6.out _ _ _ _ _ HR6.out (HY.out.no hcw)).mono ?_); rintro e w7 ⟨v7, rfl, ho7, hc7⟩)
              have HO7 := hid (OSl.down ho7 (base' := w.heap.size) hcw.size)
              clear ho7
              go_wp2
              go_ret
              exact ⟨_, rfl, by rw [HF.out]; exact HO7.out, hcw.no hc7⟩
theorem sKeyAtC (l0 h0 : Nat) (A : Option Addr) (n c : Nat) (xs : List It) (key : Int) (w : World) (hx : RItems w l0 h0 A n c xs) :
    Calls Try.prog 64 #[.slice A n c, .int .i64 key] w fun e w' => e = .returned (.int .i64 (keyAtF xs key)) ∧ Chg No w w' := chg_eqC (sKeyAt l0 h0 A n c xs key w hx)
set_option maxRecDepth 100000 in
set_option maxHeartbeats 8000000 in
theorem sRerankNearest (lp hp : Nat) (AL : Option Addr) (nL cL : Nat) (L : List (List Int)) (lq hq : Nat) (AR : Option Addr) (nR cR : Nat) (R : List (List Int)) (l0 h0 : Nat) (A : Option Addr) (n c : Nat) (xs : List It) (l1 h1 : Nat) (A' : Option Addr) (n' c' : Nat) (at_ : List Int) (many k : Int) (w : World)
    (hl : RRows w lp hp AL nL cL L) (hr : RRows w lq hq AR nR cR R) (hx : RItems w l0 h0 A n c xs) (hy : RInts w l1 h1 A' n' c' at_) :
    Calls Try.prog 18 #[.agg #[.slice AL nL cL, .slice AR nR cR], .slice A n c, .slice A' n' c', .int .i64 many, .int .i64 k] w (RetHits (RerankF L R xs at_ many k) w) := by
  have hnc := hx.le; have hcm := hx.cap
  have HX := hid hx; have HY := hid hy; have HL := hid hl; have HR := hid hr
  have BX := hid (Box.new (w := w) [.slice AL nL cL, .slice AR nR cR] 25 rfl)
  have K1 := hid (fun W => chg_eqC (inRange k 1 16 W))
  have K2 := hid (fun W => chg_eqC (inRange many 1 16 W))
  have K3 := hid (fun W (h : Chg No w W) => validBook lp hp AL nL cL L lq hq AR nR cR R W (HL.out.no h) (HR.out.no h))
  have K4 := hid (fun W (h : Chg No w W) => sValidQuery l0 h0 A n c xs l1 h1 A' n' c' at_ 3 W (HX.out.no h) (HY.out.no h))
  have HB := hid (show rrOk L R xs at_ many k = (bookB L R && ((queryB xs 3 at_ && inB k 1 16) && inB many 1 16)) from by unfold rrOk; rw [canB_query])
  clear hl hr hx hy
  cases hb1 : inB k 1 16 with
  | false =>
    have HF := hid (RerankF_no (L := L) (R := R) (l := xs) (at_ := at_) (many := many) (k := k) (by rw [HB.out, hb1]; simp))
    rw [hb1] at K1
    clear hb1
    go_enter Try.func18, Try.ntmps18
    (go_wp2_with fail; (with_reducible refine (K1.out _).mono ?_); rintro e w1 ⟨rfl, hc1⟩)
    have q1 : Chg No w w1 := (by (repeat (first | (with_reducible exact Chg.refl _ _) | ((with_reducible refine Chg.setNew ?_ _ ?_); rotate_left; first | (dsimp only; omega) | (simp; done) | (simp; omega)) | (with_reducible refine Chg.alloc ?_ _) | (with_reducible refine Chg.drew ?_) | (with_reducible refine Chg.drewN ?_ _) | (with_reducible refine Chg.no ?_ (by assumption)) | (with_reducible refine Chg.and_ ?_ (by assumption)) | ((with_reducible refine Chg.at_ ?_ (by assumption) ?_); rotate_left; (try simp only [World.size_alloc]); omega))) : Chg No w w1)
    have B1 := hid (BX.out.no (Chg.no (by (repeat (first | (with_reducible exact Chg.refl _ _) | ((with_reducible refine Chg.setNew ?_ _ ?_); rotate_left; first | (dsimp only; omega) | (simp; done) | (simp; omega)) | (with_reducible refine Chg.alloc ?_ _) | (with_reducible refine Chg.drew ?_) | (with_reducible refine Chg.drewN ?_ _) | (with_reducible refine Chg.no ?_ (by assumption)) | (with_reducible refine Chg.and_ ?_ (by assumption)) | ((with_reducible refine Chg.at_ ?_ (by assumption) ?_); rotate_left; (try simp only [World.size_alloc]); omega)))) hc1))
    have b1 := B1.out.f2
    have m1 := B1.out.lt
    go_wp2
    go_ret
    exact ⟨_, rfl, by rw [HF.out]; exact OSl.nil_ _, q1⟩
  | true =>
    rw [hb1] at K1
    cases hb2 : inB many 1 16 with
    | false =>
      have HF := hid (RerankF_no (L := L) (R := R) (l := xs) (at_ := at_) (many := many) (k := k) (by rw [HB.out, hb2]; simp))
      rw [hb2] at K2
      clear hb1 hb2
      go_enter Try.func18, Try.ntmps18
      (go_wp2_with fail; (with_reducible refine (K1.out _).mono ?_); rintro e w1 ⟨rfl, hc1⟩)
      have q1 : Chg No w w1 := (by (repeat (first | (with_reducible exact Chg.refl _ _) | ((with_reducible refine Chg.setNew ?_ _ ?_); rotate_left; first | (dsimp only; omega) | (simp; done) | (simp; omega)) | (with_reducible refine Chg.alloc ?_ _) | (with_reducible refine Chg.drew ?_) | (with_reducible refine Chg.drewN ?_ _) | (with_reducible refine Chg.no ?_ (by assumption)) | (with_reducible refine Chg.and_ ?_ (by assumption)) | ((with_reducible refine Chg.at_ ?_ (by assumption) ?_); rotate_left; (try simp only [World.size_alloc]); omega))) : Chg No w w1)
      have B1 := hid (BX.out.no (Chg.no (by (repeat (first | (with_reducible exact Chg.refl _ _) | ((with_reducible refine Chg.setNew ?_ _ ?_); rotate_left; first | (dsimp only; omega) | (simp; done) | (simp; omega)) | (with_reducible refine Chg.alloc ?_ _) | (with_reducible refine Chg.drew ?_) | (with_reducible refine Chg.drewN ?_ _) | (with_reducible refine Chg.no ?_ (by assumption)) | (with_reducible refine Chg.and_ ?_ (by assumption)) | ((with_reducible refine Chg.at_ ?_ (by assumption) ?_); rotate_left; (try simp only [World.size_alloc]); omega)))) hc1))
      have b1 := B1.out.f2
      have m1 := B1.out.lt
      (go_wp2_with fail; (with_reducible refine (K2.out _).mono ?_); rintro e w2 ⟨rfl, hc2⟩)
      have q2 : Chg No w w2 := q1.no hc2
      have B2 := hid (B1.out.no hc2)
      have b2 := B2.out.f2
      have m2 := B2.out.lt
      go_wp2
      go_ret
      exact ⟨_, rfl, by rw [HF.out]; exact OSl.nil_ _, q2⟩
    | true =>
      rw [hb2] at K2
      cases hb3 : bookB L R with
      | false =>
        have HF := hid (RerankF_no (L := L) (R := R) (l := xs) (at_ := at_) (many := many) (k := k) (by rw [HB.out, hb3]; simp))
        rw [hb3] at K3
        clear hb1 hb2 hb3
        go_enter Try.func18, Try.ntmps18
        (go_wp2_with fail; (with_reducible refine (K1.out _).mono ?_); rintro e w1 ⟨rfl, hc1⟩)
        have q1 : Chg No w w1 := (by (repeat (first | (with_reducible exact Chg.refl _ _) | ((with_reducible refine Chg.setNew ?_ _ ?_); rotate_left; first | (dsimp only; omega) | (simp; done) | (simp; omega)) | (with_reducible refine Chg.alloc ?_ _) | (with_reducible refine Chg.drew ?_) | (with_reducible refine Chg.drewN ?_ _) | (with_reducible refine Chg.no ?_ (by assumption)) | (with_reducible refine Chg.and_ ?_ (by assumption)) | ((with_reducible refine Chg.at_ ?_ (by assumption) ?_); rotate_left; (try simp only [World.size_alloc]); omega))) : Chg No w w1)
        have B1 := hid (BX.out.no (Chg.no (by (repeat (first | (with_reducible exact Chg.refl _ _) | ((with_reducible refine Chg.setNew ?_ _ ?_); rotate_left; first | (dsimp only; omega) | (simp; done) | (simp; omega)) | (with_reducible refine Chg.alloc ?_ _) | (with_reducible refine Chg.drew ?_) | (with_reducible refine Chg.drewN ?_ _) | (with_reducible refine Chg.no ?_ (by assumption)) | (with_reducible refine Chg.and_ ?_ (by assumption)) | ((with_reducible refine Chg.at_ ?_ (by assumption) ?_); rotate_left; (try simp only [World.size_alloc]); omega)))) hc1))
        have b1 := B1.out.f2
        have m1 := B1.out.lt
        (go_wp2_with fail; (with_reducible refine (K2.out _).mono ?_); rintro e w2 ⟨rfl, hc2⟩)
        have q2 : Chg No w w2 := q1.no hc2
        have B2 := hid (B1.out.no hc2)
        have b2 := B2.out.f2
        have m2 := B2.out.lt
        (go_wp2_with fail; (with_reducible refine (K3.out _ q2).mono ?_); rintro e w3 ⟨rfl, hc3⟩)
        have q3 : Chg No w w3 := q2.no hc3
        have B3 := hid (B2.out.no hc3)
        have b3 := B3.out.f2
        have m3 := B3.out.lt
        go_wp2
        go_ret
        exact ⟨_, rfl, by rw [HF.out]; exact OSl.nil_ _, q3⟩
      | true =>
        rw [hb3] at K3
        cases hb4 : queryB xs 3 at_ with
        | false =>
          have HF := hid (RerankF_no (L := L) (R := R) (l := xs) (at_ := at_) (many := many) (k := k) (by rw [HB.out, hb4]; simp))
          rw [hb4] at K4
          clear hb1 hb2 hb3 hb4
          go_enter Try.func18, Try.ntmps18
          (go_wp2_with fail; (with_reducible refine (K1.out _).mono ?_); rintro e w1 ⟨rfl, hc1⟩)
          have q1 : Chg No w w1 := (by (repeat (first | (with_reducible exact Chg.refl _ _) | ((with_reducible refine Chg.setNew ?_ _ ?_); rotate_left; first | (dsimp only; omega) | (simp; done) | (simp; omega)) | (with_reducible refine Chg.alloc ?_ _) | (with_reducible refine Chg.drew ?_) | (with_reducible refine Chg.drewN ?_ _) | (with_reducible refine Chg.no ?_ (by assumption)) | (with_reducible refine Chg.and_ ?_ (by assumption)) | ((with_reducible refine Chg.at_ ?_ (by assumption) ?_); rotate_left; (try simp only [World.size_alloc]); omega))) : Chg No w w1)
          have B1 := hid (BX.out.no (Chg.no (by (repeat (first | (with_reducible exact Chg.refl _ _) | ((with_reducible refine Chg.setNew ?_ _ ?_); rotate_left; first | (dsimp only; omega) | (simp; done) | (simp; omega)) | (with_reducible refine Chg.alloc ?_ _) | (with_reducible refine Chg.drew ?_) | (with_reducible refine Chg.drewN ?_ _) | (with_reducible refine Chg.no ?_ (by assumption)) | (with_reducible refine Chg.and_ ?_ (by assumption)) | ((with_reducible refine Chg.at_ ?_ (by assumption) ?_); rotate_left; (try simp only [World.size_alloc]); omega)))) hc1))
          have b1 := B1.out.f2
          have m1 := B1.out.lt
          (go_wp2_with fail; (with_reducible refine (K2.out _).mono ?_); rintro e w2 ⟨rfl, hc2⟩)
          have q2 : Chg No w w2 := q1.no hc2
          have B2 := hid (B1.out.no hc2)
          have b2 := B2.out.f2
          have m2 := B2.out.lt
          (go_wp2_with fail; (with_reducible refine (K3.out _ q2).mono ?_); rintro e w3 ⟨rfl, hc3⟩)
          have q3 : Chg No w w3 := q2.no hc3
          have B3 := hid (B2.out.no hc3)
          have b3 := B3.out.f2
          have m3 := B3.out.lt
          (go_wp2_with fail; (with_reducible refine (K4.out _ q3).mono ?_); rintro e w8 ⟨rfl, hc8⟩)
          have q8 : Chg No w w8 := q3.no hc8
          have B8 := hid (B3.out.no hc8)
          have b8 := B8.out.f2
          have m8 := B8.out.lt
          go_wp2
          go_ret
          exact ⟨_, rfl, by rw [HF.out]; exact OSl.nil_ _, q8⟩
        | true =>
          rw [hb4] at K4
          have hok : RrOk L R xs at_ many k := rrOk_ok (by rw [HB.out, hb1, hb2, hb3, hb4]; rfl)
          have HF := hid (RerankF_ok hok.ok)
          have hn16 : n ≤ 16 := by have := HX.out.len; have := storeB_len hok.can.store; omega
          have hk1 := hok.k1; have hk16 := hok.k16; have hm1 := hok.m1; have hm16 := hok.m16
          have hMl : (cnearL L R xs at_ many).length ≤ 16 := by rw [cnear_len]; omega
          have HKY := hid (fun (y : Int × Int) (hy : y ∈ cnearL L R xs at_ many) => pickA_some hok.can.store (cnear_keys y hy))
          have hSl : (pickL xs (cnearL L R xs at_ many)).length ≤ 16 := by rw [pick_len]; exact hMl
          have HSV := hid (fun (x : It) (hx : x ∈ pickL xs (cnearL L R xs at_ many)) => storeB_vec hok.can.store (pick_mem hok.can.store cnear_keys hx))
          have HVB := hid hok.can.vec
          unfold rerankL at HF
          have K5 := hid (fun W (h : Chg No w W) => sCodeNearest lp hp AL nL cL L lq hq AR nR cR R l0 h0 A n c xs l1 h1 A' n' c' at_ many W (HL.out.no h) (HR.out.no h) (HX.out.no h) (HY.out.no h))
          rw [CnearF_ok hok.cn.ok] at K5
          have K6 := hid (fun A9 c9 W l9 h9 (h : RItems W l9 h9 A9 (pickL xs (cnearL L R xs at_ many)).length c9 (pickL xs (cnearL L R xs at_ many))) (h2 : RInts W l1 h1 A' n' c' at_) => sNearest l9 h9 A9 (pickL xs (cnearL L R xs at_ many)).length c9 (pickL xs (cnearL L R xs at_ many)) l1 h1 A' n' c' at_ 3 k W h h2 (by omega) HSV.out HVB.out (by omega) (by omega) (by omega) (by omega))
          obtain ⟨M, hM⟩ : ∃ M, cnearL L R xs at_ many = M := ⟨_, rfl⟩
          rw [hM] at K5 K6 HF HKY HSV hMl hSl
          obtain ⟨S, hS⟩ : ∃ S, pickL xs M = S := ⟨_, rfl⟩
          rw [hS] at K6 HF hSl
          have HSM := hid hS
          clear hb1 hb2 hb3 hb4 hok hM hS
          go_enter Try.func18, Try.ntmps18
          (go_wp2_with fail; (with_reducible refine (K1.out _).mono ?_); rintro e w1 ⟨rfl, hc1⟩)
          have q1 : Chg No w w1 := (by (repeat (first | (with_reducible exact Chg.refl _ _) | ((with_reducible refine Chg.setNew ?_ _ ?_); rotate_left; first | (dsimp only; omega) | (simp; done) | (simp; omega)) | (with_reducible refine Chg.alloc ?_ _) | (with_reducible refine Chg.drew ?_) | (with_reducible refine Chg.drewN ?_ _) | (with_reducible refine Chg.no ?_ (by assumption)) | (with_reducible refine Chg.and_ ?_ (by assumption)) | ((with_reducible refine Chg.at_ ?_ (by assumption) ?_); rotate_left; (try simp only [World.size_alloc]); omega))) : Chg No w w1)
          have B1 := hid (BX.out.no (Chg.no (by (repeat (first | (with_reducible exact Chg.refl _ _) | ((with_reducible refine Chg.setNew ?_ _ ?_); rotate_left; first | (dsimp only; omega) | (simp; done) | (simp; omega)) | (with_reducible refine Chg.alloc ?_ _) | (with_reducible refine Chg.drew ?_) | (with_reducible refine Chg.drewN ?_ _) | (with_reducible refine Chg.no ?_ (by assumption)) | (with_reducible refine Chg.and_ ?_ (by assumption)) | ((with_reducible refine Chg.at_ ?_ (by assumption) ?_); rotate_left; (try simp only [World.size_alloc]); omega)))) hc1))
          have b1 := B1.out.f2
          have m1 := B1.out.lt
          (go_wp2_with fail; (with_reducible refine (K2.out _).mono ?_); rintro e w2 ⟨rfl, hc2⟩)
          have q2 : Chg No w w2 := q1.no hc2
          have B2 := hid (B1.out.no hc2)
          have b2 := B2.out.f2
          have m2 := B2.out.lt
          (go_wp2_with fail; (with_reducible refine (K3.out _ q2).mono ?_); rintro e w3 ⟨rfl, hc3⟩)
          have q3 : Chg No w w3 := q2.no hc3
          have B3 := hid (B2.out.no hc3)
          have b3 := B3.out.f2
          have m3 := B3.out.lt
          (go_wp2_with fail; (with_reducible refine (K4.out _ q3).mono ?_); rintro e w8 ⟨rfl, hc8⟩)
          have q8 : Chg No w w8 := q3.no hc8
          have B8 := hid (B3.out.no hc8)
          have b8 := B8.out.f2
          have m8 := B8.out.lt
          have q2s : Chg No w w8 := q8
          clear hc1 hc2 hc3 hc8 K1 K2 K3 K4
          have q8s := q8.size
          have WA0 : Chg No w8 (w8.alloc (.cells #[] 36)) := (Chg.refl No w8).alloc _
          (go_wp2_with fail; (with_reducible refine (K5.out _ (q8.no WA0)).mono ?_); rintro e w4 ⟨v4, rfl, ho4, hc4⟩)
          obtain ⟨A4, c4, rfl, hr4⟩ := OHits.read ho4
          have hp4 := hr4.cap; have hl4 := hr4.le
          have R4 := hid hr4
          have s4 := hc4.size
          simp only [World.size_alloc] at R4 s4
          have q4 : Chg No w w4 := (q8.no WA0).no hc4
          have HO0 := hid (show OSl 36 3 cItem w4 w8.heap.size (.slice (some ⟨w8.heap.size, 0, none⟩) 0 0) [] from OSl.no (OSl.lit (enc := cItem) (n := 0) [] [] (fun _ => rfl) rfl rfl (by omega) (Nat.le_refl _) (heap_top rfl)) hc4)
          have HW0 := hid (show ∀ b, (Value.slice (some ⟨w8.heap.size, 0, none⟩) 0 0).ownBlock = some b → b = w8.heap.size ∨ w4.heap.size ≤ b from fun b hb => by injection hb with hb; exact Or.inl hb.symm)
          clear ho4 hr4 WA0
          go_wp2
          go_loopw [11, 13] (fun v i wr => ∃ j : Nat, j ≤ M.length ∧ i = .int .i64 j ∧ Chg (fun b => b = w8.heap.size) w4 wr ∧ ∃ qs : List ItP, Hid (qs.map (·.it) = pickL xs (M.take j)) ∧ Hid (OSl 36 3 cItem wr w8.heap.size v qs) ∧ Hid (∀ p ∈ qs, RInts w l0 h0 p.A p.n p.c p.it.vec) ∧ Hid (∀ b, v.ownBlock = some b → b = w8.heap.size ∨ w4.heap.size ≤ b)) (fun _ i _ => M.length - (intOf i).toNat)
          case atStart => exact ⟨0, Nat.zero_le _, rfl, Chg.refl _ _, [], rfl, HO0, (fun p hp => by cases hp), HW0⟩
          case round =>
            clear HO0 HW0
            obtain ⟨j, hj, rfl, hc, qs, HE, HO, HI, HW⟩ := hrel
            obtain ⟨wo, rfl⟩ : ∃ W : World, W = wr := ⟨_, rfl⟩
            have hcw : Chg No w wo := q4.trans hc (fun i hi (h : i = _) => by omega)
            have so := hc.size
            by_cases hlt : j < M.length
            · obtain ⟨b4, o4, y, rfl, _, _, hyj, hE4⟩ := (R4.out.keep hc (fun b h1 h2 (h3 : b = _) => by omega)).at_ hlt
              obtain ⟨y1, y2⟩ := y
              have g1 : wo.cell? ⟨b4, o4 + j * 2, none⟩ = some (.int .i64 y1) := hE4.1
              have g2 : wo.cell? ⟨b4, o4 + j * 2 + 1, none⟩ = some (.int .i64 y2) := hE4.2
              obtain ⟨q, hq, _, hkq⟩ := HKY.out _ (List.mem_of_getElem? hyj)
              have hqn : q < n := by have := (List.getElem?_eq_some_iff.1 hq).1; have := HX.out.len; omega
              have HP := hid (pick_snoc (l := xs) hyj)
              simp only [] at hq hkq HP
              obtain ⟨z, hz⟩ : ∃ z, pickA xs y1 = z := ⟨_, rfl⟩
              rw [hz] at hq HP
              have KX := hid (fun W (h : Chg No wo W) => sKeyAtC l0 h0 A n c xs y1 W (HX.out.no (hcw.no h)))
              rw [hkq] at KX
              obtain ⟨b, o, z1, hA0, _, _, hz1, hE⟩ := (HX.out.no hcw).at_ hqn
              obtain ⟨_, _, z2, hA1, _, _, hz2, hEo⟩ := HX.out.at_ hqn
              rw [hA0] at hA1
              injection hA1 with hA1
              injection hA1 with e1 e2 _
              subst e1 e2
              rw [hq] at hz1 hz2
              injection hz1 with hz1
              injection hz2 with hz2
              subst hz1 hz2
              subst hA0
              obtain ⟨zk, zv, zt⟩ := z
              obtain ⟨hE1, ⟨A1, n1, c1, hE2, hv⟩, hE3⟩ := hE
              obtain ⟨_, ⟨A2, n2, c2, hE2o, hvo⟩, _⟩ := hEo
              have h9 := cell_keep hcw hE2o (fun e => e)
              rw [hE2] at h9
              injection h9 with h9
              injection h9 with e1 e2 e3
              subst e1 e2 e3
              have f1 : wo.cell? ⟨b, o + q * 3, none⟩ = some (.int .i64 zk) := hE1
              have f2 : wo.cell? ⟨b, o + q * 3 + 1, none⟩ = some (.slice A1 n1 c1) := hE2
              have f3 : wo.cell? ⟨b, o + q * 3 + 2, none⟩ = some (.int .i64 zt) := hE3
              have HV := hid hvo
              have hpl : qs.length ≤ 16 := by
                have h9 := congrArg List.length HE.out
                rw [List.length_map, pick_len, List.length_take] at h9
                omega
              have BZ := hid (Box.new (w := wo) [.int .i64 y1, .int .i64 y2] 39 rfl)
              clear hyj hE4 hq hkq hz hE1 hE2 hE3 hv hvo hE2o
              (go_wp2_with fail; (with_reducible refine (KX.out _ (by (repeat (first | (with_reducible exact Chg.refl _ _) | ((with_reducible refine Chg.setNew ?_ _ ?_); rotate_left; first | (dsimp only; omega) | (simp; done) | (simp; omega)) | (with_reducible refine Chg.alloc ?_ _) | (with_reducible refine Chg.drew ?_) | (with_reducible refine Chg.drewN ?_ _) | (with_reducible refine Chg.no ?_ (by assumption)) | (with_reducible refine Chg.and_ ?_ (by assumption)) | ((with_reducible refine Chg.at_ ?_ (by assumption) ?_); rotate_left; (try simp only [World.size_alloc]); omega))))).mono ?_); rintro e w5 ⟨rfl, hc5⟩)
              have hc05 : Chg No wo w5 := (by (repeat (first | (with_reducible exact Chg.refl _ _) | ((with_reducible refine Chg.setNew ?_ _ ?_); rotate_left; first | (dsimp only; omega) | (simp; done) | (simp; omega)) | (with_reducible refine Chg.alloc ?_ _) | (with_reducible refine Chg.drew ?_) | (with_reducible refine Chg.drewN ?_ _) | (with_reducible refine Chg.no ?_ (by assumption)) | (with_reducible refine Chg.and_ ?_ (by assumption)) | ((with_reducible refine Chg.at_ ?_ (by assumption) ?_); rotate_left; (try simp only [World.size_alloc]); omega))) : Chg No wo w5)
              have s5 := hc05.size
              have g5 := cell_keep hc05 f1 (fun e => e); have g6 := cell_keep hc05 f2 (fun e => e); have g7 := cell_keep hc05 f3 (fun e => e)
              have hcq : Chg (fun b => b = w8.heap.size) w4 w5 := hc.no hc05
              have HH := hid ((OSl.no HO.out hc05).alloc (.cells #[.int .i64 zk, .slice A1 n1 c1, .int .i64 zt] 36))
              have HX1 := hid (Src.one (sz := 3) (enc := cItem) (y := ⟨⟨zk, zv, zt⟩, A1, n1, c1⟩) (Box.new (w := w5) (g := w5.heap.size) [.int .i64 zk, .slice A1 n1 c1, .int .i64 zt] 36 rfl) rfl)
              go_wp2_with (at_builtin; refine wpList_push _ rfl _ _ 26 rfl 36 3 40 (.agg #[.int .i64 0, .slice none 0 0, .int .i64 0]) cItem Try.underlying26 infoItem rfl (by omega) (by omega) (fun _ => rfl) oneItem w8.heap.size _ qs rfl HH.out _ 1 1 [⟨⟨zk, zv, zt⟩, A1, n1, c1⟩] rfl HX1.out (by omega) (by simp; omega) ?_; intro v' w6 ho6 hg6 hb6)
              have hc6 : Chg (fun b => b = w8.heap.size) w4 w6 := Chg.grown (hcq.alloc _) hg6 (fun b hb hlt => by
                rcases HW.out b hb with h | h
                · exact h
                · omega)
              have HW6 : Hid (∀ b, v'.ownBlock = some b → b = w8.heap.size ∨ w4.heap.size ≤ b) := fun b hb => by
                rcases hb6 b hb with h | h
                · exact HW.out b h
                · simp only [World.size_alloc] at h; exact Or.inr (by omega)
              have HO6 := hid ho6
              have HE6 : Hid ((qs ++ [(⟨⟨zk, zv, zt⟩, A1, n1, c1⟩ : ItP)]).map (·.it) = pickL xs (M.take (j + 1))) := by show _ = _; rw [HP.out, List.map_append, HE.out]; rfl
              have HI6 : Hid (∀ p ∈ qs ++ [(⟨⟨zk, zv, zt⟩, A1, n1, c1⟩ : ItP)], RInts w l0 h0 p.A p.n p.c p.it.vec) := fun p hp => by
                rcases List.mem_append.1 hp with hp | hp
                · exact HI.out p hp
                · rw [List.mem_singleton.1 hp]; exact HV.out
              clear ho6 hg6 hb6 HX1 HH HE HI HO HW HP
              go_wp2
              go_roundw
              case rel => exact ⟨j + 1, by omega, by go_num, hc6, _, HE6, HO6, HI6, HW6⟩
              case measure => simp [intOf]; omega
            · have HE2 := HE.out
              rw [List.take_of_length_le (by omega), HSM.out] at HE2
              obtain ⟨A6, c6, hv6, hr6⟩ := read_ps HO.out (fun p hp => (HI.out p hp).no hcw)
              rw [HE2] at hv6 hr6
              subst hv6
              have hp6 := hr6.cap; have hl6 := hr6.le
              have HR6 := hid hr6
              clear HE HE2 hr6 HO HI
              (go_wp2_with fail; (with_reducible refine (K6.out _ _ _ _ _ HR6.out (HY.out.no hcw)).mono ?_); rintro e w7 ⟨v7, rfl, ho7, hc7⟩)
              have HO7 := hid (OSl.down ho7 (base' := w.heap.size) hcw.size)
              clear ho7
              go_wp2
              go_ret
              exact ⟨_, rfl, by rw [HF.out]; exact HO7.out, hcw.no hc7⟩
end Go.Proofs.Ytifdcdpdihfbjaa
