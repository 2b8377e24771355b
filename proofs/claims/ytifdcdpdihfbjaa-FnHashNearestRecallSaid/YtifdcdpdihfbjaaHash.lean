/- Hashes: dot products, hashes of vectors, valid planes, the program's and the reference's. -/
import Derived.Test.YtifdcdpdihfbjaaPHash
import Derived.Test.YtifdcdpdihfbjaaVec
import Derived.Test.YtifdcdpdihfbjaaKind
import Derived.Test.YtifdcdpdihfbjaaQuiet
import Derived.Test.YtifdcdpdihfbjaaTypes
import Derived.Shelf.Abstract
namespace Go.Proofs.Ytifdcdpdihfbjaa
open Go.RowKit Go.Shelf
set_option linter.unusedVariables false
set_option linter.unusedSimpArgs false
theorem zip_takeR : ∀ (a b : List Int), a.zip (b.take a.length) = a.zip b
  | [], b => by simp
  | x :: a, [] => by simp
  | x :: a, y :: b => by simp [zip_takeR a b]
theorem dotF_all {a b : List Int} {k : Nat} (h : a.length = k) : dotF (a.take k) (b.take k) = dotF a b := by
  subst h
  unfold dotF
  rw [List.take_length, zip_takeR]
set_option maxHeartbeats 1000000 in
theorem iDot (l0 h0 l1 h1 : Nat) (A A' : Option Addr) (n c n' c' : Nat) (a b : List Int) (w : World) (ha : RInts w l0 h0 A n c a) (hb : RInts w l1 h1 A' n' c' b) (hn : n ≤ n') (hn1 : n ≤ 100000) (sa : Small a) (sb : Small b) :
    Calls Try.prog 125 #[.slice A n c, .slice A' n' c'] w fun e w' => e = .returned (.int .i64 (dotF a b)) ∧ w = w' := by
  have hnc := ha.le; have hcm := ha.cap; have hnc' := hb.le; have hcm' := hb.cap
  have HA := hid ha; have HB := hid hb; have SA := hid sa; have SB := hid sb
  clear ha hb sa sb
  go_enter Try.func125, Try.ntmps125
  go_wp2
  go_loop [5, 10] (fun s i => ∃ k : Nat, k ≤ n ∧ i = .int .i64 k ∧ s = .int .i64 (dotF (a.take k) (b.take k))) (fun _ i => n - (intOf i).toNat)
  case atStart => exact ⟨0, Nat.zero_le _, rfl, rfl⟩
  case round =>
    obtain ⟨k, hk, rfl, rfl⟩ := hrel
    by_cases hlt : k < n
    · obtain ⟨bb, o, x, rfl, _, _, hxk, hE⟩ := HA.out.at_ hlt
      obtain ⟨bb', o', y, rfl, _, _, hyk, hE'⟩ := HB.out.at_ (k := k) (by omega)
      have hlt' : k < n' := by omega
      have hE1 : w.cell? ⟨bb, o + k, none⟩ = some (.int .i64 x) := by simpa [EInt] using hE
      have hE2 : w.cell? ⟨bb', o' + k, none⟩ = some (.int .i64 y) := by simpa [EInt] using hE'
      have HS := hid (dotF_snoc hxk hyk)
      have bxy := mul_bd (SA.out x (List.mem_of_getElem? hxk)) (SB.out y (List.mem_of_getElem? hyk))
      have bd := dotF_bd (SA.out.take k) (SB.out.take k)
      have hl : ((a.take k).length : Int) ≤ 100000 := by rw [List.length_take]; omega
      have m1 := bxy.1
      have m2 := bxy.2
      have d1 : -1000000000 ≤ dotF (a.take k) (b.take k) := by omega
      have d2 : dotF (a.take k) (b.take k) ≤ 1000000000 := by omega
      clear hxk hyk hE hE' bd hl bxy
      generalize dotF (a.take k) (b.take k) = s at *
      go_wp2
      go_round
      case rel => exact ⟨k + 1, by omega, by go_num, by rw [HS.out]⟩
      case measure => simp [intOf]; omega
    · have hkn : k = n := by omega
      have HQ : Hid (dotF (a.take k) (b.take k) = dotF a b) := by
        show _ = _
        exact dotF_all (by rw [hkn]; exact HA.out.len)
      rw [HQ.out]
      go_wp2
      go_ret
      exact ⟨rfl, rfl⟩
set_option maxHeartbeats 1000000 in
theorem sDot (l0 h0 l1 h1 : Nat) (A A' : Option Addr) (n c n' c' : Nat) (a b : List Int) (w : World) (ha : RInts w l0 h0 A n c a) (hb : RInts w l1 h1 A' n' c' b) (hn : n ≤ n') (hn1 : n ≤ 100000) (sa : Small a) (sb : Small b) :
    Calls Try.prog 121 #[.slice A n c, .slice A' n' c'] w fun e w' => e = .returned (.int .i64 (dotF a b)) ∧ Chg No w w' := by
  have hnc := ha.le; have hcm := ha.cap; have hnc' := hb.le; have hcm' := hb.cap
  have HA := hid ha; have HB := hid hb; have SA := hid sa; have SB := hid sb
  clear ha hb sa sb
  go_enter Try.func121, Try.ntmps121
  go_wp2
  go_loopw [5, 6] (fun s i wr => ∃ k : Nat, k ≤ n ∧ i = .int .i64 k ∧ s = .int .i64 (dotF (a.take k) (b.take k)) ∧ Chg No w wr) (fun _ i _ => n - (intOf i).toNat)
  case atStart => exact ⟨0, Nat.zero_le _, rfl, rfl, Chg.refl _ _⟩
  case round =>
    obtain ⟨k, hk, rfl, rfl, hc⟩ := hrel
    by_cases hlt : k < n
    · obtain ⟨bb, o, x, rfl, _, _, hxk, hE⟩ := (HA.out.no hc).at_ hlt
      obtain ⟨bb', o', y, rfl, _, _, hyk, hE'⟩ := (HB.out.no hc).at_ (k := k) (by omega)
      have hlt' : k < n' := by omega
      have f1 : ∀ p : NB wr, p.wd.cell? ⟨bb, o + k, none⟩ = some (.int .i64 x) := nb_cell (by simpa [EInt] using hE)
      have f2 : ∀ p : NB wr, p.wd.cell? ⟨bb', o' + k, none⟩ = some (.int .i64 y) := nb_cell (by simpa [EInt] using hE')
      have HS := hid (dotF_snoc hxk hyk)
      have bxy := mul_bd (SA.out x (List.mem_of_getElem? hxk)) (SB.out y (List.mem_of_getElem? hyk))
      have bd := dotF_bd (SA.out.take k) (SB.out.take k)
      have hl : ((a.take k).length : Int) ≤ 100000 := by rw [List.length_take]; omega
      have d1 : -1000000000 ≤ dotF (a.take k) (b.take k) := by omega
      have d2 : dotF (a.take k) (b.take k) ≤ 1000000000 := by omega
      clear hxk hyk hE hE' bd hl
      generalize dotF (a.take k) (b.take k) = s at *
      obtain ⟨z, hz⟩ : ∃ z, x * y = z := ⟨_, rfl⟩
      have e1 : IntKind.i64.wrap (x * y) = z := by rw [IntKind.wrap_i64, hz]; omega
      have e2 : IntKind.i64.wrap (s + z) = s + z := by rw [IntKind.wrap_i64]; omega
      rw [hz] at HS
      clear hz bxy
      go_wp2_with fail
      (refine wp_region_nb (by kernel_rfl) (by kernel_rfl) ?_; (repeat (first | go_big_quiet_step (fail) | quiet_step (fail))); (with_reducible refine wpQuiet_nil ?_); intro wq hw1; have hq := nb_out hw1; clear hw1)
      go_wp2
      go_roundw
      case rel => exact ⟨k + 1, by omega, by go_num, by rw [HS.out], by (repeat (first | (with_reducible exact Chg.refl _ _) | ((with_reducible refine Chg.setNew ?_ _ ?_); rotate_left; first | (dsimp only; omega) | (simp; done) | (simp; omega)) | (with_reducible refine Chg.alloc ?_ _) | (with_reducible refine Chg.drew ?_) | (with_reducible refine Chg.drewN ?_ _) | (with_reducible refine Chg.no ?_ (by assumption)) | (with_reducible refine Chg.and_ ?_ (by assumption)) | ((with_reducible refine Chg.at_ ?_ (by assumption) ?_); rotate_left; (try simp only [World.size_alloc]); omega)))⟩
      case measure => simp [intOf]; omega
    · have hkn : k = n := by omega
      have HQ : Hid (dotF (a.take k) (b.take k) = dotF a b) := by
        show _ = _
        exact dotF_all (by rw [hkn]; exact HA.out.len)
      rw [HQ.out]
      go_wp2
      go_ret
      exact ⟨rfl, hc⟩
set_option maxHeartbeats 1000000 in
theorem iHash (l0 h0 l1 h1 : Nat) (A A' : Option Addr) (n c c' : Nat) (ps : List (List Int)) (at_ : List Int) (w : World) (hx : RRows w l0 h0 A n c ps) (hy : RInts w l1 h1 A' 4 c' at_) (hp : ∀ p ∈ ps, vecB p = true) (hn : n ≤ 6) (sa : Small at_) :
    Calls Try.prog 107 #[.slice A n c, .slice A' 4 c'] w fun e w' => e = .returned (.int .i64 (hashF ps at_)) ∧ w = w' := by
  have hnc := hx.le; have hcm := hx.cap
  have HX := hid hx; have HY := hid hy; have HP := hid hp; have SA := hid sa
  clear hx hy hp sa
  go_enter Try.func107, Try.ntmps107
  go_wp2
  go_loop [5, 10] (fun s i => ∃ k : Nat, k ≤ n ∧ i = .int .i64 k ∧ s = .int .i64 (hashF (ps.take k) at_)) (fun _ i => n - (intOf i).toNat)
  case atStart => exact ⟨0, Nat.zero_le _, rfl, rfl⟩
  case round =>
    obtain ⟨k, hk, rfl, rfl⟩ := hrel
    by_cases hlt : k < n
    · obtain ⟨b, o, r, rfl, _, _, hrk, A1, n1, c1, hE2, hv⟩ := HX.out.at_ hlt
      have hE3 : w.cell? ⟨b, o + k, none⟩ = some (.slice A1 n1 c1) := by simpa using hE2
      have hrb := HP.out r (List.mem_of_getElem? hrk)
      have hr4 : n1 = 4 := by have h9 : r.length = n1 := hv.len; have := vecB_len hrb; omega
      subst hr4
      have hbd := hashF_64 (ps := ps.take k) (by rw [List.length_take]; omega) at_
      have b1 := hbd.1; have b2 := hbd.2
      have HS := hid (hashF_snoc (at_ := at_) hrk)
      have HV := hid hv
      have HSM := hid (vecB_small hrb)
      generalize hashF (ps.take k) at_ = s at *
      obtain ⟨d, hd⟩ : ∃ d, dotF r at_ = d := ⟨_, rfl⟩
      have K := hid (fun W (ha : RInts W l0 h0 A1 4 c1 r) (hb : RInts W l1 h1 A' 4 c' at_) => iDot l0 h0 l1 h1 A1 A' 4 c1 4 c' r at_ W ha hb (Nat.le_refl _) (by omega) HSM.out SA.out)
      rw [hd] at K
      by_cases h0d : 0 ≤ d
      · have HS2 : Hid (hashF (ps.take (k + 1)) at_ = s * 2 + 1) := by show _ = _; rw [HS.out]; unfold hStep; rw [hd, if_pos h0d]; omega
        clear hrk hE2 hv hbd hd
        (go_wp2_with fail; (with_reducible refine (K.out _ HV.out HY.out).mono ?_); rintro e w1 ⟨rfl, rfl⟩)
        go_wp2
        go_round
        case rel => exact ⟨k + 1, by omega, by go_num, by rw [HS2.out]⟩
        case measure => simp [intOf]; omega
      · have HS2 : Hid (hashF (ps.take (k + 1)) at_ = s * 2) := by show _ = _; rw [HS.out]; unfold hStep; rw [hd, if_neg h0d]; omega
        have h0d' : d < 0 := by omega
        clear hrk hE2 hv hbd hd h0d
        (go_wp2_with fail; (with_reducible refine (K.out _ HV.out HY.out).mono ?_); rintro e w1 ⟨rfl, rfl⟩)
        go_wp2
        go_round
        case rel => exact ⟨k + 1, by omega, by go_num, by rw [HS2.out]⟩
        case measure => simp [intOf]; omega
    · have hkn : k = n := by omega
      have HQ : Hid (hashF (ps.take k) at_ = hashF ps at_) := by show _ = _; rw [hkn, List.take_of_length_le (by rw [show ps.length = n from HX.out.len]; exact Nat.le_refl _)]
      rw [HQ.out]
      go_wp2
      go_ret
      exact ⟨rfl, rfl⟩
set_option maxHeartbeats 1000000 in
theorem sHash (l0 h0 l1 h1 : Nat) (A A' : Option Addr) (n c c' : Nat) (ps : List (List Int)) (at_ : List Int) (w : World) (hx : RRows w l0 h0 A n c ps) (hy : RInts w l1 h1 A' 4 c' at_) (hp : ∀ p ∈ ps, vecB p = true) (hn : n ≤ 6) (sa : Small at_) :
    Calls Try.prog 103 #[.slice A n c, .slice A' 4 c'] w fun e w' => e = .returned (.int .i64 (hashF ps at_)) ∧ Chg No w w' := by
  have hnc := hx.le; have hcm := hx.cap
  have HX := hid hx; have HY := hid hy; have HP := hid hp; have SA := hid sa
  clear hx hy hp sa
  go_enter Try.func103, Try.ntmps103
  go_wp2
  go_loopw [5, 6] (fun s i wr => ∃ k : Nat, k ≤ n ∧ i = .int .i64 k ∧ s = .int .i64 (hashF (ps.take k) at_) ∧ Chg No w wr) (fun _ i _ => n - (intOf i).toNat)
  case atStart => exact ⟨0, Nat.zero_le _, rfl, rfl, Chg.refl _ _⟩
  case round =>
    obtain ⟨k, hk, rfl, rfl, hc⟩ := hrel
    by_cases hlt : k < n
    · obtain ⟨b, o, r, rfl, _, _, hrk, A1, n1, c1, hE2, hv⟩ := (HX.out.no hc).at_ hlt
      have hE3 : wr.cell? ⟨b, o + k, none⟩ = some (.slice A1 n1 c1) := by simpa using hE2
      have hrb := HP.out r (List.mem_of_getElem? hrk)
      have hr4 : n1 = 4 := by have h9 : r.length = n1 := hv.len; have := vecB_len hrb; omega
      subst hr4
      have hbd := hashF_64 (ps := ps.take k) (by rw [List.length_take]; omega) at_
      have b1 := hbd.1; have b2 := hbd.2
      have HS := hid (hashF_snoc (at_ := at_) hrk)
      have HV := hid hv
      have HSM := hid (vecB_small hrb)
      generalize hashF (ps.take k) at_ = s at *
      obtain ⟨d, hd⟩ : ∃ d, dotF r at_ = d := ⟨_, rfl⟩
      have K := hid (fun W (ha : RInts W l0 h0 A1 4 c1 r) (hb : RInts W l1 h1 A' 4 c' at_) => sDot l0 h0 l1 h1 A1 A' 4 c1 4 c' r at_ W ha hb (Nat.le_refl _) (by omega) HSM.out SA.out)
      rw [hd] at K
      by_cases h0d : 0 ≤ d
      · have HS2 : Hid (hashF (ps.take (k + 1)) at_ = 2 * s + 1) := by show _ = _; rw [HS.out]; unfold hStep; rw [hd, if_pos h0d]
        have KT := hid (fun W => toInt true W)
        have j0 : decide (0 ≤ d) = true := decide_eq_true h0d
        clear hrk hE2 hv hbd hd
        (go_wp2_with fail; (with_reducible refine (K.out _ HV.out (HY.out.no hc)).mono ?_); rintro e w1 ⟨rfl, hc1⟩)
        (go_wp2_with fail; (with_reducible refine (KT.out _).mono ?_); rintro e w1 ⟨rfl, rfl⟩)
        go_wp2
        go_roundw
        case rel => exact ⟨k + 1, by omega, by go_num, by rw [HS2.out], by (repeat (first | (with_reducible exact Chg.refl _ _) | ((with_reducible refine Chg.setNew ?_ _ ?_); rotate_left; first | (dsimp only; omega) | (simp; done) | (simp; omega)) | (with_reducible refine Chg.alloc ?_ _) | (with_reducible refine Chg.drew ?_) | (with_reducible refine Chg.drewN ?_ _) | (with_reducible refine Chg.no ?_ (by assumption)) | (with_reducible refine Chg.and_ ?_ (by assumption)) | ((with_reducible refine Chg.at_ ?_ (by assumption) ?_); rotate_left; (try simp only [World.size_alloc]); omega)))⟩
        case measure => simp [intOf]; omega
      · have HS2 : Hid (hashF (ps.take (k + 1)) at_ = 2 * s) := by show _ = _; rw [HS.out]; unfold hStep; rw [hd, if_neg h0d]; omega
        have KT := hid (fun W => toInt false W)
        have h0d' : d < 0 := by omega
        have j0 : decide (0 ≤ d) = false := decide_eq_false h0d
        clear hrk hE2 hv hbd hd h0d
        (go_wp2_with fail; (with_reducible refine (K.out _ HV.out (HY.out.no hc)).mono ?_); rintro e w1 ⟨rfl, hc1⟩)
        (go_wp2_with fail; (with_reducible refine (KT.out _).mono ?_); rintro e w1 ⟨rfl, rfl⟩)
        go_wp2
        go_roundw
        case rel => exact ⟨k + 1, by omega, by go_num, by rw [HS2.out], by (repeat (first | (with_reducible exact Chg.refl _ _) | ((with_reducible refine Chg.setNew ?_ _ ?_); rotate_left; first | (dsimp only; omega) | (simp; done) | (simp; omega)) | (with_reducible refine Chg.alloc ?_ _) | (with_reducible refine Chg.drew ?_) | (with_reducible refine Chg.drewN ?_ _) | (with_reducible refine Chg.no ?_ (by assumption)) | (with_reducible refine Chg.and_ ?_ (by assumption)) | ((with_reducible refine Chg.at_ ?_ (by assumption) ?_); rotate_left; (try simp only [World.size_alloc]); omega)))⟩
        case measure => simp [intOf]; omega
    · have hkn : k = n := by omega
      have HQ : Hid (hashF (ps.take k) at_ = hashF ps at_) := by show _ = _; rw [hkn, List.take_of_length_le (by rw [show ps.length = n from HX.out.len]; exact Nat.le_refl _)]
      rw [HQ.out]
      go_wp2
      go_ret
      exact ⟨rfl, hc⟩
/-- what is asked of a predicate on rows -/
def PredR (g : Nat) (lb : Array Value) (p : List Int → Bool) (w : World) : Prop := ∀ (W : World) (lo hi : Nat) (A : Option Addr) (n c : Nat) (r : List Int), Chg No w W → RInts W lo hi A n c r → Calls Try.prog g (#[.slice A n c] ++ lb) W fun e w' => e = .returned (.bool (p r)) ∧ Chg No W w'
set_option maxHeartbeats 1000000 in
theorem indexFuncR (l0 h0 : Nat) (A : Option Addr) (n c : Nat) (xs : List (List Int)) (g : Nat) (lb : Array Value) (p : List Int → Bool) (w : World) (hx : RRows w l0 h0 A n c xs)
    (eg : ∀ args w, (callFunc g args).run Try.prog w = .ok (.enter g args) w) (hp : PredR g lb p w) :
    Calls Try.prog 122 #[.slice A n c, .func (.func g) #[] lb] w fun e w' => e = .returned (.int .i64 (Lib.idxBy (fun _ y => p y) xs default)) ∧ Chg No w w' := by
  have hnc := hx.le; have hcm := hx.cap
  have HX := hid hx
  have HP := hid hp
  clear hx hp
  go_enter Try.func122, Try.ntmps122
  go_wp2
  go_loopw [8] (fun i wr => ∃ k : Nat, k ≤ n ∧ i = .int .i64 k ∧ Chg No w wr ∧ Hid (∀ (j : Nat) (y : List Int), j < k → xs[j]? = some y → p y = false)) (fun i _ => n - (intOf i).toNat)
  case atStart => exact ⟨0, Nat.zero_le _, rfl, Chg.refl _ _, fun j x hj => absurd hj (by omega)⟩
  case round =>
    obtain ⟨k, hk, rfl, hc, HN⟩ := hrel
    by_cases hlt : k < n
    · obtain ⟨b, o, x, rfl, _, _, hxk, A1, n1, c1, hE2, hv⟩ := (HX.out.no hc).at_ hlt
      have hE3 : wr.cell? ⟨b, o + k, none⟩ = some (.slice A1 n1 c1) := by simpa using hE2
      have Hxk := hid hxk
      have hcall := HP.out wr _ _ A1 n1 c1 x hc hv
      clear hxk hE2 hv
      cases hq : p x with
      | true =>
        rw [hq] at hcall
        have HC := hid hcall
        have HF := hid (show Lib.idxBy (fun _ y => p y) xs default = (k : Int) from by
          have hkl := (List.getElem?_eq_some_iff.1 Hxk.out).1
          have := Lib.idxBy_hit (fun (_ : List Int) y => p y) xs xs.length k default hkl (Nat.le_refl _) (by simp [List.getElem!_eq_getElem?_getD, Hxk.out, hq]) (fun j hj => by
            have hj' : xs[j]? = some (xs[j]'(by omega)) := List.getElem?_eq_getElem (by omega)
            have := HN.out j _ hj hj'
            simp [List.getElem!_eq_getElem?_getD, hj', this])
          rw [List.take_of_length_le (Nat.le_refl _)] at this
          exact this)
        clear hcall hq
        go_wp2_with (go_at_fn g; refine (HC.out).mono ?_; rintro e w' ⟨rfl, hc'⟩)
        go_ret
        exact ⟨by rw [HF.out]; rfl, by (repeat (first | (with_reducible exact Chg.refl _ _) | ((with_reducible refine Chg.setNew ?_ _ ?_); rotate_left; first | (dsimp only; omega) | (simp; done) | (simp; omega)) | (with_reducible refine Chg.alloc ?_ _) | (with_reducible refine Chg.drew ?_) | (with_reducible refine Chg.drewN ?_ _) | (with_reducible refine Chg.no ?_ (by assumption)) | (with_reducible refine Chg.and_ ?_ (by assumption)) | ((with_reducible refine Chg.at_ ?_ (by assumption) ?_); rotate_left; (try simp only [World.size_alloc]); omega)))⟩
      | false =>
        rw [hq] at hcall
        have HC := hid hcall
        have HN2 : Hid (∀ (j : Nat) (y : List Int), j < k + 1 → xs[j]? = some y → p y = false) := fun j y hj hy => by
          by_cases hjk : j < k
          · exact HN.out j y hjk hy
          · obtain rfl : j = k := by omega
            rw [Hxk.out] at hy; injection hy with hy; subst hy; exact hq
        clear hcall hq
        go_wp2_with (go_at_fn g; refine (HC.out).mono ?_; rintro e w' ⟨rfl, hc'⟩)
        go_roundw
        case rel => exact ⟨k + 1, by omega, by go_num, by (repeat (first | (with_reducible exact Chg.refl _ _) | ((with_reducible refine Chg.setNew ?_ _ ?_); rotate_left; first | (dsimp only; omega) | (simp; done) | (simp; omega)) | (with_reducible refine Chg.alloc ?_ _) | (with_reducible refine Chg.drew ?_) | (with_reducible refine Chg.drewN ?_ _) | (with_reducible refine Chg.no ?_ (by assumption)) | (with_reducible refine Chg.and_ ?_ (by assumption)) | ((with_reducible refine Chg.at_ ?_ (by assumption) ?_); rotate_left; (try simp only [World.size_alloc]); omega))), HN2⟩
        case measure => simp [intOf]; omega
    · have HF := hid (show Lib.idxBy (fun _ y => p y) xs default = -1 from by
        have := Lib.idxBy_miss (fun (_ : List Int) y => p y) xs xs.length default (fun j hj => by
          have hj' : xs[j]? = some (xs[j]'hj) := List.getElem?_eq_getElem hj
          have := HN.out j _ (by have := HX.out.len; omega) hj'
          simp [List.getElem!_eq_getElem?_getD, hj', this])
        rw [List.take_of_length_le (Nat.le_refl _)] at this
        exact this)
      go_wp2
      go_ret
      exact ⟨by rw [HF.out]; rfl, by (repeat (first | (with_reducible exact Chg.refl _ _) | ((with_reducible refine Chg.setNew ?_ _ ?_); rotate_left; first | (dsimp only; omega) | (simp; done) | (simp; omega)) | (with_reducible refine Chg.alloc ?_ _) | (with_reducible refine Chg.drew ?_) | (with_reducible refine Chg.drewN ?_ _) | (with_reducible refine Chg.no ?_ (by assumption)) | (with_reducible refine Chg.and_ ?_ (by assumption)) | ((with_reducible refine Chg.at_ ?_ (by assumption) ?_); rotate_left; (try simp only [World.size_alloc]); omega)))⟩
set_option maxHeartbeats 1000000 in
theorem containsFuncR (l0 h0 : Nat) (A : Option Addr) (n c : Nat) (xs : List (List Int)) (g : Nat) (lb : Array Value) (p : List Int → Bool) (w : World) (hx : RRows w l0 h0 A n c xs)
    (eg : ∀ args w, (callFunc g args).run Try.prog w = .ok (.enter g args) w) (hp : PredR g lb p w) :
    Calls Try.prog 104 #[.slice A n c, .func (.func g) #[] lb] w fun e w' => e = .returned (.bool (xs.any p)) ∧ Chg No w w' := by
  have hcall := indexFuncR l0 h0 A n c xs g lb p w hx eg hp
  have HF := hid (Lib.idxBy_nonneg_iff (fun (_ : List Int) y => p y) xs default)
  clear hx hp
  generalize Lib.idxBy (fun (_ : List Int) y => p y) xs default = r at hcall HF
  generalize (xs.any fun y => p y) = q at HF ⊢
  have HC := hid hcall
  clear hcall eg
  go_enter Try.func104, Try.ntmps104
  go_wp2_with ((go_at_call 122; (with_reducible refine HC.out.mono ?_); rintro e w' ⟨rfl, hc⟩))
  go_ret
  exact ⟨by rw [← HF.out]; rfl, by (repeat (first | (with_reducible exact Chg.refl _ _) | ((with_reducible refine Chg.setNew ?_ _ ?_); rotate_left; first | (dsimp only; omega) | (simp; done) | (simp; omega)) | (with_reducible refine Chg.alloc ?_ _) | (with_reducible refine Chg.drew ?_) | (with_reducible refine Chg.drewN ?_ _) | (with_reducible refine Chg.no ?_ (by assumption)) | (with_reducible refine Chg.and_ ?_ (by assumption)) | ((with_reducible refine Chg.at_ ?_ (by assumption) ?_); rotate_left; (try simp only [World.size_alloc]); omega)))⟩
theorem areVec1 (lo hi : Nat) (A : Option Addr) (n c : Nat) (r : List Int) (w : World) (hx : RInts w lo hi A n c r) :
    Calls Try.prog 105 #[.slice A n c] w fun e w' => e = .returned (.bool (!vecB r)) ∧ Chg No w w' := by
  have K := hid (show Calls Try.prog 57 #[.slice A n c, .int .i64 4] w fun e w' => e = .returned (.bool (vecN 4 r)) ∧ w = w' from isVecN 4 lo hi A n c r w hx (by omega))
  have HF := hid (show vecN 4 r = vecB r from rfl)
  obtain ⟨q, hq⟩ : ∃ q, vecB r = q := ⟨_, rfl⟩
  rw [HF.out, hq] at K
  rw [hq]
  clear hx HF hq
  go_enter Try.func105, Try.ntmps105
  (go_wp2_with fail; (with_reducible refine K.out.mono ?_); rintro e w1 ⟨rfl, rfl⟩)
  go_wp2
  go_ret
  exact ⟨rfl, Chg.refl _ _⟩
theorem any_not_vec (ps : List (List Int)) : (ps.any fun r => !vecB r) = !(ps.all vecB) := by
  rw [Bool.eq_iff_iff]; simp
set_option maxHeartbeats 1000000 in
theorem areVectors (l0 h0 : Nat) (A : Option Addr) (n c : Nat) (ps : List (List Int)) (w : World) (hx : RRows w l0 h0 A n c ps) :
    Calls Try.prog 72 #[.slice A n c, .int .i64 6] w fun e w' => e = .returned (.bool (planesB ps)) ∧ Chg No w w' := by
  have hnc := hx.le; have hcm := hx.cap
  have hl : ps.length = n := hx.len
  have EG := hid (enters_of (P := Try.prog) Try.func105 (by kernel_rfl) rfl)
  have hcall := fun W (h : RRows W l0 h0 A n c ps) => containsFuncR l0 h0 A n c ps 105 #[] (fun r => !vecB r) W h EG.out (fun W' lo hi A' n' c' r _ hr => areVec1 lo hi A' n' c' r W' hr)
  have HX := hid hx
  by_cases h1 : 1 ≤ n
  · by_cases h6 : n ≤ 6
    · have HF : Hid (planesB ps = !(ps.any fun r => !vecB r)) := by
        show _ = _
        rw [any_not_vec]; unfold planesB; rw [decide_eq_true (by omega)]; simp
      generalize (ps.any fun r => !vecB r) = q at hcall HF
      have HC := hid hcall
      clear hcall hx hl
      have j1 : decide ((1 : Int) ≤ n) = true := decide_eq_true (by omega)
      have j2 : decide ((n : Int) ≤ 6) = true := decide_eq_true (by omega)
      rw [HF.out]
      go_enter Try.func72, Try.ntmps72
      (go_wp2_with fail; (with_reducible refine (HC.out _ HX.out).mono ?_); rintro e w1 ⟨rfl, hc1⟩)
      go_wp2
      go_ret
      exact ⟨rfl, by (repeat (first | (with_reducible exact Chg.refl _ _) | ((with_reducible refine Chg.setNew ?_ _ ?_); rotate_left; first | (dsimp only; omega) | (simp; done) | (simp; omega)) | (with_reducible refine Chg.alloc ?_ _) | (with_reducible refine Chg.drew ?_) | (with_reducible refine Chg.drewN ?_ _) | (with_reducible refine Chg.no ?_ (by assumption)) | (with_reducible refine Chg.and_ ?_ (by assumption)) | ((with_reducible refine Chg.at_ ?_ (by assumption) ?_); rotate_left; (try simp only [World.size_alloc]); omega)))⟩
    · have HF : Hid (planesB ps = false) := by show _ = _; unfold planesB; rw [decide_eq_false (by omega)]; rfl
      have j1 : decide ((1 : Int) ≤ n) = true := decide_eq_true (by omega)
      have j2 : decide ((n : Int) ≤ 6) = false := decide_eq_false (by omega)
      clear hcall hx hl
      rw [HF.out]
      go_enter Try.func72, Try.ntmps72
      go_wp2
      go_ret
      exact ⟨rfl, by (repeat (first | (with_reducible exact Chg.refl _ _) | ((with_reducible refine Chg.setNew ?_ _ ?_); rotate_left; first | (dsimp only; omega) | (simp; done) | (simp; omega)) | (with_reducible refine Chg.alloc ?_ _) | (with_reducible refine Chg.drew ?_) | (with_reducible refine Chg.drewN ?_ _) | (with_reducible refine Chg.no ?_ (by assumption)) | (with_reducible refine Chg.and_ ?_ (by assumption)) | ((with_reducible refine Chg.at_ ?_ (by assumption) ?_); rotate_left; (try simp only [World.size_alloc]); omega)))⟩
  · have HF : Hid (planesB ps = false) := by show _ = _; unfold planesB; rw [decide_eq_false (by omega)]; rfl
    have j1 : decide ((1 : Int) ≤ n) = false := decide_eq_false (by omega)
    clear hcall hx hl
    rw [HF.out]
    go_enter Try.func72, Try.ntmps72
    go_wp2
    go_ret
    exact ⟨rfl, by (repeat (first | (with_reducible exact Chg.refl _ _) | ((with_reducible refine Chg.setNew ?_ _ ?_); rotate_left; first | (dsimp only; omega) | (simp; done) | (simp; omega)) | (with_reducible refine Chg.alloc ?_ _) | (with_reducible refine Chg.drew ?_) | (with_reducible refine Chg.drewN ?_ _) | (with_reducible refine Chg.no ?_ (by assumption)) | (with_reducible refine Chg.and_ ?_ (by assumption)) | ((with_reducible refine Chg.at_ ?_ (by assumption) ?_); rotate_left; (try simp only [World.size_alloc]); omega)))⟩
set_option maxHeartbeats 1000000 in
theorem sValidPlanes (l0 h0 : Nat) (A : Option Addr) (n c : Nat) (ps : List (List Int)) (w : World) (hx : RRows w l0 h0 A n c ps) :
    Calls Try.prog 68 #[.slice A n c] w fun e w' => e = .returned (.bool (planesB ps)) ∧ w = w' := by
  have hnc := hx.le; have hcm := hx.cap
  have HX := hid hx
  clear hx
  go_enter Try.func68, Try.ntmps68
  go_wp2
  go_loop [3] (fun i => ∃ k : Nat, k ≤ n ∧ i = .int .i64 k ∧ Hid (∀ p ∈ ps.take k, vecB p = true)) (fun i => n - (intOf i).toNat)
  case atStart => exact ⟨0, Nat.zero_le _, rfl, by show ∀ p ∈ ps.take 0, _; simp⟩
  case round =>
    obtain ⟨k, hk, rfl, HA⟩ := hrel
    by_cases hlt : k < n
    · obtain ⟨b, o, r, rfl, _, _, hrk, A1, n1, c1, hE2, hv⟩ := HX.out.at_ hlt
      have hE3 : w.cell? ⟨b, o + k, none⟩ = some (.slice A1 n1 c1) := by simpa using hE2
      obtain ⟨q, hq⟩ : ∃ q, vecB r = q := ⟨_, rfl⟩
      have K := hid (sIsVector _ _ A1 n1 c1 r w hv)
      rw [hq] at K
      have Hrk := hid hrk
      have HQ := hid hq
      clear hrk hE2 hv hq
      cases q with
      | true =>
        have HA2 : Hid (∀ p ∈ ps.take (k + 1), vecB p = true) := by
          show ∀ p ∈ ps.take (k + 1), _
          rw [take_snoc Hrk.out]
          intro p hp
          rcases List.mem_append.1 hp with hp | hp
          · exact HA.out p hp
          · rw [List.mem_singleton.1 hp]; exact HQ.out
        (go_wp2_with fail; (with_reducible refine K.out.mono ?_); rintro e w1 ⟨rfl, rfl⟩)
        go_wp2
        go_round
        case rel => exact ⟨k + 1, by omega, by go_num, HA2⟩
        case measure => simp [intOf]; omega
      | false =>
        have HF : Hid (planesB ps = false) := by
          show _ = _
          have : ¬ planesB ps = true := fun h => by
            have := ((planesB_iff ps).1 h).2 r (List.mem_of_getElem? Hrk.out)
            rw [HQ.out] at this; cases this
          simpa using this
        (go_wp2_with fail; (with_reducible refine K.out.mono ?_); rintro e w1 ⟨rfl, rfl⟩)
        go_wp2
        go_ret
        exact ⟨by rw [HF.out]; rfl, rfl⟩
    · have HF : Hid (planesB ps = inB (n : Int) 1 6) := by
        show _ = _
        have hl : ps.length = n := HX.out.len
        have hA := HA.out
        rw [List.take_of_length_le (by omega)] at hA
        rw [Bool.eq_iff_iff, planesB_iff, hl]
        unfold inB
        simp only [decide_eq_true_eq]
        exact ⟨fun h => by omega, fun h => ⟨by omega, hA⟩⟩
      have K := hid (fun W => inRange (n : Int) 1 6 W)
      generalize inB (n : Int) 1 6 = q at K HF
      (go_wp2_with fail; (with_reducible refine (K.out _).mono ?_); rintro e w1 ⟨rfl, rfl⟩)
      go_wp2
      go_ret
      exact ⟨by rw [HF.out]; rfl, rfl⟩
end Go.Proofs.Ytifdcdpdihfbjaa
