/- Nearest, WithinDist and Distance: the program's and the reference's answer the same plain functions. -/
import Derived.Test.YtifdcdpdihfbjaaNearI
import Derived.Test.YtifdcdpdihfbjaaPNear
namespace Go.Proofs.Ytifdcdpdihfbjaa
open Go.RowKit Go.Shelf
set_option linter.unusedVariables false
set_option linter.unusedSimpArgs false
theorem kindB_in (k : Int) : inB k 1 4 = kindB k := rfl
def queryB (l : List It) (kind : Int) (at_ : List Int) : Bool := storeB l && (kindB kind && vecB at_)
theorem canB_query (l : List It) (kind : Int) (at_ : List Int) (k : Int) : canB l kind at_ k = (queryB l kind at_ && inB k 1 16) := by
  unfold canB queryB inB
  cases storeB l <;> cases kindB kind <;> cases vecB at_ <;> simp
structure Can (l : List It) (kind : Int) (at_ : List Int) : Prop where
  store : storeB l = true
  kind1 : 1 ≤ kind
  kind4 : kind ≤ 4
  vec : vecB at_ = true
theorem queryB_can {l : List It} {kind : Int} {at_ : List Int} (h : queryB l kind at_ = true) : Can l kind at_ := by
  unfold queryB kindB at h
  simp only [Bool.and_eq_true, decide_eq_true_eq] at h
  exact ⟨h.1, h.2.1.1, h.2.1.2, h.2.2⟩
theorem Can.query {l : List It} {kind : Int} {at_ : List Int} (h : Can l kind at_) : queryB l kind at_ = true := by
  unfold queryB kindB
  rw [h.store, h.vec, decide_eq_true ⟨h.kind1, h.kind4⟩]; rfl
theorem canB_can {l : List It} {kind : Int} {at_ : List Int} {k : Int} (h : canB l kind at_ k = true) : Can l kind at_ ∧ 1 ≤ k ∧ k ≤ 16 := by
  rw [canB_query, Bool.and_eq_true] at h
  exact ⟨queryB_can h.1, of_decide_eq_true h.2⟩
theorem Can.can {l : List It} {kind : Int} {at_ : List Int} (h : Can l kind at_) {k : Int} (h1 : 1 ≤ k) (h2 : k ≤ 16) : canB l kind at_ k = true := by
  rw [canB_query, h.query]; unfold inB; rw [decide_eq_true ⟨h1, h2⟩]; rfl
theorem Can.sub {l m : List It} {kind : Int} {at_ : List Int} (h : Can l kind at_) (hs : m.Sublist l) : Can m kind at_ := ⟨storeB_sub h.store hs, h.kind1, h.kind4, h.vec⟩
theorem Can.each {l : List It} {kind : Int} {at_ : List Int} (h : Can l kind at_) : ∀ x ∈ l, vecB x.vec = true := fun _ hx => storeB_vec h.store hx
/-- the nearest ones, of valid arguments -/
def NearestF (l : List It) (kind : Int) (at_ : List Int) (k : Int) : List (Int × Int) := if canB l kind at_ k = true then nearestF l kind at_ k else []
theorem NearestF_no {l : List It} {kind : Int} {at_ : List Int} {k : Int} (h : canB l kind at_ k = false) : NearestF l kind at_ k = [] := by unfold NearestF; rw [h]; rfl
theorem NearestF_ok {l : List It} {kind : Int} {at_ : List Int} {k : Int} (h : canB l kind at_ k = true) : NearestF l kind at_ k = nearestF l kind at_ k := by unfold NearestF; rw [h]; rfl
theorem sValidKind (k : Int) (w : World) : Calls Try.prog 91 #[.int .i64 k] w fun e w' => e = .returned (.bool (kindB k)) ∧ w = w' := by
  have K := hid (fun W => inRange k 1 4 W)
  rw [kindB_in] at K
  go_enter Try.func91, Try.ntmps91
  (go_wp2_with fail; (with_reducible refine (K.out _).mono ?_); rintro e w1 ⟨rfl, rfl⟩)
  go_wp2
  go_ret
  exact ⟨rfl, rfl⟩
theorem sValidQuery (l0 h0 : Nat) (A : Option Addr) (n c : Nat) (xs : List It) (l1 h1 : Nat) (A' : Option Addr) (n' c' : Nat) (at_ : List Int) (kind : Int) (w : World) (hx : RItems w l0 h0 A n c xs) (hy : RInts w l1 h1 A' n' c' at_) :
    Calls Try.prog 51 #[.slice A n c, .int .i64 kind, .slice A' n' c'] w fun e w' => e = .returned (.bool (queryB xs kind at_)) ∧ Chg No w w' := by
  have HX := hid hx; have HY := hid hy
  have K1 := hid (fun W (h : RItems W l0 h0 A n c xs) => sValidStore l0 h0 A n c xs W h)
  have K2 := hid (fun W => sValidKind kind W)
  have K3 := hid (fun W (h : RInts W l1 h1 A' n' c' at_) => sIsVector l1 h1 A' n' c' at_ W h)
  have HC := hid (show queryB xs kind at_ = (storeB xs && (kindB kind && vecB at_)) from rfl)
  generalize queryB xs kind at_ = q at *
  generalize storeB xs = q1 at *
  generalize kindB kind = q2 at *
  generalize vecB at_ = q3 at *
  clear hx hy
  cases q1 with
  | false =>
    have HF := hid (show q = false from by rw [HC.out]; rfl)
    go_enter Try.func51, Try.ntmps51
    (go_wp2_with fail; (with_reducible refine (K1.out _ HX.out).mono ?_); rintro e w1 ⟨rfl, hc1⟩)
    go_wp2
    go_ret
    exact ⟨by rw [HF.out]; rfl, by (repeat (first | (with_reducible exact Chg.refl _ _) | ((with_reducible refine Chg.setNew ?_ _ ?_); rotate_left; first | (dsimp only; omega) | (simp; done) | (simp; omega)) | (with_reducible refine Chg.alloc ?_ _) | (with_reducible refine Chg.drew ?_) | (with_reducible refine Chg.drewN ?_ _) | (with_reducible refine Chg.no ?_ (by assumption)) | (with_reducible refine Chg.and_ ?_ (by assumption)) | ((with_reducible refine Chg.at_ ?_ (by assumption) ?_); rotate_left; (try simp only [World.size_alloc]); omega)))⟩
  | true =>
    cases q2 with
    | false =>
      have HF := hid (show q = false from by rw [HC.out]; rfl)
      go_enter Try.func51, Try.ntmps51
      (go_wp2_with fail; (with_reducible refine (K1.out _ HX.out).mono ?_); rintro e w1 ⟨rfl, hc1⟩)
      (go_wp2_with fail; (with_reducible refine (K2.out _).mono ?_); rintro e w2 ⟨rfl, rfl⟩)
      go_wp2
      go_ret
      exact ⟨by rw [HF.out]; rfl, by (repeat (first | (with_reducible exact Chg.refl _ _) | ((with_reducible refine Chg.setNew ?_ _ ?_); rotate_left; first | (dsimp only; omega) | (simp; done) | (simp; omega)) | (with_reducible refine Chg.alloc ?_ _) | (with_reducible refine Chg.drew ?_) | (with_reducible refine Chg.drewN ?_ _) | (with_reducible refine Chg.no ?_ (by assumption)) | (with_reducible refine Chg.and_ ?_ (by assumption)) | ((with_reducible refine Chg.at_ ?_ (by assumption) ?_); rotate_left; (try simp only [World.size_alloc]); omega)))⟩
    | true =>
      have HF := hid (show q = q3 from by rw [HC.out]; rfl)
      go_enter Try.func51, Try.ntmps51
      (go_wp2_with fail; (with_reducible refine (K1.out _ HX.out).mono ?_); rintro e w1 ⟨rfl, hc1⟩)
      (go_wp2_with fail; (with_reducible refine (K2.out _).mono ?_); rintro e w2 ⟨rfl, rfl⟩)
      (go_wp2_with fail; (with_reducible refine (K3.out _ (HY.out.no hc1)).mono ?_); rintro e w3 ⟨rfl, rfl⟩)
      go_wp2
      go_ret
      exact ⟨by rw [HF.out]; rfl, by (repeat (first | (with_reducible exact Chg.refl _ _) | ((with_reducible refine Chg.setNew ?_ _ ?_); rotate_left; first | (dsimp only; omega) | (simp; done) | (simp; omega)) | (with_reducible refine Chg.alloc ?_ _) | (with_reducible refine Chg.drew ?_) | (with_reducible refine Chg.drewN ?_ _) | (with_reducible refine Chg.no ?_ (by assumption)) | (with_reducible refine Chg.and_ ?_ (by assumption)) | ((with_reducible refine Chg.at_ ?_ (by assumption) ?_); rotate_left; (try simp only [World.size_alloc]); omega)))⟩
set_option maxHeartbeats 1000000 in
theorem iNEAREST (l0 h0 : Nat) (A : Option Addr) (n c : Nat) (xs : List It) (l1 h1 : Nat) (A' : Option Addr) (n' c' : Nat) (at_ : List Int) (kind k : Int) (w : World) (hx : RItems w l0 h0 A n c xs) (hy : RInts w l1 h1 A' n' c' at_) :
    Calls Try.prog 38 #[.slice A n c, .int .i64 kind, .slice A' n' c', .int .i64 k] w (RetHits (NearestF xs kind at_ k) w) := by
  have HX := hid hx; have HY := hid hy
  have K1 := hid (fun W (h : RItems W l0 h0 A n c xs) (h2 : RInts W l1 h1 A' n' c' at_) => iCanFind l0 h0 A n c xs l1 h1 A' n' c' at_ kind k W h h2)
  cases hq : canB xs kind at_ k with
  | false =>
    rw [hq] at K1
    have HF := hid (NearestF_no hq)
    clear hq hx hy
    go_enter Try.func38, Try.ntmps38
    (go_wp2_with fail; (with_reducible refine (K1.out _ HX.out HY.out).mono ?_); rintro e w1 ⟨rfl, hc1⟩)
    go_wp2
    go_ret
    exact ⟨_, rfl, by rw [HF.out]; exact OSl.nil_ _, by (repeat (first | (with_reducible exact Chg.refl _ _) | ((with_reducible refine Chg.setNew ?_ _ ?_); rotate_left; first | (dsimp only; omega) | (simp; done) | (simp; omega)) | (with_reducible refine Chg.alloc ?_ _) | (with_reducible refine Chg.drew ?_) | (with_reducible refine Chg.drewN ?_ _) | (with_reducible refine Chg.no ?_ (by assumption)) | (with_reducible refine Chg.and_ ?_ (by assumption)) | ((with_reducible refine Chg.at_ ?_ (by assumption) ?_); rotate_left; (try simp only [World.size_alloc]); omega)))⟩
  | true =>
    obtain ⟨hC, hk1, hk2⟩ := canB_can hq
    rw [hq] at K1
    have HF := hid (NearestF_ok hq)
    have hn16 : n ≤ 16 := by have := hx.len; have := storeB_len hC.store; omega
    have K3 := hid (fun W (h : RItems W l0 h0 A n c xs) (h2 : RInts W l1 h1 A' n' c' at_) => iNearest l0 h0 A n c xs l1 h1 A' n' c' at_ kind k W h h2 (by omega) hC.each hC.vec hC.kind1 hC.kind4 (by omega) (by omega))
    clear hq hx hy hC hk1 hk2
    go_enter Try.func38, Try.ntmps38
    (go_wp2_with fail; (with_reducible refine (K1.out _ HX.out HY.out).mono ?_); rintro e w1 ⟨rfl, hc1⟩)
    (go_wp2_with fail; (with_reducible refine (K3.out _ (HX.out.no hc1) (HY.out.no hc1)).mono ?_); rintro e w3 ⟨v3, rfl, ho3, hc3⟩)
    have s1 := hc1.size
    have HO := hid (OSl.down ho3 (base' := w.heap.size) s1)
    clear ho3
    go_wp2
    go_ret
    exact ⟨_, rfl, by rw [HF.out]; exact HO.out, hc1.no hc3⟩
set_option maxHeartbeats 1000000 in
theorem iDISTANCE (l0 h0 l1 h1 : Nat) (A A' : Option Addr) (n c n' c' : Nat) (a b : List Int) (kind : Int) (w : World) (ha : RInts w l0 h0 A n c a) (hb : RInts w l1 h1 A' n' c' b) (hva : vecB a = true) (hvb : vecB b = true) (hk1 : 1 ≤ kind) (hk4 : kind ≤ 4) :
    Calls Try.prog 41 #[.int .i64 kind, .slice A n c, .slice A' n' c'] w fun e w' => e = .returned (.int .i64 (distF kind a b)) ∧ Chg No w w' := by
  have HA := hid ha; have HB := hid hb
  have K1 := hid (fun W => iIsKind kind W)
  have K2 := hid (fun W (h : RInts W l0 h0 A n c a) => iIsVec4 l0 h0 A n c a W h)
  have K3 := hid (fun W (h : RInts W l1 h1 A' n' c' b) => iIsVec4 l1 h1 A' n' c' b W h)
  have hn : a.length = n := ha.len
  have hn' : b.length = n' := hb.len
  have h4 := vecB_len hva
  have h4' := vecB_len hvb
  have K4 := hid (fun W (h : RInts W l0 h0 A n c a) (h2 : RInts W l1 h1 A' n' c' b) => iDistance l0 h0 l1 h1 A A' n c n' c' a b kind W h h2 (by omega) (by omega) (vecB_small hva) (vecB_small hvb) hk1 hk4)
  rw [show kindB kind = true from by unfold kindB; rw [decide_eq_true ⟨hk1, hk4⟩]] at K1
  rw [hva] at K2
  rw [hvb] at K3
  clear ha hb hva hvb h4 h4' hn hn'
  go_enter Try.func41, Try.ntmps41
  (go_wp2_with fail; (with_reducible refine (K1.out _).mono ?_); rintro e w1 ⟨rfl, rfl⟩)
  (go_wp2_with fail; (with_reducible refine (K2.out _ HA.out).mono ?_); rintro e w2 ⟨rfl, rfl⟩)
  (go_wp2_with fail; (with_reducible refine (K3.out _ HB.out).mono ?_); rintro e w3 ⟨rfl, rfl⟩)
  (go_wp2_with fail; (with_reducible refine (K4.out _ HA.out HB.out).mono ?_); rintro e w4 ⟨rfl, hc4⟩)
  go_wp2
  go_ret
  exact ⟨rfl, hc4⟩
end Go.Proofs.Ytifdcdpdihfbjaa
