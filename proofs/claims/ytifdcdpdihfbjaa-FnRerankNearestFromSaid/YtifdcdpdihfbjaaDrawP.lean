/- The drawn arguments: planes, planes with a vector, a store and a number of bits. -/
import Derived.Test.YtifdcdpdihfbjaaDraw7
import Derived.Test.YtifdcdpdihfbjaaMark
namespace Go.Proofs.Ytifdcdpdihfbjaa
open Go.RowKit
set_option linter.unusedVariables false
set_option linter.unusedSimpArgs false
theorem Apart.set {l : List (Option Addr × Nat)} {A : Option Addr} {n B j : Nat} (h : Apart l) (h1 : ∀ p ∈ l, 0 < p.2 → ∀ b o, p.1 = some ⟨b, o, none⟩ → b < B) (h2 : 0 < n → ∀ b o, A = some ⟨b, o, none⟩ → B ≤ b) : Apart (l.set j (A, n)) := by
  refine List.pairwise_iff_getElem.2 (fun i k hi hk hik h3 h4 b o b' o' h5 h6 => ?_)
  have hi' : i < l.length := by rw [List.length_set] at hi; exact hi
  have hk' : k < l.length := by rw [List.length_set] at hk; exact hk
  rw [List.getElem_set] at h3 h4 h5 h6
  by_cases e1 : j = i
  · rw [if_pos e1] at h3 h5
    by_cases e2 : j = k
    · omega
    · rw [if_neg e2] at h4 h6
      have := h1 _ (List.getElem_mem hk') h4 b' o' h6
      have := h2 h3 b o h5
      omega
  · rw [if_neg e1] at h3 h5
    by_cases e2 : j = k
    · rw [if_pos e2] at h4 h6
      have := h1 _ (List.getElem_mem hi') h3 b o h5
      have := h2 h4 b' o' h6
      omega
    · rw [if_neg e2] at h4 h6
      exact (List.pairwise_iff_getElem.1 h) i k hi' hk' hik h3 h4 b o b' o' h5 h6
/-- rows have been drawn -/
def DrRows (B g m n : Nat) (w : World) (e : Ending) (w' : World) : Prop := ∃ (v : Value) (xs : List (List Int)), e = .returned v ∧ ORows w' w.heap.size v xs ∧ xs.length = n ∧ Rd w' B g (m + 12 * n) ∧ Chg (At g) w w'
set_option maxHeartbeats 1000000 in
theorem someVectors {B : Nat} (g m n : Nat) (w : World) (hR : Rd w B g m) (hm : m < 600000) (hn : n ≤ 100) : Calls Try.prog 126 #[.pointer (some ⟨g, 0, none⟩), .int .i64 (n : Int)] w (DrRows B g m n w) := by
  have hg := hR.lt
  have HO0 := hid (show ORows (w.alloc (.cells #[] 27)) w.heap.size (.slice (some ⟨w.heap.size, 0, none⟩) 0 0) [] from
    ⟨[], rfl, OSl.lit (enc := cRow) (n := 0) [] [] (fun _ => rfl) rfl rfl (by omega) (Nat.le_refl _) (heap_top rfl), (fun p hp => by cases hp), List.Pairwise.nil⟩)
  have HR0 := hid (hR.no ((Chg.refl No w).alloc (.cells #[] 27)))
  clear hR
  go_enter Try.func126, Try.ntmps126
  go_wp2
  go_loopw [5, 6] (fun v i wr => ∃ k : Nat, k ≤ n ∧ i = .int .i64 k ∧ (∃ xs : List (List Int), Hid (xs.length = k) ∧ Hid (ORows wr w.heap.size v xs)) ∧ Rd wr B g (m + 12 * k) ∧ Chg (At g) w wr) (fun _ i _ => n - (intOf i).toNat)
  case atStart => exact ⟨0, Nat.zero_le _, rfl, ⟨[], rfl, HO0⟩, HR0.out, by (repeat (first | (with_reducible exact Chg.refl _ _) | ((with_reducible refine Chg.setNew ?_ _ ?_); rotate_left; first | (dsimp only; omega) | (simp; done) | (simp; omega)) | (with_reducible refine Chg.alloc ?_ _) | (with_reducible refine Chg.drew ?_) | (with_reducible refine Chg.drewN ?_ _) | (with_reducible refine Chg.no ?_ (by assumption)) | (with_reducible refine Chg.and_ ?_ (by assumption)) | ((with_reducible refine Chg.at_ ?_ (by assumption) ?_); rotate_left; (try simp only [World.size_alloc]); omega)))⟩
  case round =>
    clear HO0 HR0
    obtain ⟨k, hk, rfl, ⟨xs, HL, HO⟩, hR, hc⟩ := hrel
    have hsz := hc.size
    by_cases hlt : k < n
    · (go_wp2_with fail; (with_reducible refine (someVector g (m + 12 * k) _ hR (by omega)).mono ?_); rintro e w1 ⟨v1, ys, rfl, ho1, hyb, hR1, hc1⟩)
      obtain ⟨A1, c1, rfl, ht1⟩ := OInts.typed ho1
      have hsz1 := hc1.size
      obtain ⟨ps, hps, hoo, hii, haa⟩ := HO.out
      have hpl : ps.length = k := by have h9 := congrArg List.length hps; rw [List.length_map, HL.out] at h9; exact h9
      have HLT := hid (ORows.lt hii)
      have HGE := hid (tints_ge ht1)
      have HO1 := hid ((OSl.keep hoo hc1 (fun j h1 _ (e : j = g) => by omega)).alloc (.cells #[.slice A1 ys.length c1] 27))
      have HX := hid (Src.one (sz := 1) (enc := cRow) (y := ⟨ys, A1, ys.length, c1⟩) (Box.new (w := w1) [.slice A1 ys.length c1] 27 rfl) rfl)
      have HII := hid (show ∀ p ∈ ps, TInts (w1.alloc (.cells #[.slice A1 ys.length c1] 27)) w.heap.size (w1.alloc (.cells #[.slice A1 ys.length c1] 27)).heap.size p.A p.n p.c p.row from fun p hp => (((hii p hp).keep hc1 (fun j h1 _ (e : j = g) => by omega)).keep ((Chg.refl No w1).alloc (.cells #[.slice A1 ys.length c1] 27)) (fun _ _ _ e => e)).wide (Nat.le_refl _) (by simp only [World.size_alloc]; omega))
      have HT1 := hid ((ht1.keep ((Chg.refl No w1).alloc (.cells #[.slice A1 ys.length c1] 27)) (fun _ _ _ e => e)).wide (lo' := w.heap.size) (hi' := (w1.alloc (.cells #[.slice A1 ys.length c1] 27)).heap.size) (by omega) (by simp))
      have HAA := hid haa
      have HPS := hid hps
      clear hoo hii haa hps ho1 ht1 hyb
      go_wp2_with (at_builtin; refine wpList_push _ rfl _ _ 23 rfl 27 1 24 (.slice none 0 0) cRow Try.underlying23 infoRow rfl (by omega) (by omega) (fun _ => rfl) oneRow w.heap.size _ ps rfl HO1.out _ 1 1 [⟨ys, A1, ys.length, c1⟩] rfl HX.out (by omega) (by simp; omega) ?_; intro v' w2 ho hg2 hb2)
      have hc2 : Chg (At g) w w2 := Chg.pushed (a := w) (by (repeat (first | (with_reducible exact Chg.refl _ _) | ((with_reducible refine Chg.setNew ?_ _ ?_); rotate_left; first | (dsimp only; omega) | (simp; done) | (simp; omega)) | (with_reducible refine Chg.alloc ?_ _) | (with_reducible refine Chg.drew ?_) | (with_reducible refine Chg.drewN ?_ _) | (with_reducible refine Chg.no ?_ (by assumption)) | (with_reducible refine Chg.and_ ?_ (by assumption)) | ((with_reducible refine Chg.at_ ?_ (by assumption) ?_); rotate_left; (try simp only [World.size_alloc]); omega)))) hg2 HO1.out (Nat.le_refl _)
      have hR2 : Rd w2 B g (m + 12 * k + 12) := by
        refine (hR1.no ((Chg.refl No w1).alloc (.cells #[.slice A1 ys.length c1] 27))).keep (S := fun j => w.heap.size ≤ j) ((Chg.refl _ _).grown hg2 (fun j hj _ => (World.ownsRow.lt HO1.out j hj).1)) (fun j h1 h2 => ?_) (fun h => ?_)
        · have := hR1.base; omega
        · omega
      have HO3 := hid (ORows.push (B := wr.heap.size) HPS.out HO1.out HII.out HT1.out ho hg2 HAA.out HLT.out HGE.out)
      have HL3 : Hid ((xs ++ [ys]).length = k + 1) := by show _ = _; rw [List.length_append, HL.out]; rfl
      have hR3 := hR2.mono (m' := m + 12 * (k + 1)) (by omega)
      clear ho hg2 hb2 HX HO1 HII HT1 HAA HPS HLT HGE HO HL hR hR1 hR2
      go_wp2
      go_roundw
      case rel => exact ⟨k + 1, by omega, by go_num, ⟨_, HL3, HO3⟩, hR3, hc2⟩
      case measure => simp [intOf]; omega
    · have hkn : k = n := by omega
      have HL2 := HL
      subst hkn
      go_wp2
      go_ret
      exact ⟨_, xs, rfl, HO.out, HL.out, hR, hc⟩
/-- planes have been drawn -/
def DrPlanes (B g m : Nat) (w : World) (e : Ending) (w' : World) : Prop := ∃ (v : Value) (xs : List (List Int)), e = .returned v ∧ ORows w' w.heap.size v xs ∧ xs.length ≤ 7 ∧ Rd w' B g m ∧ Chg (At g) w w'
set_option maxHeartbeats 2000000 in
theorem anyPlanes {B : Nat} (g m : Nat) (w : World) (hR : Rd w B g m) (hm : m < 500000) : Calls Try.prog 108 #[.pointer (some ⟨g, 0, none⟩)] w (DrPlanes B g (m + 110) w) := by
  have hg := hR.lt
  go_enter Try.func108, Try.ntmps108
  (go_wp2_with fail; (refine (oneLit g m [3, 4, 6, 2, 1, 0, 7] 7 _ _ (hR.no ((Chg.refl _ _).alloc _)) (by omega) (heap_top rfl) rfl rfl (by omega) (by omega) (by omega)).mono ?_); rintro e w1 ⟨x, rfl, hx, hR1, hc1⟩)
  have hx7 : 0 ≤ x ∧ x ≤ 7 := by
    simp only [List.mem_cons, List.not_mem_nil, or_false] at hx
    omega
  obtain ⟨n, rfl⟩ := Int.eq_ofNat_of_zero_le hx7.1
  have hn7 : n ≤ 7 := by omega
  have s1 := hc1.size
  simp only [World.size_alloc] at s1
  have hcw1 : Chg (At g) w w1 := by (repeat (first | (with_reducible exact Chg.refl _ _) | ((with_reducible refine Chg.setNew ?_ _ ?_); rotate_left; first | (dsimp only; omega) | (simp; done) | (simp; omega)) | (with_reducible refine Chg.alloc ?_ _) | (with_reducible refine Chg.drew ?_) | (with_reducible refine Chg.drewN ?_ _) | (with_reducible refine Chg.no ?_ (by assumption)) | (with_reducible refine Chg.and_ ?_ (by assumption)) | ((with_reducible refine Chg.at_ ?_ (by assumption) ?_); rotate_left; (try simp only [World.size_alloc]); omega)))
  clear hx hx7 hR
  (go_wp2_with fail; (with_reducible refine (someVectors g (m + 1) n _ hR1 (by omega) (by omega)).mono ?_); rintro e w2 ⟨v2, xs, rfl, ho2, hl2, hR2, hc2⟩)
  have s2 := hc2.size
  have hcw2 : Chg (At g) w w2 := by (repeat (first | (with_reducible exact Chg.refl _ _) | ((with_reducible refine Chg.setNew ?_ _ ?_); rotate_left; first | (dsimp only; omega) | (simp; done) | (simp; omega)) | (with_reducible refine Chg.alloc ?_ _) | (with_reducible refine Chg.drew ?_) | (with_reducible refine Chg.drewN ?_ _) | (with_reducible refine Chg.no ?_ (by assumption)) | (with_reducible refine Chg.and_ ?_ (by assumption)) | ((with_reducible refine Chg.at_ ?_ (by assumption) ?_); rotate_left; (try simp only [World.size_alloc]); omega)))
  obtain ⟨ps, hps, hoo, hii, haa⟩ := ho2
  have hpl : ps.length = n := by have h9 := congrArg List.length hps; rw [List.length_map, hl2] at h9; exact h9
  subst hpl
  have HL2 := hid hl2
  clear hl2
  obtain ⟨A9, c9, hv9, hcl, hcm, hA9⟩ := OSl.form hoo
  have hcm' : c9 ≤ 9223372036854775807 := by unfold maxLen at hcm; omega
  have HO2 := hid hoo; have HI2 := hid hii; have HA2 := hid haa; have HPS := hid hps
  clear hoo hii haa hps hcm
  by_cases h0 : 0 < ps.length
  · obtain ⟨g1, rfl, hg1, hg1b⟩ := hA9 h0
    subst hv9
    have j1 : decide (0 < ps.length) = true := decide_eq_true h0
    clear hA9
    (go_wp2_with fail; (with_reducible refine (pick g (m + 1 + 12 * ps.length) _ _ hR2 (by omega) (by omega)).mono ?_); rintro e w3 ⟨y3, rfl, hy3, hR3, hc3⟩)
    have s3 := hc3.size
    have hcw3 : Chg (At g) w w3 := by (repeat (first | (with_reducible exact Chg.refl _ _) | ((with_reducible refine Chg.setNew ?_ _ ?_); rotate_left; first | (dsimp only; omega) | (simp; done) | (simp; omega)) | (with_reducible refine Chg.alloc ?_ _) | (with_reducible refine Chg.drew ?_) | (with_reducible refine Chg.drewN ?_ _) | (with_reducible refine Chg.no ?_ (by assumption)) | (with_reducible refine Chg.and_ ?_ (by assumption)) | ((with_reducible refine Chg.at_ ?_ (by assumption) ?_); rotate_left; (try simp only [World.size_alloc]); omega)))
    by_cases a0 : y3 = 0
    · subst a0
      (go_wp2_with fail; (with_reducible refine (pick g (m + 1 + 12 * ps.length + 1) _ _ hR3 (by omega) (by omega)).mono ?_); rintro e w4 ⟨y4, rfl, hy4, hR4, hc4⟩)
      have b4 := picked_lt hy4 (by omega)
      obtain ⟨q, rfl⟩ := Int.eq_ofNat_of_zero_le b4.1
      have hq : q < ps.length := by omega
      have s4 := hc4.size
      have hcw4 : Chg (At g) w w4 := by (repeat (first | (with_reducible exact Chg.refl _ _) | ((with_reducible refine Chg.setNew ?_ _ ?_); rotate_left; first | (dsimp only; omega) | (simp; done) | (simp; omega)) | (with_reducible refine Chg.alloc ?_ _) | (with_reducible refine Chg.drew ?_) | (with_reducible refine Chg.drewN ?_ _) | (with_reducible refine Chg.no ?_ (by assumption)) | (with_reducible refine Chg.and_ ?_ (by assumption)) | ((with_reducible refine Chg.at_ ?_ (by assumption) ?_); rotate_left; (try simp only [World.size_alloc]); omega)))
      clear hy3 hy4
      (go_wp2_with fail; (with_reducible refine (anyVector g (m + 1 + 12 * ps.length + 1 + 1) _ hR4 (by omega)).mono ?_); rintro e w5 ⟨A5, n5, c5, zs, rfl, ht5, hn5, hR5, hc5⟩)
      have s5 := hc5.size
      have hc25 : Chg (At g) w2 w5 := (hc3.and_ hc4).and_ hc5
      have HO5 := hid (OSl.keep HO2.out hc25 (fun j h1 _ (e : j = g) => by omega))
      obtain ⟨p, hp⟩ : ∃ p, ps[q]? = some p := ⟨_, List.getElem?_eq_getElem hq⟩
      have k1 : w5.cell? ⟨g1, q, none⟩ = some (.slice p.A p.n p.c) := by have h9 : w5.cell? ⟨g1, q * 1 + 0, none⟩ = some (.slice p.A p.n p.c) := HO5.out.cell (fun _ => rfl) (i := 0) hp rfl; simpa using h9
      have k2 : w5.frozen? ⟨g1, q, none⟩ = false := HO5.out.free _
      obtain ⟨cs, fr, hcs⟩ := own_typed HO5.out g1 rfl
      have hO6 := HO5.out.set1 (fun _ => rfl) q ⟨zs, A5, n5, c5⟩ (.slice A5 n5 c5) rfl
      have hkc : Chg (fun k => k = g1) w5 (w5.setCell ⟨g1, q, none⟩ (.slice A5 n5 c5)) := Chg.setCell (Chg.refl _ w5) _ (fun _ => rfl)
      have HF := hid (show ORows (w5.setCell ⟨g1, q, none⟩ (.slice A5 n5 c5)) w.heap.size (.slice (some ⟨g1, 0, none⟩) ps.length c9) ((ps.set q ⟨zs, A5, n5, c5⟩).map (·.row)) from by
        refine ⟨_, rfl, hO6.down (by omega), fun r hr => ?_, ?_⟩
        · rw [World.size_setCell]
          rcases List.mem_or_eq_of_mem_set hr with hr | hr
          · exact (((HI2.out r hr).keep hc25 (fun j h1 _ (e : j = g) => by omega)).other hkc hcs (by decide)).wide (by omega) hc25.size
          · subst hr
            exact (ht5.other hkc hcs (by decide)).wide (by omega) (Nat.le_refl _)
        · rw [List.map_set]
          refine Apart.set (B := w2.heap.size) HA2.out (fun r hr => ?_) (fun h0 b o hA => by have := tints_ge ht5 h0 b o hA; omega)
          obtain ⟨r', hr', rfl⟩ := List.mem_map.1 hr
          exact ORows.lt HI2.out r' hr')
      have hR6 : Rd (w5.setCell ⟨g1, q, none⟩ (.slice A5 n5 c5)) B g (m + 110) := (hR5.mono (by omega)).keep (S := fun j => j = g1) hkc (fun j h1 h2 => by have := hR5.base; omega) (fun h => by omega)
      have hcE : Chg (At g) w (w5.setCell ⟨g1, q, none⟩ (.slice A5 n5 c5)) := Chg.setCell (hcw4.and_ hc5) _ (fun h => by dsimp only at h; omega)
      have hl9 : ((ps.set q ⟨zs, A5, n5, c5⟩).map (·.row)).length ≤ 7 := by rw [List.length_map, List.length_set]; omega
      clear hO6 hcs hp ht5 hkc
      go_wp2
      go_ret
      exact ⟨_, _, rfl, HF.out, hl9, hR6, hcE⟩
    · have n0 : (y3 == 0) = false := by simp; omega
      have HF := hid (show ORows w3 w.heap.size (.slice (some ⟨g1, 0, none⟩) ps.length c9) xs from (show ORows w2 w.heap.size _ xs from ⟨ps, HPS.out, HO2.out.down (by omega), fun p hp => (HI2.out p hp).wide (by omega) (Nat.le_refl _), HA2.out⟩).keep hc3 (fun j h1 _ (e : j = g) => by omega))
      have hR4 := hR3.mono (m' := m + 110) (by omega)
      clear hy3
      go_wp2
      go_ret
      exact ⟨_, xs, rfl, HF.out, by rw [HL2.out]; omega, hR4, hcw3⟩
  · have HF := hid (show ORows w2 w.heap.size v2 xs from ⟨ps, HPS.out, HO2.out.down (by omega), fun p hp => (HI2.out p hp).wide (by omega) (Nat.le_refl _), HA2.out⟩)
    subst hv9
    have j1 : decide (0 < ps.length) = false := decide_eq_false (by omega)
    have hR4 := hR2.mono (m' := m + 110) (by omega)
    clear hA9
    go_wp2
    go_ret
    exact ⟨_, xs, rfl, HF.out, by rw [HL2.out]; omega, hR4, hcw2⟩
/-- planes, a store, a vector and a number of bits have been drawn -/
def DrawnPSV (w : World) (e : Ending) (w' : World) : Prop := ∃ (v : Value) (ps : List (List Int)) (v2 : Value) (xs : List It) (A : Option Addr) (n c : Nat) (at_ : List Int) (bt : Int), e = .returned (.tuple #[v, v2, .slice A n c, .int .i64 bt]) ∧ ORows w' w.heap.size v ps ∧ ps.length ≤ 7 ∧ OItems w' w.heap.size v2 xs ∧ xs.length ≤ 17 ∧ TInts w' w.heap.size w'.heap.size A n c at_ ∧ n ≤ 101 ∧ (-1 ≤ bt ∧ bt ≤ 7) ∧ Chg No w w'
set_option maxHeartbeats 1000000 in
theorem drawBucketOf (A : Option Addr) (n c : Nat) (w : World) (hC : Code w w.heap.size A n c) : Calls Try.prog 76 #[.slice A n c] w (DrawnPSV w) := by
  go_enter Try.func76, Try.ntmps76
  go_wp2_with fail
  refine (newReader w.heap.size A n c _ hC (Nat.le_refl _)).mono ?_
  rintro e w1 ⟨rfl, hR1, hc1⟩
  have s1 := hc1.size
  have l1 := hR1.lt
  (go_wp2_with fail; (with_reducible refine (anyPlanes _ 0 _ hR1 (by omega)).mono ?_); rintro e w2 ⟨v, ps, rfl, ho, hl, hR2, hc2⟩)
  have s2 := hc2.size
  have HO2 := hid ho
  obtain ⟨A9, c9, hv9, hr9⟩ := ORows.read ho
  subst hv9
  clear hr9 ho
  (go_wp2_with fail; (with_reducible refine (anyStore _ 110 _ hR2 (by omega)).mono ?_); rintro e w3 ⟨v3, xs, rfl, ho3, hl3, _, hR3, hc3⟩)
  have s3 := hc3.size
  obtain ⟨A8, c8, hv8, hr8⟩ := OItems.read ho3
  subst hv8
  have HI3 := hid ho3
  have HO3 := hid (HO2.out.keep hc3 (fun k h1 h2 (h3 : k = _) => by omega))
  clear hr8 ho3 HO2
  (go_wp2_with fail; (with_reducible refine (anyVector _ (110 + 320) _ hR3 (by omega)).mono ?_); rintro e w4 ⟨A4, n4, c4, zs, rfl, ht4, hn4, hR4, hc4⟩)
  have s4 := hc4.size
  have HO4 := hid (HO3.out.keep hc4 (fun k h1 h2 (h3 : k = _) => by omega))
  have HI4 := hid (HI3.out.keep hc4 (fun k h1 h2 (h3 : k = _) => by omega))
  have HT4 := hid (ht4.wide (lo' := w.heap.size + 1) (by omega) (Nat.le_refl _))
  clear ht4 HO3 HI3
  (go_wp2_with fail; (refine (oneLit _ (110 + 320 + 16) [0, 1, 2, 6, 7, -1, 1] 7 _ _ (hR4.no ((Chg.refl _ _).alloc _)) (by omega) (heap_top rfl) rfl rfl (by omega) (by omega) (by omega)).mono ?_); rintro e w5 ⟨x, rfl, hx, hR5, hc5⟩)
  have hx7 : -1 ≤ x ∧ x ≤ 7 := by
    simp only [List.mem_cons, List.not_mem_nil, or_false] at hx
    omega
  have s5 := hc5.size
  simp only [World.size_alloc] at s5
  have hcA : Chg (At w.heap.size) w4 w5 := ((Chg.refl _ w4).alloc _).and_ hc5
  have HO5 := hid ((HO4.out.keep hcA (fun k h1 h2 (h3 : k = _) => by omega)).down (base' := w.heap.size) (by omega))
  have HI5 := hid ((HI4.out.keep hcA (fun k h1 h2 (h3 : k = _) => by omega)).down (base' := w.heap.size) (by omega))
  have HT5 := hid ((HT4.out.keep hcA (fun k h1 h2 (h3 : k = _) => by omega)).wide (lo' := w.heap.size) (hi' := w5.heap.size) (by omega) (by omega))
  have hcw : Chg No w w5 := ((((hc1.trans hc2 (fun i hi (h : i = _) => by omega)).trans hc3 (fun i hi (h : i = _) => by omega)).trans hc4 (fun i hi (h : i = _) => by omega)).trans hcA (fun i hi (h : i = _) => by omega))
  clear hx HO4 HI4 HT4 hcA
  go_wp2
  (refine bodyPost_ret (by simp [results, Try.results76, go_sem, *]; rfl) rfl ?_)
  exact ⟨_, ps, _, xs, _, _, _, zs, _, rfl, HO5.out, hl, HI5.out, hl3, HT5.out, hn4, hx7, hcw⟩
end Go.Proofs.Ytifdcdpdihfbjaa
