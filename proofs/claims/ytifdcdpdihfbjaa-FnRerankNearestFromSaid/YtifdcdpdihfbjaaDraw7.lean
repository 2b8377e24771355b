/- The drawn arguments: stores that may not be valid; a store and a filter. -/
import Derived.Test.YtifdcdpdihfbjaaDraw6
import Derived.Test.YtifdcdpdihfbjaaFilt3
namespace Go.Proofs.Ytifdcdpdihfbjaa
open Go.RowKit
set_option linter.unusedVariables false
set_option linter.unusedSimpArgs false
theorem TInts.far {w : World} {lo hi : Nat} {A : Option Addr} {n c : Nat} {xs : List Int} (h : TInts w lo hi A n c xs) {g T : Nat} {cs : Array Value} {fr : Nat × Nat} (hg : w.heap[g]? = some (.cells cs T fr)) (hT : T ≠ 3) (i : Nat) (u : Value) : TInts (w.setCell ⟨g, i, none⟩ u) lo hi A n c xs := by
  have hne : ∀ b cs' fr', w.heap[b]? = some (Obj.cells cs' 3 fr') → (w.setCell ⟨g, i, none⟩ u).heap[b]? = w.heap[b]? := fun b cs' fr' hb => by
    refine Below.heap_setCell w _ u b (fun e => ?_)
    have e : b = g := e
    rw [e, hg] at hb
    injection hb with hb
    injection hb with _ h2 _
    exact hT h2
  refine ⟨⟨h.1.1, h.1.2.1, h.1.2.2.1, fun h0 => ?_⟩, fun h0 => ?_⟩
  · obtain ⟨b, o, cs', hA, hb⟩ := h.2 h0
    obtain ⟨b', o', hA', hl, hhi, hx⟩ := h.1.2.2.2 h0
    rw [hA] at hA'
    injection hA' with hA'
    injection hA' with e1 e2 _
    subst e1 e2
    exact ⟨b, o, hA, hl, hhi, fun j x hj => (World.cell?_of_block (hne b cs' _ hb)).trans (hx j x hj)⟩
  · obtain ⟨b, o, cs', hA, hb⟩ := h.2 h0
    exact ⟨b, o, cs', hA, (hne b cs' _ hb).trans hb⟩
/-- a store has been drawn -/
def DrStoreA (B g m : Nat) (w : World) (e : Ending) (w' : World) : Prop := ∃ (v : Value) (xs : List It), e = .returned v ∧ OItems w' w.heap.size v xs ∧ xs.length ≤ 17 ∧ (∀ x ∈ xs, x.vec.length ≤ 101) ∧ Rd w' B g m ∧ Chg (At g) w w'
set_option maxHeartbeats 2000000 in
theorem anyStore {B : Nat} (g m : Nat) (w : World) (hR : Rd w B g m) (hm : m < 500000) : Calls Try.prog 44 #[.pointer (some ⟨g, 0, none⟩)] w (DrStoreA B g (m + 320) w) := by
  have hg := hR.lt
  go_enter Try.func44, Try.ntmps44
  (go_wp2_with fail; (with_reducible refine (someStore g m _ hR (by omega)).mono ?_); rintro e w1 ⟨v1, xs, rfl, ho1, hsb, hR1, hc1⟩)
  have hl16 := storeB_len hsb
  have HB1 := hid (show ∀ x ∈ xs, x.vec.length ≤ 101 from fun x hx => by
    obtain ⟨i, hi⟩ := List.getElem?_of_mem hx
    have := vecB_len ((itemB_iff _).1 (storeB_item hsb hi)).2.1
    omega)
  have s1 := hc1.size
  clear hR hsb
  obtain ⟨ps, rfl, hoo, hii⟩ := ho1
  rw [List.length_map] at hl16
  (go_wp2_with fail; (with_reducible refine (pick g (m + 281) _ _ hR1 (by omega) (by omega)).mono ?_); rintro e w2 ⟨y2, rfl, hy2, hR2, hc2⟩)
  have s2 := hc2.size
  have hcA : Chg (At g) w w2 := by (repeat (first | (with_reducible exact Chg.refl _ _) | ((with_reducible refine Chg.setNew ?_ _ ?_); rotate_left; first | (dsimp only; omega) | (simp; done) | (simp; omega)) | (with_reducible refine Chg.alloc ?_ _) | (with_reducible refine Chg.drew ?_) | (with_reducible refine Chg.drewN ?_ _) | (with_reducible refine Chg.no ?_ (by assumption)) | (with_reducible refine Chg.and_ ?_ (by assumption)) | ((with_reducible refine Chg.at_ ?_ (by assumption) ?_); rotate_left; (try simp only [World.size_alloc]); omega)))
  have HO2 := hid (OSl.keep hoo hc2 (fun j h1 _ (e : j = g) => by omega))
  have HI2 := hid (fun p hp => ((hii p hp).keep hc2 (fun j h1 _ (e : j = g) => by omega)).wide (Nat.le_refl _) s2)
  clear hoo hii
  by_cases a0 : y2 = 0
  · subst a0
    (go_wp2_with fail; (with_reducible refine (anyItem g (m + 282) _ hR2 (by omega)).mono ?_); rintro e w3 ⟨A3, n3, c3, key, tags, zs, rfl, ht3, hn3, hR3, hc3⟩)
    have s3 := hc3.size
    have HL3 := hid (show zs.length ≤ 101 from by have := ht3.1.len; omega)
    have HO3 := hid ((OSl.keep HO2.out hc3 (fun j h1 _ (e : j = g) => by omega)).alloc (.cells #[.int .i64 key, .slice A3 n3 c3, .int .i64 tags] 36))
    have HI3 := hid (fun p hp => (((HI2.out p hp).keep hc3 (fun j h1 _ (e : j = g) => by omega)).keep ((Chg.refl No w3).alloc (.cells #[.int .i64 key, .slice A3 n3 c3, .int .i64 tags] 36)) (fun _ _ _ e => e)).wide (lo' := w.heap.size) (hi' := (w3.alloc (.cells #[.int .i64 key, .slice A3 n3 c3, .int .i64 tags] 36)).heap.size) (Nat.le_refl _) (by simp; omega))
    have HT3 := hid ((ht3.keep ((Chg.refl No w3).alloc (.cells #[.int .i64 key, .slice A3 n3 c3, .int .i64 tags] 36)) (fun _ _ _ e => e)).wide (lo' := w.heap.size) (hi' := (w3.alloc (.cells #[.int .i64 key, .slice A3 n3 c3, .int .i64 tags] 36)).heap.size) (by omega) (by simp))
    have HX := hid (Src.one (sz := 3) (enc := cItem) (y := ⟨⟨key, zs, tags⟩, A3, n3, c3⟩) (Box.new (w := w3) [.int .i64 key, .slice A3 n3 c3, .int .i64 tags] 36 rfl) rfl)
    clear ht3
    go_wp2_with (at_builtin; refine wpList_push _ rfl _ _ 26 rfl 36 3 40 (.agg #[.int .i64 0, .slice none 0 0, .int .i64 0]) cItem Try.underlying26 infoItem rfl (by omega) (by omega) (fun _ => rfl) oneItem w.heap.size _ ps rfl HO3.out _ 1 1 [⟨⟨key, zs, tags⟩, A3, n3, c3⟩] rfl HX.out (by omega) (by simp; omega) ?_; intro v' w4 ho hg2 hb2)
    have hc4 : Chg (At g) w w4 := Chg.pushed (a := w) (by (repeat (first | (with_reducible exact Chg.refl _ _) | ((with_reducible refine Chg.setNew ?_ _ ?_); rotate_left; first | (dsimp only; omega) | (simp; done) | (simp; omega)) | (with_reducible refine Chg.alloc ?_ _) | (with_reducible refine Chg.drew ?_) | (with_reducible refine Chg.drewN ?_ _) | (with_reducible refine Chg.no ?_ (by assumption)) | (with_reducible refine Chg.and_ ?_ (by assumption)) | ((with_reducible refine Chg.at_ ?_ (by assumption) ?_); rotate_left; (try simp only [World.size_alloc]); omega)))) hg2 HO3.out (Nat.le_refl _)
    have hR4 : Rd w4 B g (m + 282 + 31) := by
      refine (hR3.no ((Chg.refl No w3).alloc (.cells #[.int .i64 key, .slice A3 n3 c3, .int .i64 tags] 36))).keep (S := fun j => w.heap.size ≤ j) ((Chg.refl _ _).grown hg2 (fun j hj _ => (World.ownsRow.lt HO3.out j hj).1)) (fun j h1 h2 => ?_) (fun h => ?_)
      · have := hR3.base; omega
      · omega
    have HO4 := hid (OItems.push rfl HO3.out HI3.out HT3.out ho hg2)
    have hR5 := hR4.mono (m' := m + 320) (by omega)
    clear ho hg2 hb2 HX HT3 HI3 HO3
    go_wp2
    go_ret
    exact ⟨_, _, rfl, HO4.out, by rw [List.length_append, List.length_singleton, List.length_map]; omega, fun x hx => by
      rcases List.mem_append.1 hx with hx | hx
      · exact HB1.out x hx
      · rw [List.mem_singleton.1 hx]; exact HL3.out, hR5, hc4⟩
  · have n0 : (y2 == 0) = false := by simp; omega
    by_cases a1 : y2 = 1
    · subst a1
      by_cases h0 : 0 < ps.length
      · obtain ⟨A9, c9, hv9, hcl, hcm, hA9⟩ := OSl.form HO2.out
        obtain ⟨g1, rfl, hg1, hg1b⟩ := hA9 (by omega)
        have hcm' : c9 ≤ 9223372036854775807 := by unfold maxLen at hcm; omega
        subst hv9
        have j1 : decide (0 < ps.length) = true := decide_eq_true (by omega)
        clear hA9 hcm
        (go_wp2_with fail; (with_reducible refine (pick g (m + 282) _ _ hR2 (by omega) (by omega)).mono ?_); rintro e w3 ⟨y3, rfl, hy3, hR3, hc3⟩)
        have b3 := picked_lt hy3 (by omega)
        obtain ⟨q, rfl⟩ := Int.eq_ofNat_of_zero_le b3.1
        have hq : q < ps.length := by omega
        have s3 := hc3.size
        clear hy3
        (go_wp2_with fail; (with_reducible refine (anyVector g (m + 283) _ hR3 (by omega)).mono ?_); rintro e w4 ⟨A4, n4, c4, zs, rfl, ht4, hn4, hR4, hc4⟩)
        have s4 := hc4.size
        have HL4 := hid (show zs.length ≤ 101 from by have := ht4.1.len; omega)
        have HO4 := hid (OSl.keep (OSl.keep HO2.out hc3 (fun j h1 _ (e : j = g) => by omega)) hc4 (fun j h1 _ (e : j = g) => by omega))
        obtain ⟨p, hp⟩ : ∃ p, ps[q]? = some p := ⟨_, List.getElem?_eq_getElem hq⟩
        have k1 : w4.cell? ⟨g1, q * 3 + 1, none⟩ = some (.slice p.A p.n p.c) := HO4.out.cell (fun _ => rfl) (i := 1) hp rfl
        have k2 : w4.frozen? ⟨g1, q * 3 + 1, none⟩ = false := HO4.out.free _
        obtain ⟨cs, fr, hcs⟩ := own_typed HO4.out g1 rfl
        have HO5 := HO4.out.setAt (fun _ => rfl) q 1 p ⟨⟨p.it.key, zs, p.it.tags⟩, A4, n4, c4⟩ (.slice A4 n4 c4) hp (by omega) rfl
        have HI5 : ∀ r ∈ ps.set q ⟨⟨p.it.key, zs, p.it.tags⟩, A4, n4, c4⟩, TInts (w4.setCell ⟨g1, q * 3 + 1, none⟩ (.slice A4 n4 c4)) w.heap.size (w4.setCell ⟨g1, q * 3 + 1, none⟩ (.slice A4 n4 c4)).heap.size r.A r.n r.c r.it.vec := fun r hr => by
          rw [World.size_setCell]
          rcases List.mem_or_eq_of_mem_set hr with hr | hr
          · exact ((((HI2.out r hr).keep hc3 (fun j h1 _ (e : j = g) => by omega)).keep hc4 (fun j h1 _ (e : j = g) => by omega)).far hcs (by decide) _ _).wide (Nat.le_refl _) (by omega)
          · subst hr
            exact (ht4.far hcs (by decide) _ _).wide (by omega) (Nat.le_refl _)
        have HF := hid (show OItems (w4.setCell ⟨g1, q * 3 + 1, none⟩ (.slice A4 n4 c4)) w.heap.size (.slice (some ⟨g1, 0, none⟩) ps.length c9) _ from ⟨_, rfl, HO5, HI5⟩)
        have hR5 : Rd (w4.setCell ⟨g1, q * 3 + 1, none⟩ (.slice A4 n4 c4)) B g (m + 320) := (hR4.mono (by omega)).keep (S := fun j => j = g1) ((Chg.refl _ _).setCell _ (fun _ => rfl)) (fun j h1 h2 => by have := hR4.base; omega) (fun h => by omega)
        have hcE : Chg (At g) w (w4.setCell ⟨g1, q * 3 + 1, none⟩ (.slice A4 n4 c4)) := by (repeat (first | (with_reducible exact Chg.refl _ _) | ((with_reducible refine Chg.setNew ?_ _ ?_); rotate_left; first | (dsimp only; omega) | (simp; done) | (simp; omega)) | (with_reducible refine Chg.alloc ?_ _) | (with_reducible refine Chg.drew ?_) | (with_reducible refine Chg.drewN ?_ _) | (with_reducible refine Chg.no ?_ (by assumption)) | (with_reducible refine Chg.and_ ?_ (by assumption)) | ((with_reducible refine Chg.at_ ?_ (by assumption) ?_); rotate_left; (try simp only [World.size_alloc]); omega)))
        clear hp hcs ht4 HO5 HI5 HI2 HO2
        go_wp2
        go_ret
        exact ⟨_, _, rfl, HF.out, by rw [List.length_map, List.length_set]; omega, fun x hx => by
          obtain ⟨r, hr, rfl⟩ := List.mem_map.1 hx
          rcases List.mem_or_eq_of_mem_set hr with hr | hr
          · exact HB1.out _ (List.mem_map.2 ⟨r, hr, rfl⟩)
          · subst hr; exact HL4.out, hR5, hcE⟩
      · have hnil : ps = [] := List.eq_nil_of_length_eq_zero (by omega)
        obtain ⟨A9, c9, hv9, hcl, hcm, hA9⟩ := OSl.form HO2.out
        have HF := hid (show OItems w2 w.heap.size v1 (ps.map (·.it)) from ⟨ps, rfl, HO2.out, HI2.out⟩)
        subst hv9
        have j1 : decide (0 < ps.length) = false := decide_eq_false (by omega)
        have hR5 := hR2.mono (m' := m + 320) (by omega)
        clear hA9 hnil
        go_wp2
        go_ret
        exact ⟨_, _, rfl, HF.out, by rw [List.length_map]; omega, HB1.out, hR5, hcA⟩
    · have n1 : (y2 == 1) = false := by simp; omega
      have HF := hid (show OItems w2 w.heap.size v1 (ps.map (·.it)) from ⟨ps, rfl, HO2.out, HI2.out⟩)
      have hR5 := hR2.mono (m' := m + 320) (by omega)
      go_wp2
      go_ret
      exact ⟨_, _, rfl, HF.out, by rw [List.length_map]; omega, HB1.out, hR5, hcA⟩
end Go.Proofs.Ytifdcdpdihfbjaa
