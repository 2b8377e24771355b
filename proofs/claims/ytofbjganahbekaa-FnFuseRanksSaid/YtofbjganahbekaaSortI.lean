/- slices.SortFunc on ints of the call's own; slices.Index and slices.Contains at ints. -/
import Derived.Test.YtofbjganahbekaaSort
namespace Go.Proofs.Ytofbjganahbekaa
open Go.RowKit Go.Sort Go.Shelf Go.Lib
set_option linter.unusedVariables false
set_option linter.unusedSimpArgs false
theorem mapI_flat (l : List Int) : l.map (Value.int .i64) = l.flatMap cInt := by
  induction l with
  | nil => rfl
  | cons x t ih => rw [List.map_cons, List.flatMap_cons, ih]; rfl
set_option maxHeartbeats 1000000 in
theorem sortFuncI (base : Nat) (A : Option Addr) (n c : Nat) (xs : List Int) (cf : Int → Int → Int) (hO : SWO (ltOf cf)) (hT : ∀ x y, (ltOf cf) x y = false → (ltOf cf) y x = false → x = y) (f : Nat) (cb : Array Value) (w : World) (h : OInts w base (.slice A n c) xs) (hn : n ≤ 100000000)
    (eg : ∀ args w, (callFunc f args).run Try.prog w = .ok (.enter f args) w)
    (hcmp : ∀ W, Chg (fun k => (Value.slice A n c).ownBlock = some k) w W → ∀ x y : Int, Calls Try.prog f (#[.int .i64 x, .int .i64 y] ++ cb) W fun e w' => e = .returned (.int .i64 (cf x y)) ∧ (Chg No W w' ∧ W.drawn ≤ w'.drawn)) :
    Calls Try.prog 42 #[.slice A n c, .func (.func f) #[] cb] w fun e w' => e = .returned (.tuple #[]) ∧ OInts w' base (.slice A n c) (xs.mergeSort fun x y => !(ltOf cf) y x) ∧ Chg (fun k => (Value.slice A n c).ownBlock = some k) w w' := by
  have hl := h.len
  by_cases h0 : n = 0
  · subst h0
    have hx : xs = [] := List.eq_nil_of_length_eq_zero hl
    subst hx
    exact (AnyF.slices_SortFunc_none { sortIL with } A c _ w).mono fun e w' ⟨he, hw⟩ => by
      subst hw
      exact ⟨he, by simpa using h, Chg.refl _ _⟩
  · obtain ⟨A', c', hv, _, _, hA⟩ := OSl.form h
    injection hv with v1 v2 v3
    obtain ⟨g, hAg, hgb, hgl⟩ := hA (by omega)
    rw [hAg] at v1
    subst v1
    clear v2 v3 hA hAg
    obtain ⟨cur, _, hg, _, hnc, hcm, hcs⟩ := OSl.hd0 h
    have hH : Holds (Value.int .i64) w g 0 xs.toArray := by
      intro j hj
      have hj' : j < xs.length := by simpa using hj
      have e : (xs.flatMap cInt)[j]? = some (Value.int .i64 (xs.toArray[j]!)) := by
        rw [← mapI_flat, List.getElem?_map, List.getElem?_eq_getElem hj']
        simp [hj']
      have := World.ownsRow.cells h (g := g) rfl j _ e
      rw [Addr.add_lit] at this
      exact ⟨this, h.free _⟩
    have hsz : xs.toArray.size < 4611686018427387904 := by unfold maxLen at hcm; simp; omega
    have hcon := Any.slices_SortFunc_total sortIL (Value.int .i64) (fun _ => rfl) cf hO f cb g 0 c xs.toArray w eg
      (fun m os dk hs x y => (hcmp _ ((putRow_chg (Value.int .i64) w g m dk os).mono (fun i _ (h : i = g) => by rw [h]; rfl)) x y).mono fun _ _ ⟨he, hd⟩ => ⟨he, Chd.grow hd⟩) hH hgl hsz hT
    have hcon' : Calls Try.prog 42 #[.slice (some ⟨g, 0, none⟩) n c, .func (.func f) #[] cb] w fun e w' => e = .returned (.tuple #[]) ∧ ∃ m os, w' = sortWorld (Value.int .i64) w g 0 m (xs.mergeSort fun x y => !(ltOf cf) y x).toArray os := by
      have h9 : xs.toArray.size = n := by simpa using hl
      rw [← h9]
      exact hcon
    refine hcon'.mono fun e w' ⟨he, m, os, hw⟩ => ?_
    obtain ⟨ss, hss⟩ : ∃ ss, (xs.mergeSort fun x y => !(ltOf cf) y x) = ss := ⟨_, rfl⟩
    have hsl : ss.length = n := by rw [← hl, ← hss]; exact (List.mergeSort_perm xs _).length_eq
    rw [hss] at hw ⊢
    have hchg : Chg (fun k => k = g) w w' := by rw [hw]; exact putRow_chg (Value.int .i64) w g m _ os
    refine ⟨he, ?_, hchg.mono (fun i _ (h : i = g) => by rw [h]; rfl)⟩
    obtain ⟨cur', k1, k2, k3⟩ := put_block (Value.int .i64) (w := Sort.ahead w m) (g := g) (d := ss.toArray) hg (by rw [hcs]; simp only [List.size_toArray, hsl]; omega)
    have k4 : w'.heap[g]? = some (.cells cur' 3 (0, 0)) := by rw [hw]; exact grow_block os k1
    simp only [List.size_toArray, hsl] at k3
    rw [mapI_flat] at k3
    unfold OInts OSl
    rw [hsl]
    exact ⟨by rw [flat_length (sz := 1) (fun _ => rfl), hsl], .inr ⟨g, c, cur', rfl, hgb, k4, hnc, hcm, by rw [k2, hcs], by rw [Nat.mul_one]; exact k3⟩⟩
set_option maxHeartbeats 1000000 in
theorem indexI (l0 h0 : Nat) (A : Option Addr) (n c : Nat) (xs : List Int) (x : Int) (w : World) (hx : RInts w l0 h0 A n c xs) :
    Calls Try.prog 56 #[.slice A n c, .int .i64 x] w fun e w' => (∃ r : Int, e = .returned (.int .i64 r) ∧ ((-1 ≤ r ∧ r ≤ n) ∧ (0 ≤ r ↔ x ∈ xs))) ∧ w = w' := by
  have hnc := hx.le; have hcm := hx.cap
  have HX := hid hx
  clear hx
  go_enter Try.func56, Try.ntmps56
  go_wp2
  go_loop [8] (fun i => ∃ k : Nat, k ≤ n ∧ i = .int .i64 k ∧ Hid (∀ (j : Nat) (y : Int), j < k → xs[j]? = some y → y ≠ x)) (fun i => n - (intOf i).toNat)
  case atStart => exact ⟨0, Nat.zero_le _, rfl, fun j y hj => absurd hj (by omega)⟩
  case round =>
    obtain ⟨k, hk, rfl, HN⟩ := hrel
    by_cases hlt : k < n
    · obtain ⟨b, o, y, rfl, _, _, hyk, hE⟩ := HX.out.at_ hlt
      have hE1 : w.cell? ⟨b, o + k, none⟩ = some (.int .i64 y) := by simpa [EInt] using hE
      have Hyk := hid hyk
      clear hyk hE
      by_cases he : y = x
      · have e1 : (x == y) = true := by simp [he]
        have HM := hid (show x ∈ xs from by rw [← he]; exact List.mem_of_getElem? Hyk.out)
        clear he
        go_wp2
        go_ret
        exact ⟨⟨k, rfl, ⟨by omega, by omega⟩, ⟨fun _ => HM.out, fun _ => by omega⟩⟩, rfl⟩
      · have e1 : (x == y) = false := by
          rw [beq_eq_false_iff_ne]; exact fun h => he h.symm
        have HN2 : Hid (∀ (j : Nat) (z : Int), j < k + 1 → xs[j]? = some z → z ≠ x) := fun j z hj hz => by
          by_cases hjk : j < k
          · exact HN.out j z hjk hz
          · obtain rfl : j = k := by omega
            rw [Hyk.out] at hz; injection hz with hz; subst hz; exact he
        clear he
        go_wp2
        go_round
        case rel => exact ⟨k + 1, by omega, by go_num, HN2⟩
        case measure => simp [intOf]; omega
    · have HM := hid (show x ∉ xs from fun hm => by
        obtain ⟨j, hj⟩ := List.getElem?_of_mem hm
        exact HN.out j x (by have := (List.getElem?_eq_some_iff.1 hj).1; have := HX.out.len; omega) hj rfl)
      go_wp2
      go_ret
      exact ⟨⟨-1, rfl, ⟨by omega, by omega⟩, ⟨fun h => by omega, fun h => absurd h HM.out⟩⟩, rfl⟩
theorem containsI (l0 h0 : Nat) (A : Option Addr) (n c : Nat) (xs : List Int) (x : Int) (w : World) (hx : RInts w l0 h0 A n c xs) :
    Calls Try.prog 39 #[.slice A n c, .int .i64 x] w fun e w' => e = .returned (.bool (decide (x ∈ xs))) ∧ w = w' := by
  have HX := hid hx
  have HR := hid (show ∀ r : Int, (0 ≤ r ↔ x ∈ xs) → decide (x ∈ xs) = decide (0 ≤ r) from fun r h => by rw [Bool.eq_iff_iff, decide_eq_true_eq, decide_eq_true_eq]; exact h.symm)
  clear hx
  go_enter Try.func39, Try.ntmps39
  (go_wp2_with fail; (with_reducible refine (indexI _ _ _ _ _ xs x _ HX.out).mono ?_); rintro e w1 ⟨⟨r, rfl, hb, hr⟩, rfl⟩)
  have HR2 := hid (HR.out r hr)
  clear hr
  go_wp2
  go_ret
  exact ⟨by rw [HR2.out]; rfl, rfl⟩
end Go.Proofs.Ytofbjganahbekaa
