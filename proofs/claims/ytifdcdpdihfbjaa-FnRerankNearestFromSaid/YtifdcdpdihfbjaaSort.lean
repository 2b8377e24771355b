/- slices.SortFunc on slices of the call's own. -/
import Derived.Test.YtifdcdpdihfbjaaSortL
import Derived.Test.YtifdcdpdihfbjaaCmp
import Derived.Test.YtifdcdpdihfbjaaTypes
import Derived.Shelf.SlSortCmp.NoneTotal
namespace Go.Proofs.Ytifdcdpdihfbjaa
open Go.RowKit Go.Sort Go.Shelf Go.Lib
set_option linter.unusedVariables false
set_option linter.unusedSimpArgs false
/-- nothing that was there has changed, and draws have been counted upwards -/
def Chd (w w' : World) : Prop := Chg No w w' ∧ w.drawn ≤ w'.drawn
theorem Chd.grow {w w' : World} (h : Chd w w') : ∃ q os', w' = grow (w.drewN q) os' := by
  obtain ⟨hc, hd⟩ := h
  refine ⟨w'.drawn - w.drawn, w'.heap.extract w.heap.size w'.heap.size, ?_⟩
  have e1 : w'.heap = w.heap ++ w'.heap.extract w.heap.size w'.heap.size := by
    apply Array.ext_getElem?
    intro i
    rw [Array.getElem?_append]
    by_cases hi : i < w.heap.size
    · rw [if_pos hi]; exact hc.block i hi (fun e => e)
    · rw [if_neg hi, Array.getElem?_extract]
      by_cases hi2 : i < w'.heap.size
      · rw [if_pos (by omega)]; congr 1; omega
      · rw [if_neg (by omega), Array.getElem?_eq_none (by omega)]
  obtain ⟨h', t', d', o', p'⟩ := w'
  obtain ⟨h, t, d, o, p⟩ := w
  have a1 := hc.os; have a2 := hc.tape; have a3 := hc.output
  simp only at a1 a2 a3 e1 hd
  subst a1 a2 a3
  unfold Go.Sort.grow World.drewN
  simp only [World.mk.injEq, true_and, and_true]
  exact ⟨e1, by omega⟩
theorem flatK_list {α : Type} [Inhabited α] {enc : α → List Value} {sz : Nat} (hl : ∀ x, (enc x).length = sz) (hs : 0 < sz) (d : Array α) : (flatK enc sz d).toList = d.toList.flatMap enc := by
  apply List.ext_getElem?
  intro j
  by_cases hj : j < d.size * sz
  · have hd : j / sz < d.size := Nat.div_lt_of_lt_mul (by rw [Nat.mul_comm]; exact hj)
    have hm : j % sz < sz := Nat.mod_lt _ hs
    have h1 := get_flatK enc sz d j hj
    have hsz : j < (flatK enc sz d).size := by rw [size_flatK]; exact hj
    have h2 := flat_at hl d.toList (j / sz) (d[j / sz]'hd) (j % sz) ((enc (d[j / sz]'hd))[j % sz]'(by rw [hl]; exact hm)) (by simp [hd]) (List.getElem?_eq_getElem _)
    have e : j / sz * sz + j % sz = j := by have := Nat.div_add_mod j sz; rw [Nat.mul_comm]; exact this
    rw [e] at h2
    rw [h2, Array.getElem?_toList, Array.getElem?_eq_getElem hsz]
    congr 1
    rw [getElem!_pos (flatK enc sz d) j hsz] at h1
    rw [h1, getElem!_pos d (j / sz) hd, getElem!_pos (enc (d[j / sz]'hd)) (j % sz) (by rw [hl]; exact hm)]
  · rw [List.getElem?_eq_none (by simp; omega), List.getElem?_eq_none (by rw [flat_length hl]; simp; omega)]
theorem put_block {α : Type} [Inhabited α] (enc : α → Value) {w : World} {g T : Nat} {d : Array α} {cur : Array Value} (h : w.heap[g]? = some (.cells cur T (0, 0))) (hd : d.size ≤ cur.size) :
    ∃ cur', (putRow enc w g 0 d).heap[g]? = some (.cells cur' T (0, 0)) ∧ cur'.size = cur.size ∧ cur'.toList.take d.size = d.toList.map enc := by
  refine ⟨putCells enc 0 d cur, by simp [putRow, mapBlock, Array.getElem?_modify, h, onCells], by simp [putCells], ?_⟩
  apply List.ext_getElem?
  intro j
  rw [List.getElem?_take, List.getElem?_map]
  by_cases hj : j < d.size
  · rw [if_pos hj]
    have hj2 : j < cur.size := by omega
    have hj3 : j < (putCells enc 0 d cur).size := by simp [putCells]; exact hj2
    rw [Array.getElem?_toList, Array.getElem?_eq_getElem hj3, Array.getElem?_toList, Array.getElem?_eq_getElem hj]
    simp only [putCells, Array.getElem_mapIdx, Option.map_some]
    rw [if_pos ⟨by omega, by omega⟩]
    congr 2
    rw [getElem!_pos d _ (by omega)]
    congr 1
  · rw [if_neg hj, Array.getElem?_toList, Array.getElem?_eq_none (by omega)]; rfl
theorem putRow_chg {α : Type} [Inhabited α] (enc : α → Value) (w : World) (g m : Nat) (d : Array α) (os : Array Obj) : Chg (fun k => k = g) w (grow (putRow enc (Sort.ahead w m) g 0 d) os) := by
  refine ⟨rfl, rfl, rfl, by simp [putRow, mapBlock], fun i hi hn => ?_⟩
  have hn : ¬ g = i := fun e => hn e.symm
  simp only [Go.Sort.grow, putRow, mapBlock, Sort.ahead]
  rw [Array.getElem?_append_left (by simpa using hi), Array.getElem?_modify, if_neg hn]
theorem grow_block {w : World} {g : Nat} {o : Obj} (os : Array Obj) (h : w.heap[g]? = some o) : (grow w os).heap[g]? = some o := by
  have := (Array.getElem?_eq_some_iff.1 h).1
  simp only [Go.Sort.grow]
  rw [Array.getElem?_append_left this]; exact h
theorem OSl.hd0 {α : Type} {T sz base g n c : Nat} {enc : α → List Value} {w : World} {xs : List α} (h : OSl T sz enc w base (.slice (some ⟨g, 0, none⟩) n c) xs) : ∃ cur, base ≤ g ∧ w.heap[g]? = some (.cells cur T (0, 0)) ∧ xs.length = n ∧ n ≤ c ∧ c ≤ maxLen ∧ cur.size = c * sz := by
  have hn := h.len
  rcases h.2 with ⟨hv, _⟩ | ⟨g', cap, cur, hv, hb, hh, h3, h4, h5, h6⟩
  · injection hv with h1 _ _; cases h1
  · injection hv with h1 h2 h3'
    injection h1 with h1
    injection h1 with h1 _ _
    subst h1 h3'
    exact ⟨cur, hb, hh, hn, by omega, h4, h5⟩
theorem ltHit (x y : Int × Int) : ltOf cmpHitF x y = nearB x y := by
  unfold ltOf
  have h := cmpHitF_neg x y
  cases hn : nearB x y with
  | true => exact decide_eq_true (h.2 hn)
  | false => exact decide_eq_false (fun h2 => by rw [h.1 h2] at hn; cases hn)
theorem swoHit : SWO (ltOf cmpHitF) where
  irrefl x := by rw [ltHit]; exact nearB_irrefl x
  trans x y z h1 h2 := by rw [ltHit] at *; exact nearB_trans h1 h2
  ntrans x y z h1 h2 := by rw [ltHit] at *; exact nearB_ntrans h1 h2
set_option maxHeartbeats 1000000 in
theorem iCompareHitsD (a b : Int × Int) (w : World) : Calls Try.prog 98 #[.agg #[.int .i64 a.1, .int .i64 a.2], .agg #[.int .i64 b.1, .int .i64 b.2]] w fun e w' => e = .returned (.int .i64 (cmpHitF a b)) ∧ Chd w w' := iCompareHitsC a.1 a.2 b.1 b.2 w
theorem isAggHit : ∀ w, (isAgg 39).run Try.prog w = .ok true w := fun w => by kernel_rfl
theorem sizeOfHit : ∀ w, (Go.sizeOf 39).run Try.prog w = .ok 2 w := fun w => by kernel_rfl
set_option maxHeartbeats 1000000 in
theorem sortFuncH (base : Nat) (A : Option Addr) (n c : Nat) (xs : List (Int × Int)) (w : World) (h : OHits w base (.slice A n c) xs) (hn : n ≤ 100000000) :
    Calls Try.prog 115 #[.slice A n c, .func (.func 98) #[] #[]] w fun e w' => e = .returned (.tuple #[]) ∧ OHits w' base (.slice A n c) (sortHits xs) ∧ Chg (fun k => (Value.slice A n c).ownBlock = some k) w w' := by
  have hl := h.len
  by_cases h0 : n = 0
  · subst h0
    have hx : xs = [] := List.eq_nil_of_length_eq_zero hl
    subst hx
    exact (AnyF.slices_SortFunc_none { sortHL with } A c _ w).mono fun e w' ⟨he, hw⟩ => by
      subst hw
      exact ⟨he, by rw [show sortHits [] = [] from by simp [sortHits]]; exact h, Chg.refl _ _⟩
  · obtain ⟨A', c', hv, _, _, hA⟩ := OSl.form h
    injection hv with v1 v2 v3
    obtain ⟨g, hAg, hgb, hgl⟩ := hA (by omega)
    rw [hAg] at v1
    subst v1
    clear v2 v3 hA hAg
    obtain ⟨cur, _, hg, _, hnc, hcm, hcs⟩ := OSl.hd0 h
    have hH : HoldsK cHit 2 w g 0 xs.toArray := by
      intro j hj
      rw [size_flatK] at hj
      have e : (xs.flatMap cHit)[j]? = some ((flatK cHit 2 xs.toArray)[j]!) := by
        have h9 := flatK_list (enc := cHit) (sz := 2) (fun _ => rfl) (by omega) xs.toArray
        rw [← h9, Array.getElem?_toList, Array.getElem?_eq_getElem (by rw [size_flatK]; exact hj), getElem!_pos]
      have := World.ownsRow.cells h (g := g) rfl j _ e
      rw [Addr.add_lit] at this
      exact ⟨this, h.free _⟩
    have hsz : xs.toArray.size < 4611686018427387904 := by unfold maxLen at hcm; simp; omega
    have hcon := AnyQ.slices_SortFunc_total sortHL 2 isAggHit sizeOfHit cHit (fun _ => rfl) oneHit cmpHitF swoHit 98 #[] g 0 c xs.toArray w (enters_of (P := Try.prog) Try.func98 (by kernel_rfl) rfl)
      (fun m os dk hs x y => (iCompareHitsD x y _).mono fun _ _ ⟨he, hd⟩ => ⟨he, hd.grow⟩) hH hgl hsz (fun x y h1 h2 => by rw [ltHit] at *; exact nearB_anti h1 h2)
    have hcon' : Calls Try.prog 115 #[.slice (some ⟨g, 0, none⟩) n c, .func (.func 98) #[] #[]] w fun e w' => e = .returned (.tuple #[]) ∧ ∃ m os, w' = sortWorldK cHit 2 w g 0 m (xs.mergeSort fun x y => !(ltOf cmpHitF) y x).toArray os := by
      have h9 : xs.toArray.size = n := by simpa using hl
      rw [← h9]
      exact hcon
    refine hcon'.mono fun e w' ⟨he, m, os, hw⟩ => ?_
    have hss : (xs.mergeSort fun x y => !(ltOf cmpHitF) y x) = sortHits xs := by
      unfold sortHits; congr 1; funext x y; rw [ltHit]
    rw [hss] at hw
    have hsl : (sortHits xs).length = n := by rw [← hl]; exact (List.mergeSort_perm xs _).length_eq
    have hchg : Chg (fun k => k = g) w w' := by rw [hw]; exact putRow_chg id w g m _ os
    refine ⟨he, ?_, hchg.mono (fun i _ (h : i = g) => by rw [h]; rfl)⟩
    obtain ⟨cur', k1, k2, k3⟩ := put_block id (w := Sort.ahead w m) (g := g) (d := flatK cHit 2 (sortHits xs).toArray) hg (by rw [size_flatK, hcs]; simp only [List.size_toArray, hsl]; exact Nat.mul_le_mul_right 2 hnc)
    have k4 : w'.heap[g]? = some (.cells cur' 39 (0, 0)) := by rw [hw]; exact grow_block os k1
    rw [size_flatK] at k3
    simp only [List.size_toArray, hsl, List.map_id_fun, id_eq] at k3
    rw [flatK_list (enc := cHit) (sz := 2) (fun _ => rfl) (by omega)] at k3
    unfold OHits OSl
    rw [hsl]
    exact ⟨by rw [flat_length (sz := 2) (fun _ => rfl), hsl], .inr ⟨g, c, cur', rfl, hgb, k4, hnc, hcm, by rw [k2, hcs], k3⟩⟩
end Go.Proofs.Ytifdcdpdihfbjaa
