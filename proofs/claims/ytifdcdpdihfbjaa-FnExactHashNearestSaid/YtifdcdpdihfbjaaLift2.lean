/- The arguments that are slices: hits, ints, rows, items that came in read as lists. -/
import Derived.Test.YtifdcdpdihfbjaaLift
import Derived.Deep.Slices
import Derived.Deep.Fields
namespace Go.Proofs.Ytifdcdpdihfbjaa
open Go.ChangeShapes Go.WideShapes Go.ChangeAt Go.RowKit Go.Joins Go.Deep
set_option linter.unusedVariables false
theorem list_of {α : Type} {P : Nat → α → Prop} : ∀ n, (∀ k, k < n → ∃ x, P k x) → ∃ xs : List α, xs.length = n ∧ ∀ k x, xs[k]? = some x → P k x
  | 0, _ => ⟨[], rfl, by simp⟩
  | n + 1, h => by
    obtain ⟨xs, hl, hx⟩ := list_of n (fun k hk => h k (by omega))
    obtain ⟨y, hy⟩ := h n (by omega)
    refine ⟨xs ++ [y], by simp [hl], fun k x hk => ?_⟩
    by_cases hkn : k < n
    · rw [List.getElem?_append_left (by omega)] at hk
      exact hx k x hk
    · rw [List.getElem?_append_right (by omega)] at hk
      have : k = n := by
        have := (List.getElem?_eq_some_iff.1 hk).1
        simp at this; omega
      subst this
      simp [hl] at hk
      subst hk; exact hy
theorem open_rsl {α : Type} {W : World} {E : Nat → Nat → α → Prop} {sz : Nat} (hsz : 0 < sz) {a : Addr} {l c : Nat} (hl : l ≤ c) (hm : c ≤ maxLen) (P : Addr → α → Prop) (hi : ∀ i, i < l → ∃ x, P (a.add (i * sz)) x) (hE : ∀ b x, P b x → b.spot = none ∧ b.block < W.heap.size ∧ E b.block b.off x) :
    ∃ xs, RSl 0 W.heap.size sz E (some a) l c xs := by
  obtain ⟨xs, hlen, hx⟩ := list_of l hi
  refine ⟨xs, hlen, hl, hm, fun h0 => ?_⟩
  obtain ⟨x0, hx0⟩ := hi 0 h0
  obtain ⟨b, o, s⟩ := a
  have h1 := hE _ _ hx0
  have hs : s = none := by simpa [Addr.add] using h1.1
  subst hs
  refine ⟨b, o, rfl, Nat.zero_le _, by simpa [Addr.add] using h1.2.1, fun j x hj => ?_⟩
  have := (hE _ _ (hx j x hj)).2.2
  rwa [Addr.add_lit] at this
theorem spot_of {W : World} {b : Addr} {u : Value} (h : W.cell? b = some u) : b.spot = none := World.cell?_spot h
theorem lt_of_cell {W : World} {b : Addr} {u : Value} (h : W.cell? b = some u) : b.block < W.heap.size := World.block_lt_of_cell? W b h
theorem addr_eta {b : Addr} (h : b.spot = none) : (⟨b.block, b.off, none⟩ : Addr) = b := by obtain ⟨b, o, s⟩ := b; simp at h; subst h; rfl
section
variable {H : Type} {enc : TypeId × Value → H} {r : Reach} {b0 base : Nat} {spare : Nat → Bool} {held : Bool} {W : World} {v : Value} {d : DataW H} {p : List MemPlace}
theorem trod_ints {T E : TypeId} (hT : Try.prog.underlying T = some (.slice E)) (hE : Try.prog.underlying E = some (.int .i64)) (h1 : Try.prog.cellsOf E = 1) {fuel : Nat} {cs : List Value} {x : DataW H × List MemPlace} (hf : DataW.trod enc Try.prog W base spare held fuel T cs = some x) : ∃ A n c xs, cs = [.slice A n c] ∧ RInts W 0 W.heap.size A n c xs := by
  rcases open_ints hT hE h1 hf with ⟨hcs, _⟩ | ⟨a, l, c, zs, hcs, _, hl, hm, hz, _, hcell, _⟩
  · exact ⟨none, 0, 0, [], hcs, RSl.nil_ _ _ (by unfold maxLen; omega)⟩
  · have hzl : l ≤ zs.length := by rw [hz]; split <;> omega
    obtain ⟨xs, hxs⟩ := open_rsl (W := W) (E := EInt W) (sz := 1) (by omega) hl hm (fun b x => W.cell? b = some (.int .i64 x)) (fun i hi => ⟨zs.getD i 0, by rw [Nat.mul_one]; exact hcell i (by omega)⟩) (fun b x hb => ⟨spot_of hb, lt_of_cell hb, by unfold EInt; rw [addr_eta (spot_of hb)]; exact hb⟩)
    exact ⟨_, l, c, xs, hcs, hxs⟩
theorem elem_field {t : TypeId} {fs : Array Field} (hs : Try.prog.underlying t = some (.struct fs)) (hone : oneCellFields Try.prog fs = true) (hC : Try.prog.cellsOf t = fs.size) {n : Nat} {cs : List Value} {x : DataW H × List MemPlace} {a : Addr}
    (hc : W.cells? base a (Try.prog.cellsOf t) = some cs) (ht : DataW.trod enc Try.prog W base spare held n t cs = some x) (j : Nat) (f : Field) (hj : fs[j]? = some f) : ∃ v y n', W.cell? (a.add j) = some v ∧ DataW.trod enc Try.prog W base spare held n' f.type [v] = some y := by
  rw [hC] at hc
  obtain ⟨ys, n', hn', hy, hlen, hyl, hf⟩ := DataW.trod_struct hs ht
  obtain ⟨_, hcl, hat⟩ := World.cells?_some hc
  obtain ⟨ho, hk⟩ := hone_of hone j f hj
  have hjl : j < fs.size := (Array.getElem?_eq_some_iff.1 hj).1
  have hcell := hat j hjl
  have hv : cs[j]? = some (cs[j]'(by omega)) := List.getElem?_eq_getElem (by omega)
  have h1 := hf j f hj
  rw [ho, hk] at h1
  have hone' : (cs.drop j).take 1 = [cs[j]'(by omega)] := by
    rw [List.drop_eq_getElem_cons (by omega)]
    rfl
  rw [hone'] at h1
  have hys : ys[j]? = some (ys[j]'(by omega)) := List.getElem?_eq_getElem (by omega)
  exact ⟨_, _, n', by rw [hcell, hv], h1.trans hys⟩
set_option maxRecDepth 20000 in
theorem open_intS (hv : Value.okWide Try.prog W r b0 27 v) (h : DataW.Trod enc Try.prog W base spare held 27 v d p) : ∃ A n c xs, v = .slice A n c ∧ RInts W 0 W.heap.size A n c xs := by
  obtain ⟨a0, len, cap, rfl⟩ := okWide_slice Try.underlying27 hv
  obtain ⟨fuel, hf⟩ := h
  obtain ⟨A, n, c, xs, hcs, hx⟩ := trod_ints Try.underlying27 Try.underlying3 (by kernel_rfl) hf
  simp [Value.cells] at hcs
  obtain ⟨rfl, rfl, rfl⟩ := hcs
  exact ⟨_, _, _, xs, rfl, hx⟩
theorem cellsItem : Try.prog.cellsOf 80 = 3 := by kernel_rfl
set_option maxRecDepth 20000 in
theorem open_items (hv : Value.okWide Try.prog W r b0 47 v) (h : DataW.Trod enc Try.prog W base spare held 47 v d p) : ∃ A n c xs, v = .slice A n c ∧ RItems W 0 W.heap.size A n c xs := by
  obtain ⟨a0, len, cap, rfl⟩ := okWide_slice Try.underlying47 hv
  obtain ⟨fuel, hf⟩ := h
  rcases open_slice Try.underlying47 hf with ⟨hcs, _⟩ | ⟨a, l, c, m, n, D, Pl, hcs, _, hl, hm, hmm, _, hi⟩
  · simp [Value.cells] at hcs
    obtain ⟨rfl, rfl, rfl⟩ := hcs
    exact ⟨none, 0, 0, [], rfl, RSl.nil_ _ _ (by unfold maxLen; omega)⟩
  · simp [Value.cells] at hcs
    obtain ⟨rfl, rfl, rfl⟩ := hcs
    have hml : len ≤ m := by rw [hmm]; split <;> omega
    obtain ⟨xs, hxs⟩ := open_rsl (W := W) (E := EItem W 0 W.heap.size) (sz := 3) (by omega) hl hm (fun b (x : It) => W.cell? (b.add 0) = some (.int .i64 x.key) ∧ (∃ A n c, W.cell? (b.add 1) = some (.slice A n c) ∧ RInts W 0 W.heap.size A n c x.vec) ∧ W.cell? (b.add 2) = some (.int .i64 x.tags)) (fun i hi2 => by
      obtain ⟨cs', hc, ht⟩ := hi i (by omega)
      rw [show (Try.prog.cellsOf 80) = 3 from cellsItem] at hc
      obtain ⟨v0, y0, n0, h0, t0⟩ := elem_field Try.underlying80 (by kernel_rfl) cellsItem (by rw [cellsItem]; exact hc) ht 0 _ rfl
      obtain ⟨v1, y1, n1, h1, t1⟩ := elem_field Try.underlying80 (by kernel_rfl) cellsItem (by rw [cellsItem]; exact hc) ht 1 _ rfl
      obtain ⟨v2, y2, n2, h2, t2⟩ := elem_field Try.underlying80 (by kernel_rfl) cellsItem (by rw [cellsItem]; exact hc) ht 2 _ rfl
      obtain ⟨x0, e0, _⟩ := DataW.trod_int Try.underlying3 t0
      obtain ⟨A1, m1, c1, xs1, e1, r1⟩ := trod_ints Try.underlying27 Try.underlying3 (by kernel_rfl) t1
      obtain ⟨x2, e2, _⟩ := DataW.trod_int Try.underlying3 t2
      simp at e0 e1 e2
      subst e0 e1 e2
      exact ⟨⟨x0, xs1, x2⟩, h0, ⟨A1, m1, c1, h1, r1⟩, h2⟩) (fun b x hb => by
      have hb0 : W.cell? b = some (.int .i64 x.key) := by simpa [Addr.add] using hb.1
      have e := addr_eta (spot_of hb0)
      obtain ⟨A1, m1, c1, h1, r1⟩ := hb.2.1
      refine ⟨spot_of hb0, lt_of_cell hb0, ?_, ⟨A1, m1, c1, ?_, r1⟩, ?_⟩
      · rw [e]; exact hb0
      · rw [← h1, ← e, Addr.add_lit]
      · rw [← hb.2.2, ← e, Addr.add_lit])
    exact ⟨_, len, cap, xs, rfl, hxs⟩
theorem cellsIntS : Try.prog.cellsOf 27 = 1 := by kernel_rfl
set_option maxRecDepth 20000 in
theorem open_rows (hv : Value.okWide Try.prog W r b0 23 v) (h : DataW.Trod enc Try.prog W base spare held 23 v d p) : ∃ A n c xs, v = .slice A n c ∧ RRows W 0 W.heap.size A n c xs := by
  obtain ⟨a0, len, cap, rfl⟩ := okWide_slice Try.underlying23 hv
  obtain ⟨fuel, hf⟩ := h
  rcases open_slice Try.underlying23 hf with ⟨hcs, _⟩ | ⟨a, l, c, m, n, D, Pl, hcs, _, hl, hm, hmm, _, hi⟩
  · simp [Value.cells] at hcs
    obtain ⟨rfl, rfl, rfl⟩ := hcs
    exact ⟨none, 0, 0, [], rfl, RSl.nil_ _ _ (by unfold maxLen; omega)⟩
  · simp [Value.cells] at hcs
    obtain ⟨rfl, rfl, rfl⟩ := hcs
    have hml : len ≤ m := by rw [hmm]; split <;> omega
    obtain ⟨xs, hxs⟩ := open_rsl (W := W) (E := ERow W 0 W.heap.size) (sz := 1) (by omega) hl hm (fun b (x : List Int) => ∃ A n c, W.cell? b = some (.slice A n c) ∧ RInts W 0 W.heap.size A n c x) (fun i hi2 => by
      obtain ⟨cs', hc, ht⟩ := hi i (by omega)
      rw [show (Try.prog.cellsOf 27) = 1 from cellsIntS] at hc
      obtain ⟨_, hcl, hat⟩ := World.cells?_some hc
      obtain ⟨A1, m1, c1, xs1, e1, r1⟩ := trod_ints Try.underlying27 Try.underlying3 (by kernel_rfl) ht
      subst e1
      have h0 := hat 0 (by omega)
      refine ⟨xs1, A1, m1, c1, ?_, r1⟩
      simpa [Addr.add] using h0) (fun b x ⟨A1, m1, c1, h1, r1⟩ => ⟨spot_of h1, lt_of_cell h1, A1, m1, c1, by rw [addr_eta (spot_of h1)]; exact h1, r1⟩)
    exact ⟨_, len, cap, xs, rfl, hxs⟩
end
end Go.Proofs.Ytifdcdpdihfbjaa
