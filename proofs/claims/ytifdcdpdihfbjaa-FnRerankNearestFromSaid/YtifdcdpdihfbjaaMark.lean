/- Rows of slices of the call's own; slices none of which shares a block with another; lists that were marked. -/
import Derived.Test.YtifdcdpdihfbjaaTypes
import Derived.Test.YtifdcdpdihfbjaaPStore
import Derived.Test.YtifdcdpdihfbjaaQuiet
namespace Go.Proofs.Ytifdcdpdihfbjaa
open Go.RowKit
set_option linter.unusedVariables false
set_option linter.unusedSimpArgs false
/-- slices that share no block -/
def Apart (l : List (Option Addr × Nat)) : Prop := l.Pairwise fun p q => 0 < p.2 → 0 < q.2 → ∀ b o b' o', p.1 = some ⟨b, o, none⟩ → q.1 = some ⟨b', o', none⟩ → b ≠ b'
/-- the block of a slice that is not empty -/
def Blk (n : Nat) (A : Option Addr) : Nat → Prop := fun k => 0 < n ∧ ∃ o, A = some ⟨k, o, none⟩
theorem Apart.push {l : List (Option Addr × Nat)} {A : Option Addr} {n B : Nat} (h : Apart l) (h1 : ∀ p ∈ l, 0 < p.2 → ∀ b o, p.1 = some ⟨b, o, none⟩ → b < B) (h2 : 0 < n → ∀ b o, A = some ⟨b, o, none⟩ → B ≤ b) : Apart (l ++ [(A, n)]) := by
  refine List.pairwise_append.2 ⟨h, List.pairwise_singleton _ _, fun p hp q hq h3 h4 b o b' o' h5 h6 => ?_⟩
  rw [List.mem_singleton.1 hq] at h4 h6
  have := h1 p hp h3 b o h5
  have := h2 h4 b' o' h6
  omega
theorem Apart.zeros {l : List (Option Addr × Nat)} (h : Apart l) {m : List (Option Addr × Nat)} (h0 : ∀ p ∈ m, p.2 = 0) : Apart (l ++ m) := by
  refine List.pairwise_append.2 ⟨h, ?_, fun p hp q hq h3 h4 => ?_⟩
  · refine List.Pairwise.imp_of_mem (R := fun _ _ => True) (fun {a b} ha hb _ h1 => ?_) (List.pairwise_of_forall (fun _ _ => trivial))
    have := h0 _ ha; omega
  · have := h0 _ hq; omega
theorem apart_at {l : List (Option Addr × Nat)} (h : Apart l) {i j : Nat} {p q : Option Addr × Nat} (hi : l[i]? = some p) (hj : l[j]? = some q) (hij : i ≠ j) (h0 : 0 < p.2) (h1 : 0 < q.2) {b o b' o' : Nat} (hp : p.1 = some ⟨b, o, none⟩) (hq : q.1 = some ⟨b', o', none⟩) : b ≠ b' := by
  have e1 := List.getElem?_eq_some_iff.1 hi
  have e2 := List.getElem?_eq_some_iff.1 hj
  have hp' := List.pairwise_iff_getElem.1 h
  rcases Nat.lt_or_gt_of_ne hij with h2 | h2
  · have := hp' i j e1.1 e2.1 h2
    rw [e1.2, e2.2] at this
    exact this h0 h1 b o b' o' hp hq
  · have := hp' j i e2.1 e1.1 h2
    rw [e1.2, e2.2] at this
    exact fun e => this h1 h0 b' o' b o hq hp e.symm
/-! ### counting lists -/
/-- k, k + 1 .. -/
def cntL (k : Int) (n : Nat) : List Int := (List.range n).map fun (i : Nat) => k + (i : Int)
theorem cntL_len (k : Int) (n : Nat) : (cntL k n).length = n := by unfold cntL; simp
theorem cntL_at {k : Int} {n j : Nat} (h : j < n) : (cntL k n)[j]? = some (k + (j : Int)) := by unfold cntL; simp [h]
theorem cntL_snoc (k : Int) (n : Nat) : cntL k (n + 1) = cntL k n ++ [k + (n : Int)] := by unfold cntL; rw [List.range_succ]; simp
theorem cnt_set {k : Int} {j : Nat} {xs : List Int} (h : j < xs.length) : (cntL k j ++ xs.drop j).set j (k + (j : Int)) = cntL k (j + 1) ++ xs.drop (j + 1) := by
  rw [List.set_append, if_neg (by rw [cntL_len]; omega), cntL_len, Nat.sub_self, List.drop_eq_getElem_cons h, List.set_cons_zero, cntL_snoc, List.append_assoc]
  rfl
theorem cnt_next {k : Int} {j : Nat} {xs : List Int} (h : j < xs.length) : (cntL k j ++ xs.drop j)[j]? = some (xs[j]'h) := by
  rw [List.getElem?_append_right (by rw [cntL_len]; exact Nat.le_refl _), cntL_len, Nat.sub_self, List.drop_eq_getElem_cons h]
  rfl
/-- a store into an int of a slice in a block of ints -/
theorem TInts.set {w : World} {lo hi b o n c : Nat} {xs : List Int} (h : TInts w lo hi (some ⟨b, o, none⟩) n c xs) {j : Nat} (hj : j < n) (x : Int) : TInts (w.setCell ⟨b, o + j, none⟩ (.int .i64 x)) lo hi (some ⟨b, o, none⟩) n c (xs.set j x) := by
  obtain ⟨⟨h1, h2, h3, h4⟩, h5⟩ := h
  obtain ⟨b', o', cs, hA, hb⟩ := h5 (by omega)
  injection hA with hA
  injection hA with e1 e2 _
  subst e1 e2
  obtain ⟨b', o', hA', hl, hh, hx⟩ := h4 (by omega)
  injection hA' with hA'
  injection hA' with e1 e2 _
  subst e1 e2
  refine ⟨⟨by rw [List.length_set, h1], h2, h3, fun _ => ⟨b, o, rfl, hl, hh, fun i y hy => ?_⟩⟩, fun _ => ⟨b, o, _, rfl, by simp [World.setCell, Array.getElem?_modify, hb]; rfl⟩⟩
  have hc0 := hx j _ (List.getElem?_eq_getElem (show j < xs.length by omega))
  unfold EInt at hc0 hx ⊢
  rw [Nat.mul_one] at hc0 ⊢
  by_cases hij : i = j
  · subst hij
    rw [List.getElem?_set_self (by omega)] at hy
    injection hy with hy
    subst hy
    rw [cell_setCell_self, hc0]; rfl
  · rw [List.getElem?_set_ne (fun e => hij e.symm)] at hy
    rw [World.cell?_setCell_other _ _ _ _ (by intro e; injection e with _ e2 _; omega)]
    have := hx i y hy
    rwa [Nat.mul_one] at this
theorem TInts.hd {w : World} {lo hi n c : Nat} {A : Option Addr} {xs : List Int} (h : TInts w lo hi A n c xs) (h0 : 0 < n) : ∃ b o, A = some ⟨b, o, none⟩ ∧ lo ≤ b ∧ b < hi ∧ (∃ cs, w.heap[b]? = some (.cells cs 3 (0, 0))) ∧ (∀ i, w.frozen? ⟨b, i, none⟩ = false) ∧ ∀ j x, xs[j]? = some x → w.cell? ⟨b, o + j, none⟩ = some (.int .i64 x) := by
  obtain ⟨b, o, cs, hA, hb⟩ := h.2 h0
  obtain ⟨b', o', hA', hl, hh, hx⟩ := h.1.2.2.2 h0
  rw [hA] at hA'
  injection hA' with hA'
  injection hA' with e1 e2 _
  subst e1 e2
  refine ⟨b, o, hA, hl, hh, ⟨cs, hb⟩, fun i => by simp [World.frozen?, hb], fun j x hj => ?_⟩
  have := hx j x hj
  unfold EInt at this
  rwa [Nat.mul_one] at this
/-- a block of another type changes -/
theorem TInts.other {w w' : World} {lo hi g T n c : Nat} {A : Option Addr} {xs : List Int} {cs : Array Value} {fr : Nat × Nat} (h : TInts w lo hi A n c xs) (hc : Chg (fun k => k = g) w w') (hg : w.heap[g]? = some (.cells cs T fr)) (hT : T ≠ 3) : TInts w' lo hi A n c xs := by
  have hne : ∀ b cs', w.heap[b]? = some (Obj.cells cs' 3 (0, 0)) → ¬ b = g := fun b cs' hb e => by
    rw [e, hg] at hb
    injection hb with hb
    injection hb with _ h2 _
    exact hT h2
  refine ⟨⟨h.1.1, h.1.2.1, h.1.2.2.1, fun h0 => ?_⟩, fun h0 => ?_⟩
  · obtain ⟨b, o, cs', hA, hb⟩ := h.2 h0
    obtain ⟨b', o', hA', hl, hhi, hx⟩ := h.1.2.2.2 h0
    rw [hA] at hA'
    injection hA' with hA'
    injection hA' with e1 e2 _
    subst e1 e2
    exact ⟨b, o, hA, hl, hhi, fun j x hj => cell_keep hc (hx j x hj) (hne b cs' hb)⟩
  · obtain ⟨b, o, cs', hA, hb⟩ := h.2 h0
    exact ⟨b, o, cs', hA, (hc.block b (Array.getElem?_eq_some_iff.1 hb).1 (hne b cs' hb)).trans hb⟩
/-- another slice that shares no block with it changes -/
theorem TInts.apart {w w' : World} {lo hi n c m : Nat} {A B : Option Addr} {xs : List Int} (h : TInts w lo hi A n c xs) (hc : Chg (Blk m B) w w') (hd : 0 < n → 0 < m → ∀ b o b' o', A = some ⟨b, o, none⟩ → B = some ⟨b', o', none⟩ → b ≠ b') : TInts w' lo hi A n c xs := by
  have hne : 0 < n → ∀ b o, A = some ⟨b, o, none⟩ → ¬ Blk m B b := fun h0 b o hA ⟨h1, o', hB⟩ => hd h0 h1 b o b o' hA hB rfl
  refine ⟨⟨h.1.1, h.1.2.1, h.1.2.2.1, fun h0 => ?_⟩, fun h0 => ?_⟩
  · obtain ⟨b, o, hA, hl, hhi, hx⟩ := h.1.2.2.2 h0
    exact ⟨b, o, hA, hl, hhi, fun j x hj => cell_keep hc (hx j x hj) (hne h0 b o hA)⟩
  · obtain ⟨b, o, cs, hA, hb⟩ := h.2 h0
    exact ⟨b, o, cs, hA, (hc.block b (Array.getElem?_eq_some_iff.1 hb).1 (hne h0 b o hA)).trans hb⟩
/-- what ints of a block of ints ask of a slice of elements of another type: it stands when they change -/
theorem OSl.ints {α : Type} {T sz lo hi n c base : Nat} {enc : α → List Value} {w w' : World} {A : Option Addr} {xs : List Int} {v : Value} {ys : List α} (ho : OSl T sz enc w base v ys) (h : TInts w lo hi A n c xs) (hc : Chg (Blk n A) w w') (hT : T ≠ 3) : OSl T sz enc w' base v ys := by
  rcases ho.2 with ⟨hv, hn⟩ | ⟨g, cap, cur, hv, hb, hh, hn, hcm, hcs, ht⟩
  · exact ⟨ho.1, .inl ⟨hv, hn⟩⟩
  · refine ⟨ho.1, .inr ⟨g, cap, cur, hv, hb, (hc.block g (Array.getElem?_eq_some_iff.1 hh).1 (fun ⟨h0, o, hA⟩ => ?_)).trans hh, hn, hcm, hcs, ht⟩⟩
    obtain ⟨b, o', cs, hA', hb'⟩ := h.2 h0
    rw [hA] at hA'
    injection hA' with hA'
    injection hA' with e1 _ _
    subst e1
    rw [hh] at hb'
    injection hb' with hb'
    injection hb' with _ h2 _
    exact hT h2
/-- a slice of the call's own below hi stands when blocks outside of base..hi change -/
theorem OSl.keepR {α : Type} {T sz base hi : Nat} {enc : α → List Value} {w w' : World} {v : Value} {xs : List α} {S : Nat → Prop} (h : OSl T sz enc w base v xs) (hh : ∀ g, v.ownBlock = some g → g < hi) (hc : Chg S w w') (hS : ∀ k, base ≤ k → k < hi → ¬ S k) : OSl T sz enc w' base v xs := by
  rcases h.2 with ⟨hv, hn⟩ | ⟨g, cap, cur, hv, hb, hg, hn, hcm, hcs, ht⟩
  · exact ⟨h.1, .inl ⟨hv, hn⟩⟩
  · have hlt := (Array.getElem?_eq_some_iff.1 hg).1
    exact ⟨h.1, .inr ⟨g, cap, cur, hv, hb, (hc.block g hlt (hS g hb (hh g (by rw [hv]; rfl)))).trans hg, hn, hcm, hcs, ht⟩⟩
theorem OSl.own_lt {α : Type} {T sz base : Nat} {enc : α → List Value} {w : World} {v : Value} {xs : List α} (h : OSl T sz enc w base v xs) : ∀ g, v.ownBlock = some g → g < w.heap.size := fun g hg => (World.ownsRow.lt h g hg).2
theorem RSl.below {α : Type} {lo hi hi' sz n c : Nat} {E : Nat → Nat → α → Prop} {A : Option Addr} {xs : List α} (h : RSl lo hi sz E A n c xs) (hh : 0 < n → ∀ b o, A = some ⟨b, o, none⟩ → b < hi') : RSl lo hi' sz E A n c xs :=
  ⟨h.1, h.2.1, h.2.2.1, fun h0 => by
    obtain ⟨b, o, hA, hl, _, hx⟩ := h.2.2.2 h0
    exact ⟨b, o, hA, hl, hh h0 b o hA, hx⟩⟩
theorem TInts.blk {w w' : World} {lo hi n c : Nat} {A : Option Addr} {xs : List Int} (h : TInts w lo hi A n c xs) (hc : Chg (Blk n A) w w') {S : Nat → Prop} (hS : ∀ k, lo ≤ k → k < hi → S k) : Chg S w w' := by
  refine hc.mono (fun i hi' ⟨h0, o, hA⟩ => ?_)
  obtain ⟨b, o', hA', hl, hh, _⟩ := h.1.2.2.2 h0
  rw [hA] at hA'
  injection hA' with hA'
  injection hA' with e1 _ _
  subst e1
  exact hS _ hl hh
theorem TInts.r {w : World} {lo hi n c : Nat} {A : Option Addr} {xs : List Int} (h : TInts w lo hi A n c xs) : RInts w lo hi A n c xs := h.1
theorem TInts.no' {w w' : World} {lo hi n c : Nat} {A : Option Addr} {xs : List Int} (h : TInts w lo hi A n c xs) (hc : Chg No w w') : TInts w' lo hi A n c xs := h.keep hc (fun _ _ _ e => e)
theorem tints_nil (w : World) (lo hi : Nat) : TInts w lo hi none 0 0 [] := ⟨RSl.nil_ _ _ (by unfold maxLen; omega), fun h => absurd h (by omega)⟩
theorem getE?_of_map {α β : Type} {f : α → β} {l : List α} {j : Nat} {y : β} (h : (l.map f)[j]? = some y) : ∃ x, l[j]? = some x ∧ f x = y := by
  rw [List.getElem?_map] at h
  cases hp : l[j]? with
  | none => rw [hp] at h; cases h
  | some p => rw [hp] at h; injection h with h; exact ⟨p, rfl, h⟩
theorem mem_set_ne {α : Type} {l : List α} {j i : Nat} {x y : α} (h : (l.set j x)[i]? = some y) : (i = j ∧ y = x) ∨ (i ≠ j ∧ l[i]? = some y) := by
  by_cases hij : i = j
  · subst hij
    have := (List.getElem?_eq_some_iff.1 h).1
    rw [List.length_set] at this
    rw [List.getElem?_set_self this] at h
    injection h with h
    exact .inl ⟨rfl, h.symm⟩
  · rw [List.getElem?_set_ne (fun e => hij e.symm)] at h
    exact .inr ⟨hij, h⟩
/-- a slice of items of the call's own, their vectors too, no two in one block-/
def OItemsD (w : World) (base : Nat) (v : Value) (xs : List It) : Prop := ∃ ps : List ItP, ps.map (·.it) = xs ∧ OSl 36 3 cItem w base v ps ∧ (∀ p ∈ ps, TInts w base w.heap.size p.A p.n p.c p.it.vec) ∧ Apart (ps.map fun p => (p.A, p.n))
theorem OItemsD.plain {w : World} {base : Nat} {v : Value} {xs : List It} (h : OItemsD w base v xs) : OItems w base v xs := by
  obtain ⟨ps, h1, h2, h3, _⟩ := h
  exact ⟨ps, h1, h2, h3⟩
theorem OItemsD.keep {S : Nat → Prop} {w w' : World} {base : Nat} {v : Value} {xs : List It} (h : OItemsD w base v xs) (hc : Chg S w w') (hS : ∀ k, base ≤ k → k < w.heap.size → ¬ S k) : OItemsD w' base v xs := by
  obtain ⟨ps, he, ho, hi, ha⟩ := h
  exact ⟨ps, he, ho.keep hc hS, fun p hp => ((hi p hp).keep hc hS).wide (Nat.le_refl _) hc.size, ha⟩
theorem OItemsD.no {w w' : World} {base : Nat} {v : Value} {xs : List It} (h : OItemsD w base v xs) (hc : Chg No w w') : OItemsD w' base v xs := h.keep hc (fun _ _ _ e => e)
theorem OItemsD.down {w : World} {base base' : Nat} {v : Value} {xs : List It} (h : OItemsD w base v xs) (hb : base' ≤ base) : OItemsD w base' v xs := by
  obtain ⟨ps, he, ho, hi, ha⟩ := h
  exact ⟨ps, he, ho.down hb, fun p hp => (hi p hp).wide hb (Nat.le_refl _), ha⟩
/-- .. between two blocks-/
def OItemsR (w : World) (base hi : Nat) (v : Value) (xs : List It) : Prop := (∀ g, v.ownBlock = some g → g < hi) ∧ ∃ ps : List ItP, ps.map (·.it) = xs ∧ OSl 36 3 cItem w base v ps ∧ (∀ p ∈ ps, TInts w base hi p.A p.n p.c p.it.vec) ∧ Apart (ps.map fun p => (p.A, p.n))
theorem OItemsD.r {w : World} {base : Nat} {v : Value} {xs : List It} (h : OItemsD w base v xs) : OItemsR w base w.heap.size v xs := by
  obtain ⟨ps, h1, h2, h3, h4⟩ := h
  exact ⟨h2.own_lt, ps, h1, h2, h3, h4⟩
theorem OItemsR.keep {S : Nat → Prop} {w w' : World} {base hi : Nat} {v : Value} {xs : List It} (h : OItemsR w base hi v xs) (hc : Chg S w w') (hS : ∀ k, base ≤ k → k < hi → ¬ S k) : OItemsR w' base hi v xs := by
  obtain ⟨hh, ps, he, ho, hi, ha⟩ := h
  exact ⟨hh, ps, he, ho.keepR hh hc hS, fun p hp => (hi p hp).keep hc hS, ha⟩
theorem OItemsR.no {w w' : World} {base hi : Nat} {v : Value} {xs : List It} (h : OItemsR w base hi v xs) (hc : Chg No w w') : OItemsR w' base hi v xs := h.keep hc (fun _ _ _ e => e)
theorem OItemsR.read {w : World} {base hi : Nat} {v : Value} {xs : List It} (h : OItemsR w base hi v xs) : ∃ A c, v = .slice A xs.length c ∧ RItems w base hi A xs.length c xs := by
  obtain ⟨hh, ps, rfl, ho, hi, _⟩ := h
  obtain ⟨A, c, hv, hr⟩ := OSl.read (E := fun b o (p : ItP) => w.cell? ⟨b, o, none⟩ = some (.int .i64 p.it.key) ∧ w.cell? ⟨b, o + 1, none⟩ = some (.slice p.A p.n p.c) ∧ w.cell? ⟨b, o + 2, none⟩ = some (.int .i64 p.it.tags)) ho (fun _ => rfl) (fun b o p hp => ⟨hp 0 _ rfl, hp 1 _ rfl, hp 2 _ rfl⟩)
  refine ⟨A, c, by rw [hv, List.length_map], by rw [List.length_map], by rw [List.length_map]; exact hr.2.1, hr.2.2.1, fun h0 => ?_⟩
  obtain ⟨b, o, hA, hl, _, hx⟩ := hr.2.2.2 (by rwa [List.length_map] at h0)
  refine ⟨b, o, hA, hl, hh b (by rw [hv, hA]; rfl), fun j x hj => ?_⟩
  obtain ⟨p, hp, rfl⟩ := getE?_of_map hj
  have := hx j p hp
  exact ⟨this.1, ⟨p.A, p.n, p.c, this.2.1, (hi p (List.mem_of_getElem? hp)).1⟩, this.2.2⟩
def RetItemsD (xs : List It) (w : World) (e : Ending) (w' : World) : Prop := ∃ v, e = .returned v ∧ OItemsD w' w.heap.size v xs ∧ Chg No w w'
/-- one item more, its vector in a block younger than B, the others' older-/
theorem OItemsD.push {w w' : World} {base B : Nat} {v v' : Value} {ps : List ItP} {xs : List It} {p : ItP} (he : ps.map (·.it) = xs) (ho : OSl 36 3 cItem w base v ps) (hi : ∀ q ∈ ps, TInts w base w.heap.size q.A q.n q.c q.it.vec) (hp : TInts w base w.heap.size p.A p.n p.c p.it.vec)
    (ho' : OSl 36 3 cItem w' base v' (ps ++ [p])) (hg : w.grownBy w' v.ownBlock) (ha : Apart (ps.map fun p => (p.A, p.n))) (h1 : ∀ q ∈ ps, 0 < q.n → ∀ b o, q.A = some ⟨b, o, none⟩ → b < B) (h2 : 0 < p.n → ∀ b o, p.A = some ⟨b, o, none⟩ → B ≤ b) : OItemsD w' base v' (xs ++ [p.it]) := by
  obtain ⟨qs, e1, e2, e3⟩ := OItems.push he ho hi hp ho' hg
  refine ⟨ps ++ [p], by rw [List.map_append, he]; rfl, ho', fun q hq => ?_, ?_⟩
  · have hty := own_typed ho
    rcases List.mem_append.1 hq with hq | hq
    · exact (hi q hq).grown hg hty (by decide) hg.size
    · rw [List.mem_singleton.1 hq]
      exact hp.grown hg hty (by decide) hg.size
  · rw [List.map_append]
    refine Apart.push ha (fun q hq => ?_) h2
    obtain ⟨r, hr, rfl⟩ := List.mem_map.1 hq
    exact h1 r hr
theorem OItemsD.lt {w : World} {base : Nat} {ps : List ItP} (hi : ∀ q ∈ ps, TInts w base w.heap.size q.A q.n q.c q.it.vec) : ∀ q ∈ ps, 0 < q.n → ∀ b o, q.A = some ⟨b, o, none⟩ → b < w.heap.size := fun q hq h0 b o hA => by
  obtain ⟨b', o', hA', _, hh, _⟩ := (hi q hq).1.2.2.2 h0
  rw [hA] at hA'; injection hA' with hA'; injection hA' with e _ _; omega
theorem tints_ge {w : World} {lo hi n c : Nat} {A : Option Addr} {xs : List Int} (h : TInts w lo hi A n c xs) : 0 < n → ∀ b o, A = some ⟨b, o, none⟩ → lo ≤ b := fun h0 b o hA => by
  obtain ⟨b', o', hA', hl, _, _⟩ := h.1.2.2.2 h0
  rw [hA] at hA'; injection hA' with hA'; injection hA' with e _ _; omega
/-- what marking costs-/
def costI : List It → Int
  | [] => 0
  | x :: t => 2 + (x.vec.length : Int) + costI t
/-- marked items-/
def markedI : Int → List It → List It
  | _, [] => []
  | k, x :: t => ⟨k, cntL (k + 1) x.vec.length, k + 1 + (x.vec.length : Int)⟩ :: markedI (k + (2 + (x.vec.length : Int))) t
theorem costI_nonneg : ∀ xs, 0 ≤ costI xs
  | [] => Int.le_refl _
  | x :: t => by have := costI_nonneg t; unfold costI; omega
theorem costI_cons (x : It) (t : List It) : costI (x :: t) = 2 + (x.vec.length : Int) + costI t := rfl
theorem markedI_cons (x : It) (t : List It) (k : Int) : markedI k (x :: t) = ⟨k, cntL (k + 1) x.vec.length, k + 1 + (x.vec.length : Int)⟩ :: markedI (k + (2 + (x.vec.length : Int))) t := rfl
theorem costI_app : ∀ (xs ys : List It), costI (xs ++ ys) = costI xs + costI ys
  | [], ys => by simp [costI]
  | x :: t, ys => by rw [List.cons_append, costI_cons, costI_cons, costI_app t ys]; omega
theorem costI_snoc {xs : List It} {k : Nat} {x : It} (h : xs[k]? = some x) : costI (xs.take (k + 1)) = costI (xs.take k) + (2 + (x.vec.length : Int)) := by
  rw [take_snoc h, costI_app]; simp [costI]
theorem markedI_app : ∀ (xs ys : List It) (k : Int), markedI k (xs ++ ys) = markedI k xs ++ markedI (k + costI xs) ys
  | [], ys, k => by simp [markedI, costI]
  | x :: t, ys, k => by
    rw [List.cons_append, markedI_cons, markedI_cons, costI_cons, markedI_app t ys, List.cons_append, ← Int.add_assoc k (2 + (x.vec.length : Int))]
theorem markedI_len : ∀ (xs : List It) (k : Int), (markedI k xs).length = xs.length
  | [], _ => rfl
  | x :: t, k => by unfold markedI; rw [List.length_cons, List.length_cons, markedI_len t]
theorem costI_le {xs : List It} {m : Nat} (hm : ∀ x ∈ xs, x.vec.length ≤ m) : costI xs ≤ (xs.length : Int) * (2 + (m : Int)) := by
  induction xs with
  | nil => simp [costI]
  | cons x t ih =>
    have h1 := ih (fun y hy => hm y (by simp [hy]))
    have h2 := hm x (by simp)
    unfold costI
    rw [List.length_cons, show (((t.length + 1 : Nat) : Int) * (2 + (m : Int))) = (t.length : Int) * (2 + (m : Int)) + (2 + (m : Int)) from by rw [Int.natCast_add, Int.add_mul]; simp]
    omega
/-- the item under the mark-/
def markIt (k : Int) (x : It) : It := ⟨k, cntL (k + 1) x.vec.length, k + 1 + (x.vec.length : Int)⟩
theorem markedI_at {xs : List It} {j : Nat} {x : It} (k : Int) (h : xs[j]? = some x) : (markedI k xs)[j]? = some (markIt (k + costI (xs.take j)) x) := by
  have hj := (List.getElem?_eq_some_iff.1 h).1
  have e : xs = xs.take j ++ x :: xs.drop (j + 1) := by
    conv => lhs; rw [← List.take_append_drop j xs, List.drop_eq_getElem_cons hj]
    rw [(List.getElem?_eq_some_iff.1 h).2]
  have hl : (markedI k (xs.take j)).length = j := by rw [markedI_len, List.length_take]; omega
  conv => lhs; rw [e]
  rw [markedI_app, List.getElem?_append_right (by omega), hl, Nat.sub_self]
  rfl
theorem mark_next {xs : List It} {j : Nat} {x : It} (k : Int) (h : xs[j]? = some x) : (markedI k (xs.take j) ++ xs.drop j)[j]? = some x := by
  have hj := (List.getElem?_eq_some_iff.1 h).1
  have hl : (markedI k (xs.take j)).length = j := by rw [markedI_len, List.length_take]; omega
  rw [List.getElem?_append_right (by omega), hl, Nat.sub_self, List.drop_eq_getElem_cons hj, (List.getElem?_eq_some_iff.1 h).2]
  rfl
theorem mark_set {xs : List It} {j : Nat} {x : It} (k : Int) (h : xs[j]? = some x) : (markedI k (xs.take j) ++ xs.drop j).set j (markIt (k + costI (xs.take j)) x) = markedI k (xs.take (j + 1)) ++ xs.drop (j + 1) := by
  have hj := (List.getElem?_eq_some_iff.1 h).1
  have hl : (markedI k (xs.take j)).length = j := by rw [markedI_len, List.length_take]; omega
  rw [List.set_append, if_neg (by omega), hl, Nat.sub_self, List.drop_eq_getElem_cons hj, List.set_cons_zero, take_snoc h, markedI_app, List.append_assoc]
  rfl
/-- a row and where it lies-/
structure RwP where
  row : List Int
  A : Option Addr
  n : Nat
  c : Nat
def cRow (p : RwP) : List Value := [.slice p.A p.n p.c]
theorem infoRow : (Try.prog.info? 27).map (fun i => (i.zero, i.size, i.bytes)) = some (some (.slice none 0 0), 1, 24) := by kernel_rfl
theorem oneRow : ∀ x, ∀ u ∈ cRow x, u.oneCell' = true := by intro x u hu; simp [cRow] at hu; subst hu; rfl
/-- a slice of rows of the call's own, the rows too, no two in one block-/
def ORows (w : World) (base : Nat) (v : Value) (xs : List (List Int)) : Prop := ∃ ps : List RwP, ps.map (·.row) = xs ∧ OSl 27 1 cRow w base v ps ∧ (∀ p ∈ ps, TInts w base w.heap.size p.A p.n p.c p.row) ∧ Apart (ps.map fun p => (p.A, p.n))
theorem ORows.read {w : World} {base : Nat} {v : Value} {xs : List (List Int)} (h : ORows w base v xs) : ∃ A c, v = .slice A xs.length c ∧ RRows w base w.heap.size A xs.length c xs := by
  obtain ⟨ps, rfl, ho, hi, _⟩ := h
  obtain ⟨A, c, hv, hr⟩ := OSl.read (E := fun b o (p : RwP) => w.cell? ⟨b, o, none⟩ = some (.slice p.A p.n p.c)) ho (fun _ => rfl) (fun b o p hp => by have := hp 0 _ rfl; simpa using this)
  refine ⟨A, c, by rw [hv, List.length_map], by rw [List.length_map], by rw [List.length_map]; exact hr.2.1, hr.2.2.1, fun h0 => ?_⟩
  obtain ⟨b, o, hA, hl, hh, hx⟩ := hr.2.2.2 (by rwa [List.length_map] at h0)
  refine ⟨b, o, hA, hl, hh, fun j x hj => ?_⟩
  obtain ⟨p, hp, rfl⟩ := getE?_of_map hj
  exact ⟨p.A, p.n, p.c, hx j p hp, (hi p (List.mem_of_getElem? hp)).1⟩
theorem ORows.keep {S : Nat → Prop} {w w' : World} {base : Nat} {v : Value} {xs : List (List Int)} (h : ORows w base v xs) (hc : Chg S w w') (hS : ∀ k, base ≤ k → k < w.heap.size → ¬ S k) : ORows w' base v xs := by
  obtain ⟨ps, he, ho, hi, ha⟩ := h
  exact ⟨ps, he, ho.keep hc hS, fun p hp => ((hi p hp).keep hc hS).wide (Nat.le_refl _) hc.size, ha⟩
theorem ORows.no {w w' : World} {base : Nat} {v : Value} {xs : List (List Int)} (h : ORows w base v xs) (hc : Chg No w w') : ORows w' base v xs := h.keep hc (fun _ _ _ e => e)
theorem ORows.down {w : World} {base base' : Nat} {v : Value} {xs : List (List Int)} (h : ORows w base v xs) (hb : base' ≤ base) : ORows w base' v xs := by
  obtain ⟨ps, he, ho, hi, ha⟩ := h
  exact ⟨ps, he, ho.down hb, fun p hp => (hi p hp).wide hb (Nat.le_refl _), ha⟩
theorem ORows.nil_ (w : World) (base : Nat) : ORows w base (.slice none 0 0) [] := ⟨[], rfl, OSl.nil_ _, (fun p hp => by cases hp), List.Pairwise.nil⟩
/-- .. between two blocks-/
def ORowsR (w : World) (base hi : Nat) (v : Value) (xs : List (List Int)) : Prop := (∀ g, v.ownBlock = some g → g < hi) ∧ ∃ ps : List RwP, ps.map (·.row) = xs ∧ OSl 27 1 cRow w base v ps ∧ (∀ p ∈ ps, TInts w base hi p.A p.n p.c p.row) ∧ Apart (ps.map fun p => (p.A, p.n))
theorem ORows.r {w : World} {base : Nat} {v : Value} {xs : List (List Int)} (h : ORows w base v xs) : ORowsR w base w.heap.size v xs := by
  obtain ⟨ps, h1, h2, h3, h4⟩ := h
  exact ⟨h2.own_lt, ps, h1, h2, h3, h4⟩
theorem ORowsR.keep {S : Nat → Prop} {w w' : World} {base hi : Nat} {v : Value} {xs : List (List Int)} (h : ORowsR w base hi v xs) (hc : Chg S w w') (hS : ∀ k, base ≤ k → k < hi → ¬ S k) : ORowsR w' base hi v xs := by
  obtain ⟨hh, ps, he, ho, hi, ha⟩ := h
  exact ⟨hh, ps, he, ho.keepR hh hc hS, fun p hp => (hi p hp).keep hc hS, ha⟩
theorem ORowsR.no {w w' : World} {base hi : Nat} {v : Value} {xs : List (List Int)} (h : ORowsR w base hi v xs) (hc : Chg No w w') : ORowsR w' base hi v xs := h.keep hc (fun _ _ _ e => e)
theorem ORowsR.read {w : World} {base hi : Nat} {v : Value} {xs : List (List Int)} (h : ORowsR w base hi v xs) : ∃ A c, v = .slice A xs.length c ∧ RRows w base hi A xs.length c xs := by
  obtain ⟨hh, ps, rfl, ho, hi, _⟩ := h
  obtain ⟨A, c, hv, hr⟩ := OSl.read (E := fun b o (p : RwP) => w.cell? ⟨b, o, none⟩ = some (.slice p.A p.n p.c)) ho (fun _ => rfl) (fun b o p hp => by have := hp 0 _ rfl; simpa using this)
  refine ⟨A, c, by rw [hv, List.length_map], by rw [List.length_map], by rw [List.length_map]; exact hr.2.1, hr.2.2.1, fun h0 => ?_⟩
  obtain ⟨b, o, hA, hl, _, hx⟩ := hr.2.2.2 (by rwa [List.length_map] at h0)
  refine ⟨b, o, hA, hl, hh b (by rw [hv, hA]; rfl), fun j x hj => ?_⟩
  obtain ⟨p, hp, rfl⟩ := getE?_of_map hj
  exact ⟨p.A, p.n, p.c, hx j p hp, (hi p (List.mem_of_getElem? hp)).1⟩
def RetRows (xs : List (List Int)) (w : World) (e : Ending) (w' : World) : Prop := ∃ v, e = .returned v ∧ ORows w' w.heap.size v xs ∧ Chg No w w'
/-- one row more, in a block younger than B, the others' older-/
theorem ORows.push {w w' : World} {base B : Nat} {v v' : Value} {ps : List RwP} {xs : List (List Int)} {p : RwP} (he : ps.map (·.row) = xs) (ho : OSl 27 1 cRow w base v ps) (hi : ∀ q ∈ ps, TInts w base w.heap.size q.A q.n q.c q.row) (hp : TInts w base w.heap.size p.A p.n p.c p.row)
    (ho' : OSl 27 1 cRow w' base v' (ps ++ [p])) (hg : w.grownBy w' v.ownBlock) (ha : Apart (ps.map fun p => (p.A, p.n))) (h1 : ∀ q ∈ ps, 0 < q.n → ∀ b o, q.A = some ⟨b, o, none⟩ → b < B) (h2 : 0 < p.n → ∀ b o, p.A = some ⟨b, o, none⟩ → B ≤ b) : ORows w' base v' (xs ++ [p.row]) := by
  refine ⟨ps ++ [p], by rw [List.map_append, he]; rfl, ho', fun q hq => ?_, ?_⟩
  · have hty := own_typed ho
    rcases List.mem_append.1 hq with hq | hq
    · exact (hi q hq).grown hg hty (by decide) hg.size
    · rw [List.mem_singleton.1 hq]
      exact hp.grown hg hty (by decide) hg.size
  · rw [List.map_append]
    refine Apart.push ha (fun q hq => ?_) h2
    obtain ⟨r, hr, rfl⟩ := List.mem_map.1 hq
    exact h1 r hr
theorem ORows.lt {w : World} {base : Nat} {ps : List RwP} (hi : ∀ q ∈ ps, TInts w base w.heap.size q.A q.n q.c q.row) : ∀ q ∈ ps, 0 < q.n → ∀ b o, q.A = some ⟨b, o, none⟩ → b < w.heap.size := fun q hq h0 b o hA => by
  obtain ⟨b', o', hA', _, hh, _⟩ := (hi q hq).1.2.2.2 h0
  rw [hA] at hA'; injection hA' with hA'; injection hA' with e _ _; omega
def costR : List (List Int) → Int
  | [] => 0
  | x :: t => (x.length : Int) + costR t
def markedR : Int → List (List Int) → List (List Int)
  | _, [] => []
  | k, x :: t => cntL k x.length :: markedR (k + (x.length : Int)) t
theorem costR_nonneg : ∀ xs, 0 ≤ costR xs
  | [] => Int.le_refl _
  | x :: t => by have := costR_nonneg t; unfold costR; omega
theorem costR_cons (x : List Int) (t : List (List Int)) : costR (x :: t) = (x.length : Int) + costR t := rfl
theorem markedR_cons (x : List Int) (t : List (List Int)) (k : Int) : markedR k (x :: t) = cntL k x.length :: markedR (k + (x.length : Int)) t := rfl
theorem costR_app : ∀ (xs ys : List (List Int)), costR (xs ++ ys) = costR xs + costR ys
  | [], ys => by simp [costR]
  | x :: t, ys => by rw [List.cons_append, costR_cons, costR_cons, costR_app t ys]; omega
theorem costR_snoc {xs : List (List Int)} {k : Nat} {x : List Int} (h : xs[k]? = some x) : costR (xs.take (k + 1)) = costR (xs.take k) + (x.length : Int) := by
  rw [take_snoc h, costR_app]; simp [costR]
theorem markedR_app : ∀ (xs ys : List (List Int)) (k : Int), markedR k (xs ++ ys) = markedR k xs ++ markedR (k + costR xs) ys
  | [], ys, k => by simp [markedR, costR]
  | x :: t, ys, k => by
    rw [List.cons_append, markedR_cons, markedR_cons, costR_cons, markedR_app t ys, List.cons_append, ← Int.add_assoc k (x.length : Int)]
theorem markedR_len : ∀ (xs : List (List Int)) (k : Int), (markedR k xs).length = xs.length
  | [], _ => rfl
  | x :: t, k => by unfold markedR; rw [List.length_cons, List.length_cons, markedR_len t]
theorem costR_le {xs : List (List Int)} {m : Nat} (hm : ∀ x ∈ xs, x.length ≤ m) : costR xs ≤ (xs.length : Int) * (m : Int) := by
  induction xs with
  | nil => simp [costR]
  | cons x t ih =>
    have h1 := ih (fun y hy => hm y (by simp [hy]))
    have h2 := hm x (by simp)
    unfold costR
    rw [List.length_cons, show (((t.length + 1 : Nat) : Int) * (m : Int)) = (t.length : Int) * (m : Int) + (m : Int) from by rw [Int.natCast_add, Int.add_mul]; simp]
    omega
theorem markedR_at {xs : List (List Int)} {j : Nat} {x : List Int} (k : Int) (h : xs[j]? = some x) : (markedR k xs)[j]? = some (cntL (k + costR (xs.take j)) x.length) := by
  have hj := (List.getElem?_eq_some_iff.1 h).1
  have e : xs = xs.take j ++ x :: xs.drop (j + 1) := by
    conv => lhs; rw [← List.take_append_drop j xs, List.drop_eq_getElem_cons hj]
    rw [(List.getElem?_eq_some_iff.1 h).2]
  have hl : (markedR k (xs.take j)).length = j := by rw [markedR_len, List.length_take]; omega
  conv => lhs; rw [e]
  rw [markedR_app, List.getElem?_append_right (by omega), hl, Nat.sub_self]
  rfl
theorem markR_next {xs : List (List Int)} {j : Nat} {x : List Int} (k : Int) (h : xs[j]? = some x) : (markedR k (xs.take j) ++ xs.drop j)[j]? = some x := by
  have hj := (List.getElem?_eq_some_iff.1 h).1
  have hl : (markedR k (xs.take j)).length = j := by rw [markedR_len, List.length_take]; omega
  rw [List.getElem?_append_right (by omega), hl, Nat.sub_self, List.drop_eq_getElem_cons hj, (List.getElem?_eq_some_iff.1 h).2]
  rfl
theorem markR_set {xs : List (List Int)} {j : Nat} {x : List Int} (k : Int) (h : xs[j]? = some x) : (markedR k (xs.take j) ++ xs.drop j).set j (cntL (k + costR (xs.take j)) x.length) = markedR k (xs.take (j + 1)) ++ xs.drop (j + 1) := by
  have hj := (List.getElem?_eq_some_iff.1 h).1
  have hl : (markedR k (xs.take j)).length = j := by rw [markedR_len, List.length_take]; omega
  rw [List.set_append, if_neg (by omega), hl, Nat.sub_self, List.drop_eq_getElem_cons hj, List.set_cons_zero, take_snoc h, markedR_app, List.append_assoc]
  rfl
/-- a row of a slice of rows has been marked-/
theorem ORowsR.mark {w w' : World} {base hi : Nat} {v : Value} {ps : List RwP} {j : Nat} {p : RwP} {ys : List Int} (hj : ps[j]? = some p) (ho : OSl 27 1 cRow w base v ps) (hh : ∀ g, v.ownBlock = some g → g < hi) (hi9 : ∀ q ∈ ps, TInts w base hi q.A q.n q.c q.row) (ha : Apart (ps.map fun p => (p.A, p.n)))
    (ht : TInts w' base hi p.A p.n p.c ys) (hc : Chg (Blk p.n p.A) w w') : ORowsR w' base hi v ((ps.map (·.row)).set j ys) ∧ Chg (fun k => base ≤ k ∧ k < hi) w w' := by
  have hp := hi9 p (List.mem_of_getElem? hj)
  refine ⟨⟨hh, ps.set j ⟨ys, p.A, p.n, p.c⟩, by rw [List.map_set], ?_, fun q hq => ?_, ?_⟩, hp.blk hc (fun k h1 h2 => ⟨h1, h2⟩)⟩
  · have h1 := ho.ints hp hc (by decide)
    unfold OSl at h1 ⊢
    rw [List.length_set]
    have e : (ps.set j ⟨ys, p.A, p.n, p.c⟩).flatMap cRow = ps.flatMap cRow := by
      rw [List.flatMap_def, List.flatMap_def, List.map_set]
      congr 1
      apply List.ext_getElem?
      intro i
      by_cases hij : j = i
      · subst hij
        rw [List.getElem?_set_self (by rw [List.length_map]; exact (List.getElem?_eq_some_iff.1 hj).1), List.getElem?_map, hj]; rfl
      · rw [List.getElem?_set_ne hij]
    rw [e]; exact h1
  · obtain ⟨i, hqi⟩ := List.getElem?_of_mem hq
    rcases mem_set_ne hqi with ⟨_, rfl⟩ | ⟨hij, hqi⟩
    · exact ht
    · exact (hi9 q (List.mem_of_getElem? hqi)).apart hc (fun h0 h1 b o b' o' h2 h3 => apart_at ha (i := i) (j := j) (p := (q.A, q.n)) (q := (p.A, p.n)) (by rw [List.getElem?_map, hqi]; rfl) (by rw [List.getElem?_map, hj]; rfl) hij h0 h1 h2 h3)
  · rw [List.map_set]
    have e : (ps.map fun p => (p.A, p.n)).set j (p.A, p.n) = ps.map fun p => (p.A, p.n) := by
      apply List.ext_getElem?
      intro i
      by_cases hij : j = i
      · subst hij
        rw [List.getElem?_set_self (by rw [List.length_map]; exact (List.getElem?_eq_some_iff.1 hj).1), List.getElem?_map, hj]; rfl
      · rw [List.getElem?_set_ne hij]
    rw [e]; exact ha
def cntH (k : Int) (n : Nat) : List (Int × Int) := (List.range n).map fun (i : Nat) => (k + 2 * (i : Int), k + 2 * (i : Int) + 1)
theorem cntH_len (k : Int) (n : Nat) : (cntH k n).length = n := by unfold cntH; simp
theorem cntH_at {k : Int} {n j : Nat} (h : j < n) : (cntH k n)[j]? = some (k + 2 * (j : Int), k + 2 * (j : Int) + 1) := by unfold cntH; simp [h]
theorem cntH_snoc (k : Int) (n : Nat) : cntH k (n + 1) = cntH k n ++ [(k + 2 * (n : Int), k + 2 * (n : Int) + 1)] := by unfold cntH; rw [List.range_succ]; simp
theorem cntH_set {k : Int} {j : Nat} {xs : List (Int × Int)} (h : j < xs.length) : (cntH k j ++ xs.drop j).set j (k + 2 * (j : Int), k + 2 * (j : Int) + 1) = cntH k (j + 1) ++ xs.drop (j + 1) := by
  rw [List.set_append, if_neg (by rw [cntH_len]; omega), cntH_len, Nat.sub_self, List.drop_eq_getElem_cons h, List.set_cons_zero, cntH_snoc, List.append_assoc]
  rfl
theorem cntH_next {k : Int} {j : Nat} {xs : List (Int × Int)} (h : j < xs.length) : (cntH k j ++ xs.drop j)[j]? = some (xs[j]'h) := by
  rw [List.getElem?_append_right (by rw [cntH_len]; exact Nat.le_refl _), cntH_len, Nat.sub_self, List.drop_eq_getElem_cons h]
  rfl
end Go.Proofs.Ytifdcdpdihfbjaa
