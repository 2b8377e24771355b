/- Slices of hits, ints, items, rows that a call of this program made. -/
import Derived.Test.YtifdcdpdihfbjaaProg
import Derived.Test.YtifdcdpdihfbjaaOwn
import Derived.Test.YtifdcdpdihfbjaaPVec
namespace Go.Proofs.Ytifdcdpdihfbjaa
open Go.RowKit
set_option linter.unusedVariables false
def cInt (x : Int) : List Value := [.int .i64 x]
theorem infoInt : (Try.prog.info? 3).map (fun i => (i.zero, i.size, i.bytes)) = some (some (.int .i64 0), 1, 8) := by kernel_rfl
def OInts (w : World) (base : Nat) (v : Value) (xs : List Int) : Prop := OSl 3 1 cInt w base v xs
theorem OInts.read {w : World} {base : Nat} {v : Value} {xs : List Int} (h : OInts w base v xs) : ∃ A c, v = .slice A xs.length c ∧ RInts w base w.heap.size A xs.length c xs :=
  OSl.read h (fun _ => rfl) (fun b o x hx => by have := hx 0 _ rfl; simpa [EInt] using this)
theorem OInts.no {w w' : World} {base : Nat} {v : Value} {xs : List Int} (h : OInts w base v xs) (hc : Chg No w w') : OInts w' base v xs := OSl.no h hc
theorem src_ints {w : World} {lo hi : Nat} {A : Option Addr} {n c : Nat} {xs : List Int} (h : RInts w lo hi A n c xs) : Src 1 cInt w A n xs :=
  Src.of h (fun b o x (he : w.cell? _ = _) i u hu => by
    match i, hu with
    | 0, hu => simp [cInt] at hu; subst hu; exact he)
def RetInts (xs : List Int) (w : World) (e : Ending) (w' : World) : Prop := ∃ v, e = .returned v ∧ OInts w' w.heap.size v xs ∧ Chg No w w'
def cHit (h : Int × Int) : List Value := [.int .i64 h.1, .int .i64 h.2]
theorem infoHit : (Try.prog.info? 39).map (fun i => (i.zero, i.size, i.bytes)) = some (some (.agg #[.int .i64 0, .int .i64 0]), 2, 16) := by kernel_rfl
def OHits (w : World) (base : Nat) (v : Value) (xs : List (Int × Int)) : Prop := OSl 39 2 cHit w base v xs
theorem OHits.read {w : World} {base : Nat} {v : Value} {xs : List (Int × Int)} (h : OHits w base v xs) : ∃ A c, v = .slice A xs.length c ∧ RHits w base w.heap.size A xs.length c xs :=
  OSl.read h (fun _ => rfl) (fun b o x hx => ⟨hx 0 _ rfl, hx 1 _ rfl⟩)
theorem OHits.no {w w' : World} {base : Nat} {v : Value} {xs : List (Int × Int)} (h : OHits w base v xs) (hc : Chg No w w') : OHits w' base v xs := OSl.no h hc
theorem src_hits {w : World} {lo hi : Nat} {A : Option Addr} {n c : Nat} {xs : List (Int × Int)} (h : RHits w lo hi A n c xs) : Src 2 cHit w A n xs :=
  Src.of h (fun b o x (he : _ ∧ _) i u hu => by
    match i, hu with
    | 0, hu => simp [cHit] at hu; subst hu; exact he.1
    | 1, hu => simp [cHit] at hu; subst hu; exact he.2)
theorem oneHit : ∀ x, ∀ u ∈ cHit x, u.oneCell' = true := by intro x u hu; simp [cHit] at hu; rcases hu with rfl | rfl <;> rfl
theorem madeHits (n : Nat) : (madeCells (Value.agg #[.int .i64 0, .int .i64 0]).cells (n * 2)).toList = (List.replicate n ((0 : Int), (0 : Int))).flatMap cHit := by
  show (madeCells #[.int .i64 0, .int .i64 0] (n * 2)).toList = _
  rw [madeCells2]
  induction n with
  | zero => rfl
  | succ n ih => rw [List.replicate_succ, List.replicate_succ, List.flatMap_cons, List.flatMap_cons, ih]; rfl
/-- a slice of hits of the call's own comes back -/
def RetHits (xs : List (Int × Int)) (w : World) (e : Ending) (w' : World) : Prop := ∃ v, e = .returned v ∧ OHits w' w.heap.size v xs ∧ Chg No w w'
/-- ints in a block of ints-/
def TInts (w : World) (lo hi : Nat) (A : Option Addr) (n c : Nat) (xs : List Int) : Prop := RInts w lo hi A n c xs ∧ (0 < n → ∃ b o cs, A = some ⟨b, o, none⟩ ∧ w.heap[b]? = some (.cells cs 3 (0, 0)))
theorem OInts.typed {w : World} {base : Nat} {v : Value} {xs : List Int} (h : OInts w base v xs) : ∃ A c, v = .slice A xs.length c ∧ TInts w base w.heap.size A xs.length c xs := by
  obtain ⟨A, c, hv, hr⟩ := h.read
  refine ⟨A, c, hv, hr, fun h0 => ?_⟩
  rcases h.2 with ⟨_, hn⟩ | ⟨g, cap, cur, hv', _, hh, _⟩
  · omega
  · rw [hv] at hv'
    injection hv' with h1 _ _
    exact ⟨g, 0, cur, h1, hh⟩
theorem TInts.grown {w w' : World} {lo hi hi' : Nat} {A : Option Addr} {n c : Nat} {xs : List Int} {v : Value} {T : Nat} (h : TInts w lo hi A n c xs) (hg : w.grownBy w' v.ownBlock) (ho : ∀ k, v.ownBlock = some k → ∃ cs fr, w.heap[k]? = some (.cells cs T fr)) (hT : T ≠ 3) (hh : hi ≤ hi') : TInts w' lo hi' A n c xs := by
  have hne : ∀ b o cs fr, A = some ⟨b, o, none⟩ → w.heap[b]? = some (.cells cs 3 fr) → w'.heap[b]? = w.heap[b]? := fun b o cs fr _ hb => by
    refine hg.block b (Array.getElem?_eq_some_iff.1 hb).1 (fun e => ?_)
    obtain ⟨cs', fr', h'⟩ := ho b e.symm
    rw [hb] at h'
    injection h' with h'
    injection h' with _ h2 _
    exact hT h2.symm
  refine ⟨⟨h.1.1, h.1.2.1, h.1.2.2.1, fun h0 => ?_⟩, fun h0 => ?_⟩
  · obtain ⟨b, o, cs, hA, hb⟩ := h.2 h0
    obtain ⟨b', o', hA', hl, hhi, hx⟩ := h.1.2.2.2 h0
    rw [hA] at hA'
    injection hA' with hA'
    injection hA' with e1 e2 _
    subst e1 e2
    exact ⟨b, o, hA, hl, by omega, fun j x hj => (World.cell?_of_block (hne b o cs _ hA hb)).trans (hx j x hj)⟩
  · obtain ⟨b, o, cs, hA, hb⟩ := h.2 h0
    exact ⟨b, o, cs, hA, (hne b o cs _ hA hb).trans hb⟩
theorem TInts.keep {S : Nat → Prop} {w w' : World} {lo hi : Nat} {A : Option Addr} {n c : Nat} {xs : List Int} (h : TInts w lo hi A n c xs) (hc : Chg S w w') (hs : ∀ k, lo ≤ k → k < hi → ¬ S k) : TInts w' lo hi A n c xs := by
  refine ⟨h.1.keep hc hs, fun h0 => ?_⟩
  obtain ⟨b, o, cs, hA, hb⟩ := h.2 h0
  obtain ⟨b', o', hA', hl, hhi, _⟩ := h.1.2.2.2 h0
  rw [hA] at hA'
  injection hA' with hA'
  injection hA' with e1 e2 _
  subst e1
  exact ⟨b, o, cs, hA, (hc.block b (Array.getElem?_eq_some_iff.1 hb).1 (hs b hl hhi)).trans hb⟩
theorem TInts.wide {w : World} {lo hi lo' hi' : Nat} {A : Option Addr} {n c : Nat} {xs : List Int} (h : TInts w lo hi A n c xs) (h1 : lo' ≤ lo) (h2 : hi ≤ hi') : TInts w lo' hi' A n c xs := ⟨h.1.wide h1 h2, h.2⟩
/-- an item and where its vector lies-/
structure ItP where
  it : It
  A : Option Addr
  n : Nat
  c : Nat
def cItem (p : ItP) : List Value := [.int .i64 p.it.key, .slice p.A p.n p.c, .int .i64 p.it.tags]
theorem infoItem : (Try.prog.info? 36).map (fun i => (i.zero, i.size, i.bytes)) = some (some (.agg #[.int .i64 0, .slice none 0 0, .int .i64 0]), 3, 40) := by kernel_rfl
theorem oneItem : ∀ x, ∀ u ∈ cItem x, u.oneCell' = true := by intro x u hu; simp [cItem] at hu; rcases hu with rfl | rfl | rfl <;> rfl
/-- a slice of items of the call's own, their vectors too-/
def OItems (w : World) (base : Nat) (v : Value) (xs : List It) : Prop := ∃ ps : List ItP, ps.map (·.it) = xs ∧ OSl 36 3 cItem w base v ps ∧ ∀ p ∈ ps, TInts w base w.heap.size p.A p.n p.c p.it.vec
theorem OItems.read {w : World} {base : Nat} {v : Value} {xs : List It} (h : OItems w base v xs) : ∃ A c, v = .slice A xs.length c ∧ RItems w base w.heap.size A xs.length c xs := by
  obtain ⟨ps, rfl, ho, hi⟩ := h
  obtain ⟨A, c, hv, hr⟩ := OSl.read (E := fun b o (p : ItP) => w.cell? ⟨b, o, none⟩ = some (.int .i64 p.it.key) ∧ w.cell? ⟨b, o + 1, none⟩ = some (.slice p.A p.n p.c) ∧ w.cell? ⟨b, o + 2, none⟩ = some (.int .i64 p.it.tags)) ho (fun _ => rfl) (fun b o p hp => ⟨hp 0 _ rfl, hp 1 _ rfl, hp 2 _ rfl⟩)
  refine ⟨A, c, by rw [hv, List.length_map], by rw [List.length_map], by rw [List.length_map]; exact hr.2.1, hr.2.2.1, fun h0 => ?_⟩
  obtain ⟨b, o, hA, hl, hh, hx⟩ := hr.2.2.2 (by rwa [List.length_map] at h0)
  refine ⟨b, o, hA, hl, hh, fun j x hj => ?_⟩
  rw [List.getElem?_map] at hj
  cases hp : ps[j]? with
  | none => rw [hp] at hj; cases hj
  | some p =>
    rw [hp] at hj
    injection hj with hj
    subst hj
    have := hx j p hp
    exact ⟨this.1, ⟨p.A, p.n, p.c, this.2.1, (hi p (List.mem_of_getElem? hp)).1⟩, this.2.2⟩
theorem OItems.keep {S : Nat → Prop} {w w' : World} {base : Nat} {v : Value} {xs : List It} (h : OItems w base v xs) (hc : Chg S w w') (hS : ∀ k, base ≤ k → k < w.heap.size → ¬ S k) : OItems w' base v xs := by
  obtain ⟨ps, he, ho, hi⟩ := h
  exact ⟨ps, he, ho.keep hc hS, fun p hp => ((hi p hp).keep hc hS).wide (Nat.le_refl _) hc.size⟩
theorem OItems.no {w w' : World} {base : Nat} {v : Value} {xs : List It} (h : OItems w base v xs) (hc : Chg No w w') : OItems w' base v xs := h.keep hc (fun _ _ _ e => e)
theorem own_typed {α : Type} {T sz : Nat} {enc : α → List Value} {w : World} {base : Nat} {v : Value} {xs : List α} (h : OSl T sz enc w base v xs) : ∀ k, v.ownBlock = some k → ∃ cs fr, w.heap[k]? = some (.cells cs T fr) := by
  intro k hk
  rcases h.2 with ⟨hv, _⟩ | ⟨g, cap, cur, hv, _, hh, _⟩
  · subst hv; cases hk
  · subst hv; injection hk with hk; subst hk; exact ⟨cur, _, hh⟩
/-- one item more-/
theorem OItems.push {w w' : World} {base : Nat} {v v' : Value} {ps : List ItP} {xs : List It} {p : ItP} (he : ps.map (·.it) = xs) (ho : OSl 36 3 cItem w base v ps) (hi : ∀ q ∈ ps, TInts w base w.heap.size q.A q.n q.c q.it.vec) (hp : TInts w base w.heap.size p.A p.n p.c p.it.vec)
    (ho' : OSl 36 3 cItem w' base v' (ps ++ [p])) (hg : w.grownBy w' v.ownBlock) : OItems w' base v' (xs ++ [p.it]) := by
  refine ⟨ps ++ [p], by rw [List.map_append, he]; rfl, ho', fun q hq => ?_⟩
  have hty := own_typed ho
  rcases List.mem_append.1 hq with hq | hq
  · exact (hi q hq).grown hg hty (by decide) hg.size
  · rw [List.mem_singleton.1 hq]
    exact hp.grown hg hty (by decide) hg.size
theorem OItems.down {w : World} {base base' : Nat} {v : Value} {xs : List It} (h : OItems w base v xs) (hb : base' ≤ base) : OItems w base' v xs := by
  obtain ⟨ps, he, ho, hi⟩ := h
  exact ⟨ps, he, ho.down hb, fun p hp => (hi p hp).wide hb (Nat.le_refl _)⟩
def RetItems (xs : List It) (w : World) (e : Ending) (w' : World) : Prop := ∃ v, e = .returned v ∧ OItems w' w.heap.size v xs ∧ Chg No w w'
theorem oneInt : ∀ x, ∀ u ∈ cInt x, u.oneCell' = true := by intro x u hu; simp [cInt] at hu; subst hu; rfl
end Go.Proofs.Ytifdcdpdihfbjaa
