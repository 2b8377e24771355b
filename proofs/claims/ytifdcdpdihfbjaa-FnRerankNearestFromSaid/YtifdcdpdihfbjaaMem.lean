/- The words in which the contracts of this seat speak of memory: what a call may change, and slices that read as lists. No program is named here. -/
import Derived.WalkKit
import Derived.WalkSpells
import Derived.WalkLawsBesides
import Derived.Deep.QuietTactic
import Derived.BigQuiet
namespace Go.Proofs.Ytifdcdpdihfbjaa
open Go.RowKit
set_option linter.unusedVariables false

theorem hid {p : Prop} (h : p) : Hid p := h

/-- What a call may change of the blocks that were there: those of S alone. -/
structure Chg (S : Nat → Prop) (w w' : World) : Prop where
  os : w'.os = w.os
  tape : w'.tape = w.tape
  output : w'.output = w.output
  size : w.heap.size ≤ w'.heap.size
  block : ∀ k, k < w.heap.size → ¬ S k → w'.heap[k]? = w.heap[k]?

/-- nothing -/
def No : Nat → Prop := fun _ => False

section
variable {S S' : Nat → Prop} {a b c w w' : World}
theorem Chg.refl (S : Nat → Prop) (w : World) : Chg S w w := ⟨rfl, rfl, rfl, Nat.le_refl _, fun _ _ _ => rfl⟩
theorem Chg.trans (h : Chg S a b) (k : Chg S' b c) (hs : ∀ i, i < a.heap.size → S' i → S i) : Chg S a c :=
  ⟨k.os.trans h.os, k.tape.trans h.tape, k.output.trans h.output, Nat.le_trans h.size k.size,
    fun i hi hn => (k.block i (Nat.lt_of_lt_of_le hi h.size) (fun e => hn (hs i hi e))).trans (h.block i hi hn)⟩
theorem Chg.mono (h : Chg S a b) (hs : ∀ i, i < a.heap.size → S i → S' i) : Chg S' a b :=
  ⟨h.os, h.tape, h.output, h.size, fun i hi hn => h.block i hi (fun e => hn (hs i hi e))⟩
theorem Chg.no (h : Chg S a b) (k : Chg No b c) : Chg S a c := h.trans k (fun _ _ e => e.elim)
theorem Chg.and_ (h : Chg S a b) (k : Chg S b c) : Chg S a c := h.trans k (fun _ _ e => e)
theorem Chg.any (h : Chg No a b) : Chg S a b := h.mono (fun _ _ e => e.elim)
theorem Chg.alloc (h : Chg S a w) (o : Obj) : Chg S a (w.alloc o) :=
  h.no ⟨rfl, rfl, rfl, by simp, fun k hk _ => Below.heap_alloc _ _ _ hk⟩
theorem Chg.drew (h : Chg S a w) : Chg S a w.drew := ⟨h.os, h.tape, h.output, h.size, h.block⟩
theorem Chg.drewN (h : Chg S a w) (n : Nat) : Chg S a (w.drewN n) := ⟨h.os, h.tape, h.output, h.size, h.block⟩
theorem Chg.setCell (h : Chg S a w) {p : Addr} (u : Value) (hp : p.block < a.heap.size → S p.block) : Chg S a (w.setCell p u) :=
  ⟨h.os, h.tape, h.output, by simpa [World.setCell] using h.size, fun i hi hn => (Below.heap_setCell w p u i (fun e => hn (by subst e; exact hp hi))).trans (h.block i hi hn)⟩
theorem Chg.setNew (h : Chg S a w) {p : Addr} (u : Value) (hp : a.heap.size ≤ p.block) : Chg S a (w.setCell p u) := h.setCell u (fun e => absurd e (by omega))
theorem Chg.grown (h : Chg S a w) {row : Option Nat} (hg : w.grownBy w' row) (hr : ∀ k, row = some k → k < a.heap.size → S k) : Chg S a w' :=
  ⟨hg.os.trans h.os, hg.tape.trans h.tape, hg.output.trans h.output, Nat.le_trans h.size hg.size,
    fun i hi hn => (hg.block i (Nat.lt_of_lt_of_le hi h.size) (fun e => hn (hr i e.symm hi))).trans (h.block i hi hn)⟩
theorem Chg.of_below (h : Below w.heap.size w w') : Chg S w w' := ⟨h.os, h.tape, h.output, h.size, fun i hi _ => h.block i hi⟩
theorem Chg.below (h : Chg No w w') : Below w.heap.size w w' := ⟨h.os, h.tape, h.output, h.size, fun i hi => h.block i hi (fun e => e)⟩
theorem Chg.belowS {B : Nat} (h : Chg S w w') (hB : B ≤ w.heap.size) (hs : ∀ i, i < B → ¬ S i) : Below B w w' := ⟨h.os, h.tape, h.output, h.size, fun i hi => h.block i (by omega) (hs i hi)⟩
theorem Chg.cell (h : Chg S w w') {p : Nat} (hp : p < w.heap.size) (hn : ¬ S p) (o : Nat) : w'.cell? ⟨p, o, none⟩ = w.cell? ⟨p, o, none⟩ := World.cell?_of_block (w := w) (h.block p hp hn)
theorem Chg.frozen (h : Chg S w w') {p : Nat} (hp : p < w.heap.size) (hn : ¬ S p) (o : Nat) : w'.frozen? ⟨p, o, none⟩ = w.frozen? ⟨p, o, none⟩ := World.frozen?_of_block (w := w) (h.block p hp hn)
/-- the two rules that the walk takes behind a call that changes nothing -/
theorem Chg.rules (h : Chg No w w') : (∀ p o, p < w.heap.size → w'.cell? ⟨p, o, none⟩ = w.cell? ⟨p, o, none⟩) ∧ (∀ p o, p < w.heap.size → w'.frozen? ⟨p, o, none⟩ = w.frozen? ⟨p, o, none⟩) :=
  ⟨fun _ o hp => h.cell hp (fun e => e) o, fun _ o hp => h.frozen hp (fun e => e) o⟩
theorem Chg.rulesAt {g : Nat} (h : Chg (fun k => k = g) w w') : (∀ p o, p < w.heap.size → ¬ p = g → w'.cell? ⟨p, o, none⟩ = w.cell? ⟨p, o, none⟩) ∧ (∀ p o, p < w.heap.size → ¬ p = g → w'.frozen? ⟨p, o, none⟩ = w.frozen? ⟨p, o, none⟩) :=
  ⟨fun _ o hp hn => h.cell hp hn o, fun _ o hp hn => h.frozen hp hn o⟩
/-- a store, and the same cell read: no premise is asked -/
@[go_sem] theorem cell_setCell_self (w : World) (a : Addr) (v : Value) : (w.setCell a v).cell? a = (w.cell? a).map fun _ => v := by
  cases h : w.cell? a with
  | some u => rw [World.cell?_setCell_same w a v h]; rfl
  | none =>
    show _ = none
    cases h2 : (w.setCell a v).cell? a with
    | none => rfl
    | some x =>
      exfalso
      unfold World.cell? World.setCell at h2
      unfold World.cell? at h
      simp only [Array.getElem?_modify, ↓reduceIte] at h2
      cases hb : w.heap[a.block]? with
      | none => simp [hb] at h2
      | some o =>
        cases o <;> simp_all
theorem heap_top {w : World} {o : Obj} {n : Nat} (h : n = w.heap.size) : (w.alloc o).heap[n]? = some o := by subst h; exact heap_alloc_new w o
theorem cell_lt {w : World} {b o : Nat} {u : Value} (h : w.cell? ⟨b, o, none⟩ = some u) : b < w.heap.size := World.block_lt_of_cell? w ⟨b, o, none⟩ h
theorem cell_keep {b o : Nat} {u : Value} (h : Chg S w w') (hc : w.cell? ⟨b, o, none⟩ = some u) (hn : ¬ S b) : w'.cell? ⟨b, o, none⟩ = some u := (h.cell (cell_lt hc) hn o).trans hc
end

/-! ### slices that read as lists -/

/-- The slice 'A, n, c' reads as xs; its elements are 'sz' cells wide; E says what lies at a place; it lies in the blocks from lo on, below hi. -/
def RSl {α : Type} (lo hi sz : Nat) (E : Nat → Nat → α → Prop) (A : Option Addr) (n c : Nat) (xs : List α) : Prop :=
  xs.length = n ∧ n ≤ c ∧ c ≤ maxLen ∧ (0 < n → ∃ b o, A = some ⟨b, o, none⟩ ∧ lo ≤ b ∧ b < hi ∧ ∀ j x, xs[j]? = some x → E b (o + j * sz) x)

section
variable {α : Type} {lo hi lo' hi' sz n c : Nat} {E E' : Nat → Nat → α → Prop} {A : Option Addr} {xs : List α}
theorem RSl.len (h : RSl lo hi sz E A n c xs) : xs.length = n := h.1
theorem RSl.le (h : RSl lo hi sz E A n c xs) : n ≤ c := h.2.1
theorem RSl.cap (h : RSl lo hi sz E A n c xs) : c ≤ 9223372036854775807 := by have := h.2.2.1; unfold maxLen at this; omega
theorem RSl.at_ (h : RSl lo hi sz E A n c xs) {k : Nat} (hk : k < n) : ∃ b o x, A = some ⟨b, o, none⟩ ∧ lo ≤ b ∧ b < hi ∧ xs[k]? = some x ∧ E b (o + k * sz) x := by
  obtain ⟨h1, _, _, h4⟩ := h
  obtain ⟨b, o, hA, hl, hh, hE⟩ := h4 (by omega)
  have hx : xs[k]? = some (xs[k]'(by omega)) := List.getElem?_eq_getElem (by omega)
  exact ⟨b, o, _, hA, hl, hh, hx, hE k _ hx⟩
theorem RSl.imp (h : RSl lo hi sz E A n c xs) (hE : ∀ b o x, lo ≤ b → b < hi → E b o x → E' b o x) (h1 : lo' ≤ lo) (h2 : hi ≤ hi') : RSl lo' hi' sz E' A n c xs := by
  refine ⟨h.1, h.2.1, h.2.2.1, fun hn => ?_⟩
  obtain ⟨b, o, hA, hl, hh, hx⟩ := h.2.2.2 hn
  exact ⟨b, o, hA, by omega, by omega, fun j x hj => hE b _ x hl hh (hx j x hj)⟩
theorem RSl.nil_ (A : Option Addr) (c : Nat) (hc : c ≤ maxLen) : RSl lo hi sz E A 0 c ([] : List α) := ⟨rfl, Nat.zero_le _, hc, fun h => absurd h (by omega)⟩
/-- s[:k] -/
theorem RSl.take (h : RSl lo hi sz E A n c xs) {k : Nat} (hk : k ≤ n) : RSl lo hi sz E A k c (xs.take k) := by
  refine ⟨by rw [List.length_take, h.1]; omega, by have := h.2.1; omega, h.2.2.1, fun hn => ?_⟩
  obtain ⟨b, o, hA, hl, hh, hx⟩ := h.2.2.2 (by omega)
  exact ⟨b, o, hA, hl, hh, fun j x hj => hx j x (by rw [List.getElem?_take] at hj; split at hj; exact hj; cases hj)⟩
/-- s[k:] as the model has it: the address stays where nothing is left of the capacity -/
theorem RSl.drop (h : RSl lo hi sz E A n c xs) {k : Nat} (hk : k ≤ n) : RSl lo hi sz E (if c = k then A else A.map (·.add (k * sz))) (n - k) (c - k) (xs.drop k) := by
  refine ⟨by rw [List.length_drop, h.1], by have := h.2.1; omega, by have := h.2.2.1; omega, fun hn => ?_⟩
  obtain ⟨b, o, rfl, hl, hh, hx⟩ := h.2.2.2 (by omega)
  have hne : ¬ c = k := by have := h.2.1; omega
  rw [if_neg hne]
  refine ⟨b, o + k * sz, ?_, hl, hh, fun j x hj => ?_⟩
  · simp only [Option.map_some, Addr.add]; split
    · rename_i h0; simp [h0]
    · rfl
  · rw [List.getElem?_drop] at hj
    have := hx (k + j) x hj
    rwa [Nat.add_mul, ← Nat.add_assoc] at this
end

/-- an int in a cell -/
def EInt (w : World) (b o : Nat) (x : Int) : Prop := w.cell? ⟨b, o, none⟩ = some (.int .i64 x)
def RInts (w : World) (lo hi : Nat) (A : Option Addr) (n c : Nat) (xs : List Int) : Prop := RSl lo hi 1 (EInt w) A n c xs
/-- a hit: key, distance -/
def EHit (w : World) (b o : Nat) (h : Int × Int) : Prop := w.cell? ⟨b, o, none⟩ = some (.int .i64 h.1) ∧ w.cell? ⟨b, o + 1, none⟩ = some (.int .i64 h.2)
def RHits (w : World) (lo hi : Nat) (A : Option Addr) (n c : Nat) (xs : List (Int × Int)) : Prop := RSl lo hi 2 (EHit w) A n c xs
/-- a row of a slice of rows -/
def ERow (w : World) (lo hi : Nat) (b o : Nat) (r : List Int) : Prop := ∃ A n c, w.cell? ⟨b, o, none⟩ = some (.slice A n c) ∧ RInts w lo hi A n c r
def RRows (w : World) (lo hi : Nat) (A : Option Addr) (n c : Nat) (xs : List (List Int)) : Prop := RSl lo hi 1 (ERow w lo hi) A n c xs
/-- an item: its key, its vector, its tags -/
structure It where
  key : Int
  vec : List Int
  tags : Int
def EItem (w : World) (lo hi : Nat) (b o : Nat) (x : It) : Prop := w.cell? ⟨b, o, none⟩ = some (.int .i64 x.key) ∧ (∃ A n c, w.cell? ⟨b, o + 1, none⟩ = some (.slice A n c) ∧ RInts w lo hi A n c x.vec) ∧ w.cell? ⟨b, o + 2, none⟩ = some (.int .i64 x.tags)
def RItems (w : World) (lo hi : Nat) (A : Option Addr) (n c : Nat) (xs : List It) : Prop := RSl lo hi 3 (EItem w lo hi) A n c xs

section
variable {S : Nat → Prop} {w w' : World} {lo hi lo' hi' n c : Nat} {A : Option Addr}
theorem RInts.keep {xs : List Int} (h : RInts w lo hi A n c xs) (hc : Chg S w w') (hs : ∀ k, lo ≤ k → k < hi → ¬ S k) : RInts w' lo hi A n c xs :=
  RSl.imp h (fun b o x hl hh (he : w.cell? _ = _) => cell_keep hc he (hs b hl hh)) (Nat.le_refl _) (Nat.le_refl _)
theorem RInts.no {xs : List Int} (h : RInts w lo hi A n c xs) (hc : Chg No w w') : RInts w' lo hi A n c xs := h.keep hc (fun _ _ _ e => e)
theorem RInts.wide {xs : List Int} (h : RInts w lo hi A n c xs) (h1 : lo' ≤ lo) (h2 : hi ≤ hi') : RInts w lo' hi' A n c xs := RSl.imp h (fun _ _ _ _ _ he => he) h1 h2
theorem RHits.keep {xs : List (Int × Int)} (h : RHits w lo hi A n c xs) (hc : Chg S w w') (hs : ∀ k, lo ≤ k → k < hi → ¬ S k) : RHits w' lo hi A n c xs :=
  RSl.imp h (fun b o x hl hh (he : _ ∧ _) => ⟨cell_keep hc he.1 (hs b hl hh), cell_keep hc he.2 (hs b hl hh)⟩) (Nat.le_refl _) (Nat.le_refl _)
theorem RHits.no {xs : List (Int × Int)} (h : RHits w lo hi A n c xs) (hc : Chg No w w') : RHits w' lo hi A n c xs := h.keep hc (fun _ _ _ e => e)
theorem RHits.wide {xs : List (Int × Int)} (h : RHits w lo hi A n c xs) (h1 : lo' ≤ lo) (h2 : hi ≤ hi') : RHits w lo' hi' A n c xs := RSl.imp h (fun _ _ _ _ _ he => he) h1 h2
theorem RRows.keep {xs : List (List Int)} (h : RRows w lo hi A n c xs) (hc : Chg S w w') (hs : ∀ k, lo ≤ k → k < hi → ¬ S k) : RRows w' lo hi A n c xs :=
  RSl.imp h (fun b o x hl hh ⟨A', n', c', h1, h2⟩ => ⟨A', n', c', cell_keep hc h1 (hs b hl hh), h2.keep hc hs⟩) (Nat.le_refl _) (Nat.le_refl _)
theorem RRows.no {xs : List (List Int)} (h : RRows w lo hi A n c xs) (hc : Chg No w w') : RRows w' lo hi A n c xs := h.keep hc (fun _ _ _ e => e)
theorem RRows.wide {xs : List (List Int)} (h : RRows w lo hi A n c xs) (h1 : lo' ≤ lo) (h2 : hi ≤ hi') : RRows w lo' hi' A n c xs :=
  RSl.imp h (fun _ _ _ _ _ ⟨A', n', c', h3, h4⟩ => ⟨A', n', c', h3, h4.wide h1 h2⟩) h1 h2
theorem RItems.keep {xs : List It} (h : RItems w lo hi A n c xs) (hc : Chg S w w') (hs : ∀ k, lo ≤ k → k < hi → ¬ S k) : RItems w' lo hi A n c xs :=
  RSl.imp h (fun b o x hl hh ⟨h1, ⟨A', n', c', h2, h3⟩, h4⟩ => ⟨cell_keep hc h1 (hs b hl hh), ⟨A', n', c', cell_keep hc h2 (hs b hl hh), h3.keep hc hs⟩, cell_keep hc h4 (hs b hl hh)⟩) (Nat.le_refl _) (Nat.le_refl _)
theorem RItems.no {xs : List It} (h : RItems w lo hi A n c xs) (hc : Chg No w w') : RItems w' lo hi A n c xs := h.keep hc (fun _ _ _ e => e)
theorem RItems.wide {xs : List It} (h : RItems w lo hi A n c xs) (h1 : lo' ≤ lo) (h2 : hi ≤ hi') : RItems w lo' hi' A n c xs :=
  RSl.imp h (fun _ _ _ _ _ ⟨h3, ⟨A', n', c', h4, h5⟩, h6⟩ => ⟨h3, ⟨A', n', c', h4, h5.wide h1 h2⟩, h6⟩) h1 h2
end

/-- a literal of ints, just made -/
theorem RInts.lit {w : World} {g T : Nat} {cs : Array Value} {fr : Nat × Nat} (hb : w.heap[g]? = some (.cells cs T fr)) (xs : List Int) (hcs : cs = (xs.map (Value.int .i64)).toArray) {n : Nat} (hn : n = xs.length) (hm : n ≤ 1000000) :
    RInts w g (g + 1) (some ⟨g, 0, none⟩) n n xs := by
  subst hn
  refine ⟨rfl, Nat.le_refl _, by unfold maxLen; omega, fun _ => ⟨g, 0, rfl, Nat.le_refl _, by omega, fun j x hj => ?_⟩⟩
  unfold EInt
  rw [cell_of_row w g _ cs T fr hb, hcs]
  simp [hj]

/-! ### the reader of the drawn arguments -/
/-- The reader lies in block g: at most m numbers have been drawn; it has at most 2000 bytes, which lie below block B. -/
def Rd (w : World) (B g m : Nat) : Prop :=
  ∃ (A : Option Addr) (n c : Nat) (p : Int) (T : TypeId), w.heap[g]? = some (.cells #[.slice A n c, .int .i64 p] T (0, 0)) ∧ 0 ≤ p ∧ p ≤ m ∧ n ≤ 2000 ∧ B ≤ g ∧
    (0 < n → ∃ b o, A = some ⟨b, o, none⟩ ∧ b < B ∧ ∀ k, k < n → ∃ x : Int, 0 ≤ x ∧ x < 256 ∧ w.cell? ⟨b, o + k, none⟩ = some (.int .u8 x))
theorem Rd.lt {w : World} {B g m : Nat} (h : Rd w B g m) : g < w.heap.size := by
  obtain ⟨_, _, _, _, _, h, _⟩ := h
  exact (Array.getElem?_eq_some_iff.1 h).1
theorem Rd.base {w : World} {B g m : Nat} (h : Rd w B g m) : B ≤ g := by
  obtain ⟨_, _, _, _, _, _, _, _, _, h, _⟩ := h
  exact h
theorem Rd.keep {S : Nat → Prop} {w w' : World} {B g m : Nat} (h : Rd w B g m) (hc : Chg S w w') (hs : ∀ k, k < B → ¬ S k) (hg : ¬ S g) : Rd w' B g m := by
  have hlt := h.lt
  obtain ⟨A, n, c, p, T, hb, h1, h2, h3, hB, h4⟩ := h
  refine ⟨A, n, c, p, T, (hc.block g hlt hg).trans hb, h1, h2, h3, hB, fun hn => ?_⟩
  obtain ⟨b, o, hA, hl, hx⟩ := h4 hn
  refine ⟨b, o, hA, hl, fun k hk => ?_⟩
  obtain ⟨x, hx0, hx1, hx2⟩ := hx k hk
  exact ⟨x, hx0, hx1, cell_keep hc hx2 (hs b (by omega))⟩
theorem Rd.no {w w' : World} {B g m : Nat} (h : Rd w B g m) (hc : Chg No w w') : Rd w' B g m := h.keep hc (fun _ _ e => e) (fun e => e)
theorem Rd.mono {w : World} {B g m m' : Nat} (h : Rd w B g m) (hm : m ≤ m') : Rd w B g m' := by
  obtain ⟨A, n, c, p, T, hb, h1, h2, h3, hB, h4⟩ := h
  exact ⟨A, n, c, p, T, hb, h1, by omega, h3, hB, h4⟩
theorem Rd.set_ {w : World} {B g m : Nat} {A : Option Addr} {n c : Nat} {p : Int} {T : TypeId} (hb : w.heap[g]? = some (.cells #[.slice A n c, .int .i64 p] T (0, 0))) (h1 : 0 ≤ p) (h2 : p ≤ m) (h3 : n ≤ 2000) (hB : B ≤ g)
    (h4 : 0 < n → ∃ b o, A = some ⟨b, o, none⟩ ∧ b < B ∧ ∀ k, k < n → ∃ x : Int, 0 ≤ x ∧ x < 256 ∧ w.cell? ⟨b, o + k, none⟩ = some (.int .u8 x)) (q : Nat) :
    Rd ((w.setCell ⟨g, 1, none⟩ (.int .i64 (p + 1))).drewN q) B g (m + 1) := by
  refine ⟨A, n, c, p + 1, T, ?_, by omega, by omega, h3, hB, fun hn => ?_⟩
  · show (w.setCell _ _).heap[g]? = _
    simp [World.setCell, Array.getElem?_modify, hb]
  · obtain ⟨b, o, hA, hl, hx⟩ := h4 hn
    refine ⟨b, o, hA, hl, fun k hk => ?_⟩
    obtain ⟨x, hx0, hx1, hx2⟩ := hx k hk
    refine ⟨x, hx0, hx1, ?_⟩
    show (w.setCell _ _).cell? _ = _
    rw [World.cell?_setCell_other _ _ _ _ (by intro e; injection e with e1; omega)]
    exact hx2
/-- the blocks from B on but the reader's -/
def Young (B g : Nat) : Nat → Prop := fun k => B ≤ k ∧ k ≠ g
/-- the reader stands while younger blocks are written -/
theorem Rd.young {w w' : World} {B g m : Nat} (h : Rd w B g m) (hc : Chg (Young B g) w w') : Rd w' B g m := h.keep hc (fun _ h1 h2 => by have := h2.1; omega) (fun h => h.2 rfl)
/-- only the reader's block has changed -/
def At (g : Nat) : Nat → Prop := fun k => k = g

/-! ### numbers -/
theorem ofInt_i64 (a : Nat) (ha : a < 9223372036854775808) : (BitVec.ofInt 64 (a : Int)).toNat = a := by
  rw [BitVec.ofInt_natCast, BitVec.toNat_ofNat]; exact Nat.mod_eq_of_lt (by omega)
theorem i64_xor_nat (a b : Nat) (ha : a < 9223372036854775808) (hb : b < 9223372036854775808) : bits .xor .i64 (a : Int) (b : Int) = ((a ^^^ b : Nat) : Int) := by
  have hx : a ^^^ b < 2 ^ 63 := Nat.xor_lt_two_pow (by omega) (by omega)
  show IntKind.i64.wrap ((BitVec.ofInt 64 (a : Int) ^^^ BitVec.ofInt 64 (b : Int)).toNat : Int) = _
  rw [BitVec.toNat_xor, ofInt_i64 a ha, ofInt_i64 b hb, IntKind.wrap_i64]
  omega
theorem xor_nonneg (a b : Int) (ha : 0 ≤ a) (ha' : a < 4611686018427387904) (hb : 0 ≤ b) (hb' : b < 4611686018427387904) : 0 ≤ bits .xor .i64 a b := by
  obtain ⟨x, rfl⟩ := Int.eq_ofNat_of_zero_le ha
  obtain ⟨y, rfl⟩ := Int.eq_ofNat_of_zero_le hb
  rw [i64_xor_nat x y (by omega) (by omega)]; omega
/-- the reader's answer -/
def Picked (k x : Int) : Prop := 0 ≤ x ∧ (x < k ∨ x = 0)
theorem picked_of (k X : Int) (hk : 1 ≤ k) (h0 : 0 ≤ X) (h1 : X < 4611686018427387904) : Picked k ((bits .xor .i64 X (X / 64)).tmod k) := by
  have h := xor_nonneg X (X / 64) h0 h1 (by omega) (by omega)
  rw [Int.tmod_eq_emod_of_nonneg h]
  exact ⟨Int.emod_nonneg _ (by omega), .inl (Int.emod_lt_of_pos _ (by omega))⟩
theorem picked_mod (k X : Int) (hk : 1 ≤ k) : Picked k (X % k) := ⟨Int.emod_nonneg _ (by omega), .inl (Int.emod_lt_of_pos _ (by omega))⟩
theorem ret_int {k : IntKind} {a b : Int} (h : a = b) : Ending.returned (.int k a) = .returned (.int k b) := by rw [h]
theorem ret_bool {a b : Bool} (h : a = b) : Ending.returned (.bool a) = .returned (.bool b) := by rw [h]
theorem take_snoc {α : Type} {xs : List α} {k : Nat} {x : α} (h : xs[k]? = some x) : xs.take (k + 1) = xs.take k ++ [x] := by
  rw [List.take_add_one, h]; rfl
end Go.Proofs.Ytifdcdpdihfbjaa
