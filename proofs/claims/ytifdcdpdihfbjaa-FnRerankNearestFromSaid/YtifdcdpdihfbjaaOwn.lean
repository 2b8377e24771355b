/- Slices that the call itself made, as lists; append to them. No program is named here. -/
import Derived.Test.YtifdcdpdihfbjaaMem2
import Derived.Maps.AppendAt
import Derived.Laws.OwnMore
import Derived.OwnWalk
namespace Go.Proofs.Ytifdcdpdihfbjaa
open Go.RowKit
set_option linter.unusedVariables false

/-- The slice value v is the call's own (its block is base or younger), holds elements of type T, sz cells each, and reads as xs. -/
def OSl {α : Type} (T sz : Nat) (enc : α → List Value) (w : World) (base : Nat) (v : Value) (xs : List α) : Prop :=
  w.ownsRow base T sz v xs.length (xs.flatMap enc)
theorem flat_length {α : Type} {enc : α → List Value} {sz : Nat} (hl : ∀ x, (enc x).length = sz) : ∀ xs : List α, (xs.flatMap enc).length = xs.length * sz
  | [] => by simp
  | x :: t => by rw [List.flatMap_cons, List.length_append, hl, flat_length hl t, List.length_cons, Nat.add_mul]; omega
theorem flat_at {α : Type} {enc : α → List Value} {sz : Nat} (hl : ∀ x, (enc x).length = sz) : ∀ (xs : List α) (j : Nat) (x : α) (i : Nat) (u : Value), xs[j]? = some x → (enc x)[i]? = some u → (xs.flatMap enc)[j * sz + i]? = some u
  | [], j, x, i, u, h, _ => by simp at h
  | y :: t, 0, x, i, u, h, hu => by
    simp at h; subst h
    rw [List.flatMap_cons, Nat.zero_mul, Nat.zero_add, List.getElem?_append_left (List.getElem?_eq_some_iff.1 hu).1]
    exact hu
  | y :: t, j + 1, x, i, u, h, hu => by
    rw [List.flatMap_cons, List.getElem?_append_right (by rw [hl, Nat.add_mul]; omega), hl]
    rw [show (j + 1) * sz + i - sz = j * sz + i from by rw [Nat.add_mul]; omega]
    exact flat_at hl t j x i u (by simpa using h) hu
theorem flat_take {α : Type} {enc : α → List Value} {sz : Nat} (hl : ∀ x, (enc x).length = sz) : ∀ (xs : List α) (k : Nat), (xs.take k).flatMap enc = (xs.flatMap enc).take (k * sz)
  | [], k => by simp
  | y :: t, 0 => by simp
  | y :: t, k + 1 => by
    rw [List.take_succ_cons, List.flatMap_cons, List.flatMap_cons, flat_take hl t k, List.take_append, hl]
    rw [show (k + 1) * sz - sz = k * sz from by rw [Nat.add_mul]; omega, List.take_of_length_le (l := enc y) (by rw [hl, Nat.add_mul]; omega)]

section
variable {α : Type} {T sz : Nat} {enc : α → List Value} {w w' : World} {base : Nat} {v : Value} {xs : List α}
theorem OSl.form (h : OSl T sz enc w base v xs) : ∃ A c, v = .slice A xs.length c ∧ xs.length ≤ c ∧ c ≤ maxLen ∧ (0 < xs.length → ∃ g, A = some ⟨g, 0, none⟩ ∧ base ≤ g ∧ g < w.heap.size) := by
  rcases h.2 with ⟨hv, hn⟩ | ⟨g, cap, cur, hv, hb, hh, hn, hc, _, _⟩
  · exact ⟨none, 0, by rw [hv, hn], by omega, by unfold maxLen; omega, fun h0 => absurd h0 (by omega)⟩
  · exact ⟨_, cap, hv, hn, hc, fun _ => ⟨g, rfl, hb, (Array.getElem?_eq_some_iff.1 hh).1⟩⟩
theorem OSl.nil_ (base : Nat) : OSl T sz enc w base (.slice none 0 0) [] := World.ownsRow_nil _ _ _ _
/-- it reads as a list -/
theorem OSl.read (h : OSl T sz enc w base v xs) (hl : ∀ x, (enc x).length = sz) {E : Nat → Nat → α → Prop} (hE : ∀ b o x, (∀ i u, (enc x)[i]? = some u → w.cell? ⟨b, o + i, none⟩ = some u) → E b o x) :
    ∃ A c, v = .slice A xs.length c ∧ RSl base w.heap.size sz E A xs.length c xs := by
  obtain ⟨A, c, hv, hn, hc, hA⟩ := h.form
  refine ⟨A, c, hv, rfl, hn, hc, fun h0 => ?_⟩
  obtain ⟨g, rfl, hb, hlt⟩ := hA h0
  subst hv
  refine ⟨g, 0, rfl, hb, hlt, fun j x hj => hE _ _ _ fun i u hu => ?_⟩
  have := World.ownsRow.cells h (g := g) rfl (j * sz + i) u (flat_at hl xs j x i u hj hu)
  rw [Addr.add_lit] at this
  rw [← this]
  congr 2
  omega
theorem OSl.kept {row : Option Nat} (h : OSl T sz enc w base v xs) (hg : w.grownBy w' row) (hne : v.ownBlock = none ∨ v.ownBlock ≠ row) : OSl T sz enc w' base v xs := World.ownsRow.kept h hg hne
theorem OSl.keep {S : Nat → Prop} (h : OSl T sz enc w base v xs) (hc : Chg S w w') (hS : ∀ k, base ≤ k → k < w.heap.size → ¬ S k) : OSl T sz enc w' base v xs := by
  rcases h.2 with ⟨hv, hn⟩ | ⟨g, cap, cur, hv, hb, hh, hn, hcm, hcs, ht⟩
  · exact ⟨h.1, .inl ⟨hv, hn⟩⟩
  · have hlt := (Array.getElem?_eq_some_iff.1 hh).1
    exact ⟨h.1, .inr ⟨g, cap, cur, hv, hb, (hc.block g hlt (hS g hb hlt)).trans hh, hn, hcm, hcs, ht⟩⟩
theorem OSl.no (h : OSl T sz enc w base v xs) (hc : Chg No w w') : OSl T sz enc w' base v xs := h.keep hc (fun _ _ _ e => e)
theorem OSl.alloc (h : OSl T sz enc w base v xs) (o : Obj) : OSl T sz enc (w.alloc o) base v xs := h.no ((Chg.refl _ _).alloc _)
theorem OSl.drew (h : OSl T sz enc w base v xs) : OSl T sz enc w.drew base v xs := h
theorem OSl.drewN (h : OSl T sz enc w base v xs) (n : Nat) : OSl T sz enc (w.drewN n) base v xs := h
theorem OSl.down (h : OSl T sz enc w base v xs) {base' : Nat} (hb : base' ≤ base) : OSl T sz enc w base' v xs := by
  refine ⟨h.1, ?_⟩
  rcases h.2 with h0 | ⟨g, cap, cur, hv, hg, r⟩
  · exact .inl h0
  · exact .inr ⟨g, cap, cur, hv, by omega, r⟩
/-- the first ones -/
theorem OSl.take {A : Option Addr} {n c : Nat} (h : OSl T sz enc w base (.slice A n c) xs) (hl : ∀ x, (enc x).length = sz) {k : Nat} (hk : k ≤ xs.length) (hn0 : xs.length = 0 → k = 0) : OSl T sz enc w base (.slice A k c) (xs.take k) := by
  have hlen : (xs.take k).length = k := by rw [List.length_take]; omega
  refine ⟨by rw [flat_length hl], ?_⟩
  rw [hlen]
  rcases h.2 with ⟨hv, hn⟩ | ⟨g, cap, cur, hv, hb, hh, hn, hcm, hcs, ht⟩
  · injection hv with h1 h2 h3
    subst h1 h3
    rw [hn0 hn]
    exact .inl ⟨rfl, rfl⟩
  · injection hv with h1 h2 h3
    subst h1 h3
    refine .inr ⟨g, c, cur, rfl, hb, hh, by omega, hcm, hcs, ?_⟩
    rw [flat_take hl, ← ht, List.take_take]
    congr 1
    exact (Nat.min_eq_left (Nat.mul_le_mul_right sz hk)).symm
/-- a literal, just made -/
theorem OSl.lit (ys : List α) (cs : List Value) (hl : ∀ x, (enc x).length = sz) (hcs : cs = ys.flatMap enc) {n : Nat} (hn : n = ys.length) (hm : n ≤ 1000000000) {g : Nat} (hb : base ≤ g) (hh : w.heap[g]? = some (.cells cs.toArray T (0, 0))) : OSl T sz enc w base (.slice (some ⟨g, 0, none⟩) n n) ys := by
  subst hcs hn
  refine ⟨flat_length hl ys, .inr ⟨g, ys.length, _, rfl, hb, hh, Nat.le_refl _, by unfold maxLen; omega, by simp [flat_length hl], ?_⟩⟩
  rw [List.take_of_length_le (by simp [flat_length hl])]
end

section
variable {P : Program}
theorem run_append_of_nil (w : World) (base : Nat) (t ty e : TypeId) (i : TypeInfo) (size : Nat) (ht : P.underlying t = some (.slice e)) (hi : P.info? e = some i)
    (v : Value) (n : Nat) (xs : List Value) (hown : w.ownsRow base e size v n xs) (c : Nat) : (Builtin.append_ #[t, t] ty #[v, .slice none 0 c]).run P w = .ok v w := by
  rcases hown.2 with ⟨rfl, rfl⟩ | ⟨g, cap, cur, rfl, _, _, hnc, _⟩
  · simp [Builtin.append_, run_underlying ht, sizeOf, typeInfo, hi, Builtin.lenOf, Builtin.firstCells]
  · simp [Builtin.append_, run_underlying ht, sizeOf, typeInfo, hi, Builtin.lenOf, Builtin.firstCells, hnc, storeCells]
/-- The source of an append: it reads as ys. -/
def Src {α : Type} (sz : Nat) (enc : α → List Value) (w : World) (A : Option Addr) (m : Nat) (ys : List α) : Prop :=
  ys.length = m ∧ (0 < m → ∃ b o, A = some ⟨b, o, none⟩ ∧ ∀ j x, ys[j]? = some x → ∀ i u, (enc x)[i]? = some u → w.cell? ⟨b, o + j * sz + i, none⟩ = some u)
theorem Src.of {α : Type} {sz : Nat} {enc : α → List Value} {w : World} {lo hi : Nat} {A : Option Addr} {n c : Nat} {xs : List α} {E : Nat → Nat → α → Prop} (h : RSl lo hi sz E A n c xs) (hE : ∀ b o x, E b o x → ∀ i u, (enc x)[i]? = some u → w.cell? ⟨b, o + i, none⟩ = some u) : Src sz enc w A n xs :=
  ⟨h.1, fun h0 => by
    obtain ⟨b, o, hA, _, _, hx⟩ := h.2.2.2 h0
    exact ⟨b, o, hA, fun j x hj i u hu => hE b _ x (hx j x hj) i u hu⟩⟩
theorem Src.one {α : Type} {sz : Nat} {enc : α → List Value} {w : World} {g : Nat} {y : α} {cs : List Value} (h : Box w g cs) (he : cs = enc y) : Src sz enc w (some ⟨g, 0, none⟩) 1 [y] :=
  ⟨rfl, fun _ => ⟨g, 0, rfl, fun j x hj i u hu => by
    obtain ⟨rfl, rfl⟩ : j = 0 ∧ x = y := by
      cases j with
      | zero => simp at hj; exact ⟨rfl, hj.symm⟩
      | succ j => simp at hj
    rw [show 0 + 0 * sz + i = i from by omega, h.cell, he]
    exact hu⟩⟩
theorem enc_at {α : Type} {enc : α → List Value} {sz : Nat} (hl : ∀ x, (enc x).length = sz) (hs0 : 0 < sz) : ∀ (ys : List α) (j : Nat) (u : Value), (ys.flatMap enc)[j]? = some u → ∃ x, ys[j / sz]? = some x ∧ (enc x)[j % sz]? = some u
  | [], j, u, h => by simp at h
  | y :: t, j, u, h => by
    rw [List.flatMap_cons] at h
    by_cases hj : j < sz
    · rw [List.getElem?_append_left (by rw [hl]; exact hj)] at h
      rw [Nat.div_eq_of_lt hj, Nat.mod_eq_of_lt hj]
      exact ⟨y, rfl, h⟩
    · rw [List.getElem?_append_right (by rw [hl]; omega), hl] at h
      obtain ⟨x, h1, h2⟩ := enc_at hl hs0 t (j - sz) u h
      have e1 : j / sz = (j - sz) / sz + 1 := by rw [Nat.div_eq_sub_div hs0 (by omega)]
      have e2 : j % sz = (j - sz) % sz := (Nat.mod_eq_sub_mod (by omega))
      rw [e1, e2]
      exact ⟨x, by simpa using h1, h2⟩
/-- append to a slice of the call's own: its run -/
theorem run_push {α : Type} (w : World) (t oty : TypeId)
    (T sz bytes : Nat) (z : Value) (enc : α → List Value) (ht : P.underlying t = some (.slice T)) (hinfo : (P.info? T).map (fun i => (i.zero, i.size, i.bytes)) = some (some z, sz, bytes)) (hzs : z.cells.size = sz) (hs0 : 0 < sz) (hby : bytes ≤ 1000)
    (hl : ∀ x, (enc x).length = sz) (hone : ∀ x, ∀ u ∈ enc x, u.oneCell' = true) (base : Nat)
    (v : Value) (xs : List α) (hown : OSl T sz enc w base v xs) (A : Option Addr) (m c : Nat) (ys : List α) (hsrc : Src sz enc w A m ys)
    (hn : xs.length + m ≤ 100000000) (hbase : base ≤ w.heap.size) :
    ∃ v' w', (Builtin.append_ #[t, t] oty #[v, .slice A m c]).run P w = .ok v' w' ∧ OSl T sz enc w' base v' (xs ++ ys) ∧ w.grownBy w' v.ownBlock ∧ (∀ k, v'.ownBlock = some k → v.ownBlock = some k ∨ k = w.heap.size) := by
  obtain ⟨i, hi, hz, hsize, hbytes⟩ := info_parts hinfo
  have hnews : (ys.flatMap enc).length = m * sz := by rw [flat_length hl, hsrc.1]
  have hb2 : (xs.length + m) * bytes ≤ 140737488355328 := by
    have := Nat.mul_le_mul hn hby; omega
  have h63 : xs.length + m ≤ maxLen := by unfold maxLen; omega
  have hones : ∀ u ∈ ys.flatMap enc, u.oneCell' = true := by
    intro u hu
    obtain ⟨y, _, hy⟩ := List.mem_flatMap.1 hu
    exact hone y u hy
  cases A with
  | none =>
    have hm : m = 0 := by
      rcases Nat.eq_zero_or_pos m with h0 | h0
      · exact h0
      · obtain ⟨b, o', hA, _⟩ := hsrc.2 h0; cases hA
    subst hm
    have hys : ys = [] := List.eq_nil_of_length_eq_zero hsrc.1
    subst hys
    exact ⟨v, w, run_append_of_nil w base t oty T i sz ht hi v _ _ hown c, by simpa using hown, World.grownBy.refl w _, fun k hk => .inl hk⟩
  | some ad =>
    obtain ⟨v', w', h1, h2, h3, _, h5⟩ := run_append_own_at (P := P) w base t oty T i z sz bytes ht hi hz hsize hbytes hzs hs0 v _ _ hown ad m c (ys.flatMap enc) hnews (fun j u hj => by
      obtain ⟨y, hy, hu⟩ := enc_at hl hs0 ys j u hj
      have hm : 0 < m := by
        have h0 := (List.getElem?_eq_some_iff.1 hy).1
        rw [← hsrc.1]
        exact Nat.lt_of_le_of_lt (Nat.zero_le _) h0
      obtain ⟨b, o', hA, hc⟩ := hsrc.2 hm
      injection hA with hA
      subst hA
      rw [Addr.add_lit, ← hc _ _ hy _ u hu]
      have e := Nat.div_add_mod j sz
      rw [Nat.mul_comm] at e
      rw [show o' + j / sz * sz + j % sz = o' + j from by rw [Nat.add_assoc, e]]) hones h63 hb2 hbase
    refine ⟨v', w', h1, ?_, h3, fun k hk => ?_⟩
    · unfold OSl
      rw [List.length_append, hsrc.1, List.flatMap_append]
      exact h2
    · rcases h5 with h5 | h5
      · exact .inl (h5 ▸ hk)
      · rw [h5] at hk; injection hk with hk; exact .inr hk.symm
/-- append to a slice of the call's own -/
theorem wpList_push {α : Type} (w : World) {ops : Array Oper} {rest : List Oper} {o : Oper} {a : Act} {Q : Exit → Act → World → Prop} (hgd : o.guard = none) (s x : Operand) (t : TypeId)
    (ho : o.op = .call { callee := .builtin .append, args := #[s, x], argTypes := #[t, t] })
    (T sz bytes : Nat) (z : Value) (enc : α → List Value) (ht : P.underlying t = some (.slice T)) (hinfo : (P.info? T).map (fun i => (i.zero, i.size, i.bytes)) = some (some z, sz, bytes)) (hzs : z.cells.size = sz) (hs0 : 0 < sz) (hby : bytes ≤ 1000)
    (hl : ∀ x, (enc x).length = sz) (hone : ∀ x, ∀ u ∈ enc x, u.oneCell' = true) (base : Nat)
    (v : Value) (xs : List α) (hs : a.eval s = v) (hown : OSl T sz enc w base v xs) (A : Option Addr) (m c : Nat) (ys : List α) (hx : a.eval x = .slice A m c) (hsrc : Src sz enc w A m ys)
    (hn : xs.length + m ≤ 100000000) (hbase : base ≤ w.heap.size)
    (h : ∀ v' w', OSl T sz enc w' base v' (xs ++ ys) → w.grownBy w' v.ownBlock → (∀ k, v'.ownBlock = some k → v.ownBlock = some k ∨ k = w.heap.size) → wpList P ops Q rest (a.put o.dst v') w') : wpList P ops Q (o :: rest) a w := by
  obtain ⟨v', w', hr, h2, h3, h4⟩ := run_push (P := P) w t o.type T sz bytes z enc ht hinfo hzs hs0 hby hl hone base v xs hown A m c ys hsrc hn hbase
  refine wpList_plain hgd fun K hK => ?_
  unfold Oper.wp execOp
  simp only [ho, resolve, invoke, builtin, Sem.run_bind, Sem.run_pure, Result.andThen_ok, List.map_toArray, List.map_cons, List.map_nil, hs, hx, hr]
  exact hK _ _ (h v' w' h2 h3 h4)
/-- .. in a region that draws -/
theorem step_push {α : Type} (w : World) {ops : Array Oper} {o : Oper} {a : Act} {K : Act → World → Prop} {E : Prop} {Q : Exit → Act → World → Prop} (hgd : o.guard = none) (s x : Operand) (t : TypeId)
    (ho : o.op = .call { callee := .builtin .append, args := #[s, x], argTypes := #[t, t] })
    (T sz bytes : Nat) (z : Value) (enc : α → List Value) (ht : P.underlying t = some (.slice T)) (hinfo : (P.info? T).map (fun i => (i.zero, i.size, i.bytes)) = some (some z, sz, bytes)) (hzs : z.cells.size = sz) (hs0 : 0 < sz) (hby : bytes ≤ 1000)
    (hl : ∀ x, (enc x).length = sz) (hone : ∀ x, ∀ u ∈ enc x, u.oneCell' = true) (base : Nat)
    (v : Value) (xs : List α) (hs : a.eval s = v) (hown : OSl T sz enc w base v xs) (A : Option Addr) (m c : Nat) (ys : List α) (hx : a.eval x = .slice A m c) (hsrc : Src sz enc w A m ys)
    (hn : xs.length + m ≤ 100000000) (hbase : base ≤ w.heap.size)
    (h : ∀ v' w', OSl T sz enc w' base v' (xs ++ ys) → w.grownBy w' v.ownBlock → (∀ k, v'.ownBlock = some k → v.ownBlock = some k ∨ k = w.heap.size) → K (a.put o.dst v') w') : if Region.wanted o (yielded ops a.tmps) = true then Oper.wp P o a w K Q else E := by
  obtain ⟨v', w', hr, h2, h3, h4⟩ := run_push (P := P) w t o.type T sz bytes z enc ht hinfo hzs hs0 hby hl hone base v xs hown A m c ys hsrc hn hbase
  have hw : Region.wanted o (yielded ops a.tmps) = true := by simp [Region.wanted, hgd]
  rw [if_pos hw]
  unfold Oper.wp execOp
  simp only [ho, resolve, invoke, builtin, Sem.run_bind, Sem.run_pure, Result.andThen_ok, List.map_toArray, List.map_cons, List.map_nil, hs, hx, hr]
  exact h v' w' h2 h3 h4
end
/-- a copy under way: the first k are there -/
def half {α : Type} (xs : List α) (n k : Nat) (z : α) : List α := xs.take k ++ List.replicate (n - k) z
theorem half_at {α : Type} {xs : List α} {n k : Nat} {z : α} (hl : xs.length = n) (hk : k < n) : (half xs n k z)[k]? = some z := by
  unfold half
  rw [List.getElem?_append_right (by rw [List.length_take]; omega), List.length_take, show k - min k xs.length = 0 from by omega, List.getElem?_replicate, if_pos (by omega)]
theorem half_set {α : Type} {xs : List α} {n k : Nat} {x z : α} (hl : xs.length = n) (hx : xs[k]? = some x) : (half xs n k z).set k x = half xs n (k + 1) z := by
  have hk := (List.getElem?_eq_some_iff.1 hx).1
  have hlt : (xs.take k).length = k := by rw [List.length_take]; omega
  unfold half
  rw [show n - k = n - (k + 1) + 1 from by omega, List.replicate_succ, take_snoc hx, List.append_assoc]
  rw [List.set_append]
  rw [if_neg (by omega), hlt, Nat.sub_self]
  rfl
theorem half_all {α : Type} {xs : List α} {n : Nat} {z : α} (hl : xs.length = n) : half xs n n z = xs := by
  unfold half; rw [Nat.sub_self, List.take_of_length_le (by omega)]; simp
theorem half_none {α : Type} (xs : List α) (n : Nat) (z : α) : half xs n 0 z = List.replicate n z := by unfold half; simp
/-- stores into an element -/
theorem flat_set1 {α : Type} {enc : α → List Value} (y : α) (a : Value) (ha : enc y = [a]) (h1 : ∀ x, (enc x).length = 1) : ∀ (xs : List α) (j : Nat), (xs.flatMap enc).set j a = (xs.set j y).flatMap enc
  | [], j => by simp
  | x :: t, 0 => by
    obtain ⟨b, hb⟩ := List.length_eq_one_iff.1 (h1 x)
    simp [List.flatMap_cons, hb, ha]
  | x :: t, j + 1 => by
    obtain ⟨b, hb⟩ := List.length_eq_one_iff.1 (h1 x)
    have := flat_set1 y a ha h1 t j
    simp [List.flatMap_cons, hb, this]
theorem list_two {l : List Value} (h : l.length = 2) : ∃ u v, l = [u, v] := by
  match l, h with
  | [u, v], _ => exact ⟨u, v, rfl⟩
theorem flat_set2 {α : Type} {enc : α → List Value} (y : α) (a b : Value) (ha : enc y = [a, b]) (h1 : ∀ x, (enc x).length = 2) : ∀ (xs : List α) (j : Nat), ((xs.flatMap enc).set (j * 2) a).set (j * 2 + 1) b = (xs.set j y).flatMap enc
  | [], j => by simp
  | x :: t, 0 => by
    obtain ⟨u, v, hb⟩ := list_two (h1 x)
    simp [List.flatMap_cons, hb, ha]
  | x :: t, j + 1 => by
    obtain ⟨u, v, hb⟩ := list_two (h1 x)
    have := flat_set2 y a b ha h1 t j
    rw [show (j + 1) * 2 = j * 2 + 1 + 1 from by omega]
    simp [List.flatMap_cons, hb, this]
theorem madeCells2 (a b : Value) (n : Nat) : (madeCells #[a, b] (n * 2)).toList = (List.replicate n [a, b]).flatMap id := by
  apply List.ext_getElem?
  intro j
  have hl : ∀ n, ((List.replicate n [a, b]).flatMap id).length = n * 2 := by
    intro n
    induction n with
    | zero => simp
    | succ n ih => rw [List.replicate_succ, List.flatMap_cons, List.length_append, ih]; simp; omega
  by_cases hj : j < n * 2
  · have h1 : (madeCells #[a, b] (n * 2)).toList[j]? = some (if j % 2 = 0 then a else b) := by
      have : j % 2 = 0 ∨ j % 2 = 1 := by omega
      rcases this with h | h <;> simp [madeCells, hj, h]
    rw [h1]
    have hd := Nat.div_add_mod j 2
    clear h1
    have gen : ∀ (n j : Nat), j < n * 2 → ((List.replicate n [a, b]).flatMap id)[j]? = some (if j % 2 = 0 then a else b) := by
      intro n
      induction n with
      | zero => intro j hj; omega
      | succ n ih =>
        intro j hj
        rw [List.replicate_succ, List.flatMap_cons]
        match j, hj with
        | 0, _ => simp
        | 1, _ => simp
        | j + 2, hj =>
          have := ih j (by omega)
          rw [List.getElem?_append_right (by simp)]
          simp only [id, List.length_cons, List.length_nil]
          rw [show j + 2 - (0 + 1 + 1) = j from by omega, this]
          rw [show (j + 2) % 2 = j % 2 from by omega]
    rw [gen n j hj]
  · rw [List.getElem?_eq_none (by simp [madeCells]; omega), List.getElem?_eq_none (by rw [hl]; omega)]
theorem OSl.set2 {α : Type} {T : Nat} {enc : α → List Value} {w : World} {base g n c : Nat} {xs : List α} (h : OSl T 2 enc w base (.slice (some ⟨g, 0, none⟩) n c) xs) (h1 : ∀ x, (enc x).length = 2) (j : Nat) (y : α) (a b : Value) (ha : enc y = [a, b]) :
    OSl T 2 enc ((w.setCell ⟨g, j * 2, none⟩ a).setCell ⟨g, j * 2 + 1, none⟩ b) base (.slice (some ⟨g, 0, none⟩) n c) (xs.set j y) := by
  have hn : xs.length = n := by
    obtain ⟨A, c', hv, _⟩ := h.form
    injection hv with _ h2 _
    exact h2.symm
  unfold OSl at h ⊢
  rw [hn] at h
  have k1 := (World.ownsRow.stored h (j * 2) a).1
  have k2 := (World.ownsRow.stored k1 (j * 2 + 1) b).1
  rw [flat_set2 y a b ha h1] at k2
  rw [List.length_set, hn]
  exact k2
theorem OSl.set1 {α : Type} {T : Nat} {enc : α → List Value} {w : World} {base g n c : Nat} {xs : List α} (h : OSl T 1 enc w base (.slice (some ⟨g, 0, none⟩) n c) xs) (h1 : ∀ x, (enc x).length = 1) (j : Nat) (y : α) (a : Value) (ha : enc y = [a]) :
    OSl T 1 enc (w.setCell ⟨g, j, none⟩ a) base (.slice (some ⟨g, 0, none⟩) n c) (xs.set j y) := by
  have hn : xs.length = n := by
    obtain ⟨A, c', hv, _⟩ := h.form
    injection hv with _ h2 _
    exact h2.symm
  unfold OSl at h ⊢
  rw [hn] at h
  have k1 := (World.ownsRow.stored h j a).1
  rw [flat_set1 y a ha h1] at k1
  rw [List.length_set, hn]
  exact k1
theorem OSl.cell {α : Type} {T sz : Nat} {enc : α → List Value} {w : World} {base g n c : Nat} {xs : List α} (h : OSl T sz enc w base (.slice (some ⟨g, 0, none⟩) n c) xs) (hl : ∀ x, (enc x).length = sz) {j : Nat} {x : α} {i : Nat} {u : Value} (hj : xs[j]? = some x) (hu : (enc x)[i]? = some u) : w.cell? ⟨g, j * sz + i, none⟩ = some u := by
  have := World.ownsRow.cells h (g := g) rfl (j * sz + i) u (flat_at hl xs j x i u hj hu)
  rwa [Addr.add_lit, Nat.zero_add] at this
theorem OSl.free {α : Type} {T sz : Nat} {enc : α → List Value} {w : World} {base g n c : Nat} {xs : List α} (h : OSl T sz enc w base (.slice (some ⟨g, 0, none⟩) n c) xs) (i : Nat) : w.frozen? ⟨g, i, none⟩ = false := by
  have hn : xs.length = n := by
    obtain ⟨A, c', hv, _⟩ := h.form
    injection hv with _ h2 _
    exact h2.symm
  unfold OSl at h
  rw [hn] at h
  exact World.ownsRow.frozenAt h i
theorem OSl.len {α : Type} {T sz : Nat} {enc : α → List Value} {w : World} {base n c : Nat} {A : Option Addr} {xs : List α} (h : OSl T sz enc w base (.slice A n c) xs) : xs.length = n := by
  obtain ⟨A', c', hv, _⟩ := h.form
  injection hv with _ h2 _
  exact h2.symm
theorem flat_setAt {α : Type} {enc : α → List Value} {sz : Nat} (hl : ∀ x, (enc x).length = sz) : ∀ (xs : List α) (j i : Nat) (x y : α) (u : Value), xs[j]? = some x → i < sz → (enc x).set i u = enc y → (xs.flatMap enc).set (j * sz + i) u = (xs.set j y).flatMap enc
  | [], j, i, x, y, u, h, _, _ => by simp at h
  | z :: t, 0, i, x, y, u, h, hi, he => by
    simp at h; subst h
    rw [List.flatMap_cons, Nat.zero_mul, Nat.zero_add, List.set_append_left _ _ (by rw [hl]; exact hi), he]
    rfl
  | z :: t, j + 1, i, x, y, u, h, hi, he => by
    rw [List.flatMap_cons, List.set_append_right _ _ (by rw [hl, Nat.add_mul]; omega), hl, show (j + 1) * sz + i - sz = j * sz + i from by rw [Nat.add_mul]; omega,
      flat_setAt hl t j i x y u (by simpa using h) hi he]
    rfl
theorem OSl.setAt {α : Type} {T sz : Nat} {enc : α → List Value} {w : World} {base g n c : Nat} {xs : List α} (h : OSl T sz enc w base (.slice (some ⟨g, 0, none⟩) n c) xs) (hl : ∀ x, (enc x).length = sz) (j i : Nat) (x y : α) (u : Value) (hx : xs[j]? = some x) (hi : i < sz) (he : (enc x).set i u = enc y) :
    OSl T sz enc (w.setCell ⟨g, j * sz + i, none⟩ u) base (.slice (some ⟨g, 0, none⟩) n c) (xs.set j y) := by
  have hn : xs.length = n := h.len
  unfold OSl at h ⊢
  rw [hn] at h
  have k1 := (World.ownsRow.stored h (j * sz + i) u).1
  rw [flat_setAt hl xs j i x y u hx hi he] at k1
  rw [List.length_set, hn]
  exact k1
theorem OSl.base_lt {α : Type} {T sz : Nat} {enc : α → List Value} {w : World} {base g n c : Nat} {xs : List α} (h : OSl T sz enc w base (.slice (some ⟨g, 0, none⟩) n c) xs) : base ≤ g ∧ g < w.heap.size := World.ownsRow.lt h g rfl
/-- behind an append, and what a call may change -/
theorem Chg.pushed {S : Nat → Prop} {α : Type} {T sz : Nat} {enc : α → List Value} {a w w' : World} {base : Nat} {v : Value} {xs : List α} (h : Chg S a w) (hg : w.grownBy w' v.ownBlock) (ho : OSl T sz enc w base v xs) (hb : a.heap.size ≤ base) : Chg S a w' :=
  h.grown hg (fun k hk hlt => by have := (World.ownsRow.lt ho k hk).1; omega)
/-- what make lays -/
theorem madeK (l : List Value) (h : 0 < l.length) (n : Nat) : (madeCells l.toArray (n * l.length)).toList = (List.replicate n ()).flatMap fun _ => l := by
  apply List.ext_getElem?
  intro j
  by_cases hj : j < n * l.length
  · have hm : j % l.length < l.length := Nat.mod_lt _ h
    have hd : j / l.length < n := Nat.div_lt_of_lt_mul (by rw [Nat.mul_comm]; exact hj)
    have := flat_at (enc := fun (_ : Unit) => l) (sz := l.length) (fun _ => rfl) (List.replicate n ()) (j / l.length) () (j % l.length) (l[j % l.length]) (by simp [hd]) (List.getElem?_eq_getElem hm)
    rw [Nat.mul_comm, Nat.div_add_mod] at this
    rw [this]
    simp [madeCells, hj, hm]
  · rw [List.getElem?_eq_none (by simp [madeCells]; omega), List.getElem?_eq_none (by rw [flat_length (sz := l.length) (fun _ => rfl), List.length_replicate]; omega)]
theorem flat_const {α : Type} (l : List Value) (z : α) (enc : α → List Value) (hz : enc z = l) : ∀ n, ((List.replicate n ()).flatMap fun _ => l) = (List.replicate n z).flatMap enc
  | 0 => rfl
  | n + 1 => by rw [List.replicate_succ, List.replicate_succ, List.flatMap_cons, List.flatMap_cons, flat_const l z enc hz n, hz]
end Go.Proofs.Ytifdcdpdihfbjaa
