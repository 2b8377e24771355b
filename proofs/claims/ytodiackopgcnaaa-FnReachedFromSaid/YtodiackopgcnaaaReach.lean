/- ReachedFrom: the program's and the reference's answer the same plain function. -/
import Derived.Test.YtodiackopgcnaaaLinksJ
import Derived.Test.YtodiackopgcnaaaIndex
import Derived.Test.YtodiackopgcnaaaPReach
import Derived.Test.YtodiackopgcnaaaSortI
namespace Go.Proofs.Ytodiackopgcnaaa
open Go.RowKit Go.Sort Go.Shelf
set_option linter.unusedVariables false
set_option linter.unusedSimpArgs false
theorem mapI_flatS (l : List Int) : l.map (Value.int .i64) = l.flatMap cInt := by
  induction l with
  | nil => rfl
  | cons x t ih => rw [List.map_cons, List.flatMap_cons, ih]; rfl
set_option maxHeartbeats 1000000 in
theorem sortIntsS (base : Nat) (A : Option Addr) (n c : Nat) (xs : List Int) (w : World) (h : OInts w base (.slice A n c) xs) (h0 : 0 < n) (hn : n ≤ 100000000) :
    Calls Try.prog 40 #[.slice A n c] w fun e w' => e = .returned (.tuple #[]) ∧ OInts w' base (.slice A n c) (xs.mergeSort fun x y => decide (x ≤ y)) ∧ Chg (fun k => (Value.slice A n c).ownBlock = some k) w w' := by
  have hl := h.len
  obtain ⟨A', c', hv, _, _, hA⟩ := OSl.form h
  injection hv with v1 v2 v3
  obtain ⟨g, hAg, hgb, hgl⟩ := hA (by omega)
  rw [hAg] at v1
  subst v1
  clear v2 v3 hA hAg
  obtain ⟨cur, _, hg, _, hnc, hcm, hcs⟩ := OSl.hd0 h
  have hH : Holds (Value.int .i64) w g 0 xs.toArray := by
    intro j hj
    have hj' : j < xs.length := by simpa using hj
    have e : (xs.flatMap cInt)[j]? = some (Value.int .i64 (xs.toArray[j]!)) := by
      rw [← mapI_flatS, List.getElem?_map, List.getElem?_eq_getElem hj']
      simp [hj']
    have := World.ownsRow.cells h (g := g) rfl j _ e
    rw [Addr.add_lit] at this
    exact ⟨this, h.free _⟩
  have hsz : xs.length < 4611686018427387904 := by omega
  have hcon := AnyM.slices_Sort_int sortSL g 0 c xs w hH hgl hsz
  have hcon' : Calls Try.prog 40 #[.slice (some ⟨g, 0, none⟩) n c] w fun e w' => e = .returned (.tuple #[]) ∧ ∃ m os, w' = grow (putRow (Value.int .i64) (Sort.ahead w m) g 0 (xs.mergeSort fun x y => decide (x ≤ y)).toArray) os := by
    rw [← hl]
    exact hcon
  refine hcon'.mono fun e w' ⟨he, m, os, hw⟩ => ?_
  obtain ⟨ss, hss⟩ : ∃ ss, (xs.mergeSort fun x y => decide (x ≤ y)) = ss := ⟨_, rfl⟩
  have hsl : ss.length = n := by rw [← hl, ← hss]; exact (List.mergeSort_perm xs _).length_eq
  rw [hss] at hw ⊢
  have hchg : Chg (fun k => k = g) w w' := by rw [hw]; exact putRow_chg (Value.int .i64) w g m _ os
  refine ⟨he, ?_, hchg.mono (fun i _ (h : i = g) => by rw [h]; rfl)⟩
  obtain ⟨cur', k1, k2, k3⟩ := put_block (Value.int .i64) (w := Sort.ahead w m) (g := g) (d := ss.toArray) hg (by rw [hcs]; simp only [List.size_toArray, hsl]; omega)
  have k4 : w'.heap[g]? = some (.cells cur' 3 (0, 0)) := by rw [hw]; exact grow_block os k1
  simp only [List.size_toArray, hsl] at k3
  rw [mapI_flatS] at k3
  unfold OInts OSl
  rw [hsl]
  exact ⟨by rw [flat_length (sz := 1) (fun _ => rfl), hsl], .inr ⟨g, c, cur', rfl, hgb, k4, hnc, hcm, by rw [k2, hcs], by rw [Nat.mul_one]; exact k3⟩⟩
set_option maxHeartbeats 1000000 in
theorem sIsIn (l0 h0 : Nat) (A : Option Addr) (n c : Nat) (xs : List Int) (x : Int) (w : World) (hx : RInts w l0 h0 A n c xs) :
    Calls Try.prog 46 #[.slice A n c, .int .i64 x] w fun e w' => e = .returned (.bool (decide (x ∈ xs))) ∧ w = w' := by
  have hnc := hx.le; have hcm := hx.cap
  have HX := hid hx
  generalize hr : decide (x ∈ xs) = r at *
  have HR := hid hr
  clear hx hr
  go_enter Try.func46, Try.ntmps46
  go_wp2
  go_loop [5] (fun i => ∃ k : Nat, k ≤ n ∧ i = .int .i64 k ∧ Hid (∀ (j : Nat) (y : Int), j < k → xs[j]? = some y → y ≠ x)) (fun i => n - (intOf i).toNat)
  case atStart => exact ⟨0, Nat.zero_le _, rfl, fun j y hj => absurd hj (by omega)⟩
  case round =>
    obtain ⟨k, hk, rfl, HN⟩ := hrel
    by_cases hlt : k < n
    · obtain ⟨b, o, y, rfl, _, _, hyk, hE⟩ := HX.out.at_ hlt
      have hE1 : w.cell? ⟨b, o + k, none⟩ = some (.int .i64 y) := by simpa [EInt] using hE
      have Hyk := hid hyk
      clear hyk hE
      by_cases he : y = x
      · have e1 : (y == x) = true := by simp [he]
        have HF := hid (show r = true from by rw [← HR.out, decide_eq_true_iff]; rw [← he]; exact List.mem_of_getElem? Hyk.out)
        clear he
        go_wp2
        go_ret
        exact ⟨by rw [HF.out]; rfl, rfl⟩
      · have e1 : (y == x) = false := by simp [he]
        have HN2 : Hid (∀ (j : Nat) (z : Int), j < k + 1 → xs[j]? = some z → z ≠ x) := fun j z hj hz => by
          by_cases hjk : j < k
          · exact HN.out j z hjk hz
          · obtain rfl : j = k := by omega
            rw [Hyk.out] at hz; injection hz with hz; subst hz; exact he
        clear he
        go_wp2
        go_round
        case rel => exact ⟨k + 1, by omega, by go_num, HN2⟩
        case measure => simp [intOf]; omega
    · have HF := hid (show r = false from by
        rw [← HR.out]
        refine decide_eq_false (fun h => ?_)
        obtain ⟨j, hj⟩ := List.getElem?_of_mem h
        exact HN.out j x (by have := (List.getElem?_eq_some_iff.1 hj).1; have := HX.out.len; omega) hj rfl)
      go_wp2
      go_ret
      exact ⟨by rw [HF.out]; rfl, rfl⟩
/-- what can be reached, of valid arguments -/
def reachOk (l : List It) (kind many key : Int) : Bool := linkB l kind many && decide (0 ≤ keyAtF l key)
noncomputable def ReachF (l : List It) (kind many key : Int) : List Int := if reachOk l kind many key = true then reachL l kind many key else []
theorem ReachF_no {l : List It} {kind many key : Int} (h : reachOk l kind many key = false) : ReachF l kind many key = [] := by unfold ReachF; rw [h]; rfl
theorem ReachF_ok {l : List It} {kind many key : Int} (h : reachOk l kind many key = true) : ReachF l kind many key = reachL l kind many key := by unfold ReachF; rw [h]; rfl
theorem chg_of_eq {P : Program} {f : Nat} {args : Array Value} {w : World} {v : Value} (h : Calls P f args w fun e w' => e = .returned v ∧ w = w') : Calls P f args w fun e w' => e = .returned v ∧ Chg No w w' :=
  h.mono (fun _ _ ⟨he, hw⟩ => ⟨he, by rw [← hw]; exact Chg.refl _ _⟩)
set_option maxRecDepth 100000 in
set_option maxHeartbeats 8000000 in
theorem iReachedFrom (l0 h0 : Nat) (A : Option Addr) (n c : Nat) (xs : List It) (kind many key : Int) (w : World) (hx : RItems w l0 h0 A n c xs) :
    Calls Try.prog 12 #[.slice A n c, .int .i64 kind, .int .i64 many, .int .i64 key] w (RetInts (ReachF xs kind many key) w) := by
  have hnc := hx.le; have hcm := hx.cap
  have HX := hid hx
  have K1 := hid (fun W (h : RItems W l0 h0 A n c xs) => iCanLink l0 h0 A n c xs kind many W h)
  have K2 := hid (fun W (h : RItems W l0 h0 A n c xs) => indexOf l0 h0 A n c xs key W h)
  cases hq : linkB xs kind many with
  | false =>
    rw [hq] at K1
    have HF := hid (ReachF_no (key := key) (by unfold reachOk; rw [hq]; rfl))
    clear hq hx
    go_enter Try.func12, Try.ntmps12
    (go_wp2_with fail; (with_reducible refine (K1.out _ HX.out).mono ?_); rintro e w1 ⟨rfl, hc1⟩)
    go_wp2
    go_ret
    exact ⟨_, rfl, by rw [HF.out]; exact OSl.nil_ _, by (repeat (first | (with_reducible exact Chg.refl _ _) | ((with_reducible refine Chg.setNew ?_ _ ?_); rotate_left; first | (dsimp only; omega) | (simp; done) | (simp; omega)) | (with_reducible refine Chg.alloc ?_ _) | (with_reducible refine Chg.drew ?_) | (with_reducible refine Chg.drewN ?_ _) | (with_reducible refine Chg.no ?_ (by assumption)) | (with_reducible refine Chg.and_ ?_ (by assumption)) | ((with_reducible refine Chg.at_ ?_ (by assumption) ?_); rotate_left; (try simp only [World.size_alloc]); omega)))⟩
  | true =>
    by_cases hk0 : 0 ≤ keyAtF xs key
    · have hok := linkB_ok hq
      rw [hq] at K1
      have HF := hid (ReachF_ok (key := key) (by unfold reachOk; rw [hq, decide_eq_true hk0]; rfl))
      have HKA := hid (keyAt_mem.1 hk0)
      have HOK := hid hok
      have hxl : xs.length = n := hx.len
      have hn16 : n ≤ 16 := by have := storeB_len hok.store; omega
      have K3 := hid (fun W (h : RItems W l0 h0 A n c xs) => iLinksL l0 h0 A n c xs kind many W h hok)
      obtain ⟨L, hL⟩ : ∃ L, linksL xs kind many = L := ⟨_, rfl⟩
      have hLl : L.length = xs.length := by rw [← hL, linksL_len]
      rw [hL] at K3
      have HLL := hid hL
      generalize keyAtF xs key = r at *
      have HXL := hid hxl
      have hLn : n ≤ L.length := by omega
      have hLn2 : L.length ≤ n := by omega
      have hxn : n ≤ xs.length := by omega
      have hxn2 : xs.length ≤ n := by omega
      clear hq hx hok hL hLl hxl
      go_enter Try.func12, Try.ntmps12
      (go_wp2_with fail; (with_reducible refine (K1.out _ HX.out).mono ?_); rintro e w1 ⟨rfl, hc1⟩)
      (go_wp2_with fail; (with_reducible refine (K2.out _ (HX.out.no hc1)).mono ?_); rintro e w2 ⟨rfl, hc2⟩)
      (go_wp2_with fail; (with_reducible refine (K3.out _ (HX.out.no (hc1.no hc2))).mono ?_); rintro e w4 ⟨v4, rfl, ho4, hc4⟩)
      obtain ⟨A4, c4, rfl, hr4⟩ := ORows.read ho4
      have hp4 := hr4.cap; have hq4 := hr4.le
      have R4 := hid hr4
      have q4 : Chg No w w4 := (hc1.no hc2).no hc4
      clear ho4 hr4 hc1 hc2 hc4 K1 K2 K3
      have HB0 := hid (BfsOk.start (gOf xs kind many) HKA.out)
      obtain ⟨w5, hw5⟩ : ∃ W, w4.alloc (.cells #[.int .i64 key] 3) = W := ⟨_, rfl⟩
      have h45 : Chg No w4 w5 := by rw [← hw5]; exact (Chg.refl No w4).alloc _
      have q5 : Chg No w w5 := q4.no h45
      have s5 : w4.heap.size + 1 = w5.heap.size := by rw [← hw5]; simp
      have s5' : w4.heap.size + 1 ≤ w5.heap.size := by omega
      have HO0 := hid (show OInts w5 w4.heap.size (.slice (some ⟨w4.heap.size, 0, none⟩) 1 1) [key] from by rw [← hw5]; exact OSl.lit (T := 3) (sz := 1) (enc := cInt) (w := w4.alloc (.cells #[.int .i64 key] 3)) (base := w4.heap.size) (n := 1) [key] [.int .i64 key] (fun _ => rfl) rfl rfl (by omega) (Nat.le_refl _) (heap_top rfl))
      have HW0 := hid (show ∀ b, (Value.slice (some ⟨w4.heap.size, 0, none⟩) 1 1).ownBlock = some b → b = w4.heap.size ∨ w5.heap.size ≤ b from fun b hb => by injection hb with hb; exact Or.inl hb.symm)
      have R5 := hid (R4.out.no h45)
      have s4 := q4.size
      clear s5
      go_wp2
      go_loopw [10, 11] (fun v i wr => ∃ (O : List Int) (j : Nat), j ≤ O.length ∧ i = .int .i64 j ∧ Chg (fun b => b = w4.heap.size) w5 wr ∧ Hid (BfsOk (gOf xs kind many) key (xs.map (·.key)) O j) ∧ Hid (OInts wr w4.heap.size v O) ∧ Hid (∀ b, v.ownBlock = some b → b = w4.heap.size ∨ w5.heap.size ≤ b)) (fun _ i _ => 20 - (intOf i).toNat)
      case atStart => exact ⟨[key], 0, Nat.zero_le _, rfl, by first | exact Chg.refl _ _ | (rw [← hw5]; exact Chg.refl _ _), HB0, by first | exact HO0 | (rw [hw5]; exact HO0), HW0⟩
      case round =>
        clear HO0 HW0 HB0 hw5
        obtain ⟨O, j, hj, rfl, hc, HB, HO, HW⟩ := hrel
        obtain ⟨wo, rfl⟩ : ∃ W : World, W = wr := ⟨_, rfl⟩
        have so := hc.size
        have qo : Chg No w wo := q5.trans hc (fun i hi (h : i = _) => by omega)
        have hOl : O.length ≤ 16 := by have h9 := HB.out.len; rw [List.length_map] at h9; omega
        obtain ⟨A9, c9, hv9, hr9⟩ := OInts.read HO.out
        subst hv9
        have hp9 := hr9.cap; have hq9 := hr9.le
        have HR9 := hid hr9
        clear hr9
        by_cases hlt : j < O.length
        · obtain ⟨b, o, y, rfl, _, _, hyj, hE⟩ := HR9.out.at_ hlt
          have f1 : wo.cell? ⟨b, o + j, none⟩ = some (.int .i64 y) := by simpa [EInt] using hE
          obtain ⟨q, x, hxq, hxy, hkq⟩ := keyAt_some HOK.out.store (HB.out.inn y (List.mem_of_getElem? hyj))
          have hql := (List.getElem?_eq_some_iff.1 hxq).1
          have hqn : q < n := by omega
          have hqL : q < L.length := by omega
          have KX := hid (fun W (h : Chg No wo W) => indexOf l0 h0 A n c xs y W (HX.out.no (qo.no h)))
          rw [hkq] at KX
          have HY := hid hyj
          have HQ := hid hkq
          clear hyj hE hxq hxy hkq hql
          (go_wp2_with fail; (with_reducible refine (KX.out _ (Chg.refl _ _)).mono ?_); rintro e w6 ⟨rfl, hc6⟩)
          obtain ⟨bL, oL, r, Ar, nr, cr, rfl, _, _, hr, fL, hvr⟩ := ((R5.out.keep hc (fun b h1 h2 (h3 : b = _) => by omega)).no hc6).at_ hqL
          have hrr : r = gOf xs kind many y := by
            have h9 := linksL_at (l := xs) (kind := kind) (many := many) (i := q) (by omega)
            rw [HLL.out, hr] at h9
            injection h9 with h9
            rw [h9]; unfold gOf; rw [HQ.out]; rfl
          have hr16 : r.length ≤ 16 := by rw [hrr]; unfold gOf; rw [HQ.out]; rw [show ((q : Int)).toNat = q from rfl, linkAt_len (by omega)]; omega
          obtain rfl : nr = r.length := hvr.len.symm
          have hlr := hvr.le; have hpr := hvr.cap
          have HRR := hid hrr
          have HVR := hid hvr
          have s6 := hc6.size
          have HO6 := hid (OSl.no HO.out hc6)
          have hc06 : Chg (fun b => b = w4.heap.size) w5 w6 := hc.no hc6
          have s56 := hc06.size
          clear hr hvr hrr HO HR9
          go_wp2
          go_loopw [10, 47] (fun v i wr => ∃ (O' : List Int) (m : Nat), m ≤ r.length ∧ i = .int .i64 m ∧ Chg (fun b => w4.heap.size ≤ b) w6 wr ∧ Chg (fun b => b = w4.heap.size) w5 wr ∧ Hid (BfsOk (gOf xs kind many) key (xs.map (·.key)) O' j) ∧ Hid (O'[j]? = some y) ∧ Hid (∀ z ∈ r.take m, z ∈ O') ∧ Hid (OInts wr w4.heap.size v O') ∧ Hid (∀ b, v.ownBlock = some b → b = w4.heap.size ∨ w5.heap.size ≤ b)) (fun _ i _ => r.length - (intOf i).toNat)
          case atStart => exact ⟨O, 0, Nat.zero_le _, rfl, Chg.refl _ _, hc06, HB, HY, hid (fun z hz => by simp at hz), HO6, HW⟩
          case round =>
            clear HO6 HW HB HY hlt hc06 hOl hp9 hq9 hj
            obtain ⟨O', m, hm, rfl, hcm6, hcm, HB, HY, HA, HO, HW⟩ := hrel
            obtain ⟨wi, rfl⟩ : ∃ W : World, W = wr := ⟨_, rfl⟩
            have si := hcm.size
            have hOl : O'.length ≤ 16 := by have h9 := HB.out.len; rw [List.length_map] at h9; omega
            have hjO : j < O'.length := (List.getElem?_eq_some_iff.1 HY.out).1
            obtain ⟨A8, c8, hv8, hr8⟩ := OInts.read HO.out
            subst hv8
            have hp8 := hr8.cap; have hq8 := hr8.le
            have HR8 := hid hr8
            clear hr8
            by_cases hlm : m < r.length
            · obtain ⟨b7, o7, z, rfl, _, _, hzm, hE⟩ := (HVR.out.keep hcm6 (fun b h1 h2 (h3 : _ ≤ b) => by omega)).at_ hlm
              have g1 : wi.cell? ⟨b7, o7 + m, none⟩ = some (.int .i64 z) := by simpa [EInt] using hE
              have hzr : z ∈ gOf xs kind many y := by rw [← HRR.out]; exact List.mem_of_getElem? hzm
              have HZ := hid hzr
              have HTK := hid (take_snoc hzm)
              have KC := hid (containsI _ _ A8 O'.length c8 O' z wi HR8.out)
              clear hzm hE hzr
              by_cases hin : z ∈ O'
              · rw [decide_eq_true hin] at KC
                have HA2 := hid (show ∀ z ∈ r.take (m + 1), z ∈ O' from fun u hu => by
                  rw [HTK.out] at hu
                  rcases List.mem_append.1 hu with hu | hu
                  · exact HA.out u hu
                  · rw [List.mem_singleton.1 hu]; exact hin)
                clear hin
                (go_wp2_with fail; (with_reducible refine KC.out.mono ?_); rintro e w7 ⟨rfl, rfl⟩)
                go_wp2
                go_roundw
                case rel => exact ⟨O', m + 1, by omega, by go_num, hcm6, hcm, HB, HY, HA2, HO, HW⟩
                case measure => simp [intOf]; omega
              · rw [decide_eq_false hin] at KC
                have HB2 := hid (HB.out.push (Nat.le_of_lt hjO) (List.mem_of_getElem? HY.out) HZ.out (gOf_keys HZ.out) hin)
                have HA2 := hid (show ∀ u ∈ r.take (m + 1), u ∈ O' ++ [z] from fun u hu => by
                  rw [HTK.out] at hu
                  rcases List.mem_append.1 hu with hu | hu
                  · exact List.mem_append.2 (Or.inl (HA.out u hu))
                  · exact List.mem_append.2 (Or.inr hu))
                have HY2 := hid (show (O' ++ [z])[j]? = some y from by rw [List.getElem?_append_left hjO]; exact HY.out)
                have HH := hid (OSl.alloc HO.out (.cells #[.int .i64 z] 3))
                have HX1 := hid (Src.one (sz := 1) (enc := cInt) (y := z) (Box.new (w := wi) (g := wi.heap.size) [.int .i64 z] 3 rfl) rfl)
                clear hin
                (go_wp2_with fail; (with_reducible refine KC.out.mono ?_); rintro e w7 ⟨rfl, rfl⟩)
                go_wp2_with (at_builtin; refine wpList_push _ rfl _ _ 26 rfl 3 1 8 (.int .i64 0) cInt Try.underlying26 infoInt rfl (by omega) (by omega) (fun _ => rfl) oneInt w4.heap.size _ O' rfl HH.out _ 1 1 [z] rfl HX1.out (by omega) (by simp; omega) ?_; intro v' w8 ho hg2 hb2)
                have hc8 : Chg (fun b => b = w4.heap.size) w5 w8 := Chg.grown (hcm.alloc _) hg2 (fun b hb hlt => by
                  rcases HW.out b hb with h | h
                  · exact h
                  · omega)
                have hc86 : Chg (fun b => w4.heap.size ≤ b) w6 w8 := Chg.grown (hcm6.alloc _) hg2 (fun b hb hlt => by
                  rcases HW.out b hb with h | h
                  · exact Nat.le_of_eq h.symm
                  · exact Nat.le_trans (by omega) h)
                have HW2 : Hid (∀ b, v'.ownBlock = some b → b = w4.heap.size ∨ w5.heap.size ≤ b) := fun b hb => by
                  rcases hb2 b hb with h | h
                  · exact HW.out b h
                  · simp only [World.size_alloc] at h; exact Or.inr (by omega)
                have HO2 := hid ho
                clear ho hg2 hb2 HX1 HH HO HW
                go_wp2
                go_roundw
                case rel => exact ⟨O' ++ [z], m + 1, by omega, by go_num, hc86, hc8, HB2, HY2, HA2, HO2, HW2⟩
                case measure => simp [intOf]; omega
            · have HB2 := hid (HB.out.next HY.out (fun z hz => HA.out z (by rw [List.take_of_length_le (by omega), HRR.out]; exact hz)))
              go_wp2
              go_roundw
              case rel => exact ⟨O', j + 1, by omega, by go_num, hcm, HB2, HO, HW⟩
              case measure => simp [intOf]; omega
        · have hjO : j = O.length := by omega
          subst hjO
          skip
          have hpos : 0 < O.length := List.length_pos_of_mem HB.out.first
          have KS := hid (sortIntsS w4.heap.size A9 O.length c9 O wo HO.out hpos (by omega))
          have HM := hid (bfs_sort HOK.out.store HB.out (m := O.mergeSort fun x y => decide (x ≤ y)) (by
            have := List.pairwise_mergeSort (le := fun x y : Int => decide (x ≤ y)) (fun a b c h k => by simp only [decide_eq_true_eq] at *; omega) (fun a b => by simp only [Bool.or_eq_true, decide_eq_true_eq]; omega) O
            exact this.imp (fun h => of_decide_eq_true h)) (List.mergeSort_perm _ _))
          have HOW := hid (World.ownsRow.lt HO.out)
          (go_wp2_with fail; (with_reducible refine KS.out.mono ?_); rintro e w6 ⟨rfl, ho6, hc6⟩)
          have h06 : Chg No w w6 := qo.trans hc6 (fun i hi h => by have := (HOW.out i h).1; omega)
          have HO6 := hid (OSl.down ho6 (base' := w.heap.size) s4)
          clear ho6 hc6
          go_wp2
          go_ret
          exact ⟨_, rfl, by rw [HF.out, ← HM.out]; exact HO6.out, h06⟩
    · have hk0' : keyAtF xs key < 0 := by omega
      rw [hq] at K1
      have HF := hid (ReachF_no (key := key) (by unfold reachOk; rw [hq, decide_eq_false hk0]; rfl))
      generalize keyAtF xs key = r at *
      clear hq hx hk0
      go_enter Try.func12, Try.ntmps12
      (go_wp2_with fail; (with_reducible refine (K1.out _ HX.out).mono ?_); rintro e w1 ⟨rfl, hc1⟩)
      (go_wp2_with fail; (with_reducible refine (K2.out _ (HX.out.no hc1)).mono ?_); rintro e w2 ⟨rfl, hc2⟩)
      go_wp2
      go_ret
      exact ⟨_, rfl, by rw [HF.out]; exact OSl.nil_ _, by (repeat (first | (with_reducible exact Chg.refl _ _) | ((with_reducible refine Chg.setNew ?_ _ ?_); rotate_left; first | (dsimp only; omega) | (simp; done) | (simp; omega)) | (with_reducible refine Chg.alloc ?_ _) | (with_reducible refine Chg.drew ?_) | (with_reducible refine Chg.drewN ?_ _) | (with_reducible refine Chg.no ?_ (by assumption)) | (with_reducible refine Chg.and_ ?_ (by assumption)) | ((with_reducible refine Chg.at_ ?_ (by assumption) ?_); rotate_left; (try simp only [World.size_alloc]); omega)))⟩
end Go.Proofs.Ytodiackopgcnaaa
