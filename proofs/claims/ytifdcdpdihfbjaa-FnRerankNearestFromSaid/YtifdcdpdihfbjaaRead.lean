/- The reader of the drawn arguments: newReader, pick, one. -/
import Derived.Test.YtifdcdpdihfbjaaProg
import Derived.Test.YtifdcdpdihfbjaaMem
namespace Go.Proofs.Ytifdcdpdihfbjaa
open Go.RowKit
set_option linter.unusedVariables false
set_option maxHeartbeats 1000000 in
theorem pick_lt1 (g : Nat) (A : Option Addr) (n c : Nat) (p k : Int) (w : World) (hp0 : 0 ≤ p) (hp1 : p < 1000000) (hk : k < 1)
    (_hc0 : w.cell? ⟨g, 0, none⟩ = some (.slice A n c)) (hc1 : w.cell? ⟨g, 1, none⟩ = some (.int .i64 p)) (hf : w.frozen? ⟨g, 1, none⟩ = false) :
    Calls Try.prog 81 #[.pointer (some ⟨g, 0, none⟩), .int .i64 k] w fun e w' => e = .returned (.int .i64 0) ∧ w' = w.setCell ⟨g, 1, none⟩ (.int .i64 (p + 1)) := by
  go_enter Try.func81, Try.ntmps81
  go_wp2
  go_ret
  exact ⟨rfl, rfl⟩
set_option maxHeartbeats 1000000 in
theorem pick_none (g : Nat) (A : Option Addr) (n c : Nat) (p k : Int) (w : World) (hp0 : 0 ≤ p) (hp1 : p < 1000000) (hk : ¬ k < 1) (hn : ((n : Int) == 0) = true)
    (hc0 : w.cell? ⟨g, 0, none⟩ = some (.slice A n c)) (hc1 : w.cell? ⟨g, 1, none⟩ = some (.int .i64 p)) (hf : w.frozen? ⟨g, 1, none⟩ = false) :
    Calls Try.prog 81 #[.pointer (some ⟨g, 0, none⟩), .int .i64 k] w fun e w' => e = .returned (.int .i64 0) ∧ w' = w.setCell ⟨g, 1, none⟩ (.int .i64 (p + 1)) := by
  go_enter Try.func81, Try.ntmps81
  go_wp2
  go_ret
  exact ⟨rfl, rfl⟩
set_option maxHeartbeats 1000000 in
theorem pick_in (g : Nat) (n c : Nat) (p k : Int) (w : World) (hk : k ≤ 1000000) (hn : n ≤ 2000) (hp0 : 0 ≤ p) (hp1 : p < 1000000) (b o : Nat) (x : Int)
    (hc0 : w.cell? ⟨g, 0, none⟩ = some (.slice (some ⟨b, o, none⟩) n c)) (hc1 : w.cell? ⟨g, 1, none⟩ = some (.int .i64 p)) (hf : w.frozen? ⟨g, 1, none⟩ = false)
    (h1 : ¬ k < 1) (h2 : ((n : Int) == 0) = false) (h3 : p < n) (hx : w.cell? ⟨b, o + p.toNat, none⟩ = some (.int .u8 x)) (hne : ¬ b = g) (hx0 : 0 ≤ x) (hx1 : x < 256) :
    Calls Try.prog 81 #[.pointer (some ⟨g, 0, none⟩), .int .i64 k] w fun e w' => e = .returned (.int .i64 (x % k)) ∧ w' = w.setCell ⟨g, 1, none⟩ (.int .i64 (p + 1)) := by
  go_enter Try.func81, Try.ntmps81
  go_wp2
  go_ret
  exact ⟨rfl, rfl⟩
set_option maxHeartbeats 1000000 in
theorem pick_out (g : Nat) (n c : Nat) (p k : Int) (w : World) (hk : k ≤ 1000000) (hn : n ≤ 2000) (hp0 : 0 ≤ p) (hp1 : p < 1000000) (b o : Nat) (x y : Int)
    (hc0 : w.cell? ⟨g, 0, none⟩ = some (.slice (some ⟨b, o, none⟩) n c)) (hc1 : w.cell? ⟨g, 1, none⟩ = some (.int .i64 p)) (hf : w.frozen? ⟨g, 1, none⟩ = false)
    (h1 : ¬ k < 1) (h2 : ((n : Int) == 0) = false) (h2' : 1 ≤ n) (h3 : ¬ p < n) (hx : w.cell? ⟨b, o + (p % n).toNat, none⟩ = some (.int .u8 x)) (hy : w.cell? ⟨b, o + ((p * 7 + 3) % n).toNat, none⟩ = some (.int .u8 y)) (hne : ¬ b = g) (hx0 : 0 ≤ x) (hx1 : x < 256) (hy0 : 0 ≤ y) (hy1 : y < 256)
    (hm1 : 0 ≤ p % n) (hm2 : p % n < n) (hm3 : 0 ≤ (p * 7 + 3) % n) (hm4 : (p * 7 + 3) % n < n) (hq0 : 0 ≤ p / n) (hq1 : p / n ≤ p) :
    Calls Try.prog 81 #[.pointer (some ⟨g, 0, none⟩), .int .i64 k] w fun e w' => (∃ x : Int, e = .returned (.int .i64 x) ∧ Picked k x) ∧ ∃ q, w' = (w.setCell ⟨g, 1, none⟩ (.int .i64 (p + 1))).drewN q := by
  go_enter Try.func81, Try.ntmps81
  go_wp2
  go_quiet (fail)
  go_wp2
  go_ret
  exact ⟨⟨_, rfl, picked_of _ _ (by omega) (by omega) (by omega)⟩, _, rfl⟩

/-- a number has been drawn: below k, or 0 -/
def Drawn (B g m : Nat) (k : Int) (w : World) (e : Ending) (w' : World) : Prop := ∃ x : Int, e = .returned (.int .i64 x) ∧ Picked k x ∧ Rd w' B g (m + 1) ∧ Chg (At g) w w'
theorem pick {B : Nat} (g m : Nat) (k : Int) (w : World) (hR : Rd w B g m) (hm : m < 1000000) (hk : k ≤ 1000000) :
    Calls Try.prog 81 #[.pointer (some ⟨g, 0, none⟩), .int .i64 k] w (Drawn B g m k w) := by
  obtain ⟨A, n, c, p, T, hb, hp0, hpm, hn, hBg, hbytes⟩ := hR
  have hc0 : w.cell? ⟨g, 0, none⟩ = some (.slice A n c) := by rw [cell_of_row w g 0 _ T (0, 0) hb]; rfl
  have hc1 : w.cell? ⟨g, 1, none⟩ = some (.int .i64 p) := by rw [cell_of_row w g 1 _ T (0, 0) hb]; rfl
  have hf : w.frozen? ⟨g, 1, none⟩ = false := by simp [World.frozen?, hb]
  have hset : ∀ q, Rd ((w.setCell ⟨g, 1, none⟩ (.int .i64 (p + 1))).drewN q) B g (m + 1) ∧ Chg (At g) w ((w.setCell ⟨g, 1, none⟩ (.int .i64 (p + 1))).drewN q) := fun q =>
    ⟨Rd.set_ hb hp0 hpm hn hBg hbytes q, ((Chg.refl (At g) w).setCell (p := ⟨g, 1, none⟩) _ (fun _ => rfl)).drewN q⟩
  by_cases h1 : k < 1
  · refine (pick_lt1 g A n c p k w hp0 (by omega) h1 hc0 hc1 hf).mono fun e w' ⟨he, hw⟩ => ?_
    subst hw
    exact ⟨0, he, ⟨Int.le_refl _, .inr rfl⟩, (hset 0).1, (hset 0).2⟩
  · by_cases h2 : n = 0
    · refine (pick_none g A n c p k w hp0 (by omega) h1 (by simp [h2]) hc0 hc1 hf).mono fun e w' ⟨he, hw⟩ => ?_
      subst hw
      exact ⟨0, he, ⟨Int.le_refl _, .inr rfl⟩, (hset 0).1, (hset 0).2⟩
    · obtain ⟨b, o, rfl, hbB, hx⟩ := hbytes (by omega)
      have hne : ¬ b = g := by omega
      have h2b : ((n : Int) == 0) = false := by simp; omega
      by_cases h3 : p < n
      · obtain ⟨x, hx0, hx1, hxc⟩ := hx p.toNat (by omega)
        refine (pick_in g n c p k w hk hn hp0 (by omega) b o x hc0 hc1 hf h1 h2b h3 hxc hne hx0 hx1).mono fun e w' ⟨he, hw⟩ => ?_
        subst hw
        exact ⟨_, he, picked_mod k x (by omega), (hset 0).1, (hset 0).2⟩
      · have hm1 : 0 ≤ p % n := Int.emod_nonneg _ (by omega)
        have hm2 : p % n < n := Int.emod_lt_of_pos _ (by omega)
        have hm3 : 0 ≤ (p * 7 + 3) % n := Int.emod_nonneg _ (by omega)
        have hm4 : (p * 7 + 3) % n < n := Int.emod_lt_of_pos _ (by omega)
        obtain ⟨x, hx0, hx1, hxc⟩ := hx (p % n).toNat (by omega)
        obtain ⟨y, hy0, hy1, hyc⟩ := hx ((p * 7 + 3) % n).toNat (by omega)
        refine (pick_out g n c p k w hk hn hp0 (by omega) b o x y hc0 hc1 hf h1 h2b (by omega) h3 hxc hyc hne hx0 hx1 hy0 hy1 hm1 hm2 hm3 hm4 (Int.ediv_nonneg hp0 (by omega)) (Int.ediv_le_self _ hp0)).mono fun e w' ⟨⟨z, he, hz⟩, q, hw⟩ => ?_
        subst hw
        exact ⟨z, he, hz, (hset q).1, (hset q).2⟩
/-- a number of the list has been drawn -/
def DrawnOf (B g m : Nat) (xs : List Int) (w : World) (e : Ending) (w' : World) : Prop := ∃ x : Int, e = .returned (.int .i64 x) ∧ x ∈ xs ∧ Rd w' B g (m + 1) ∧ Chg (At g) w w'
set_option maxHeartbeats 1000000 in
theorem one {B : Nat} (g m : Nat) (lo hi : Nat) (A : Option Addr) (n c : Nat) (xs : List Int) (w : World) (hR : Rd w B g m) (hm : m < 1000000) (hn0 : 0 < n) (hn : n ≤ 1000000) (hx : RInts w lo hi A n c xs) (hg : g < lo) :
    Calls Try.prog 86 #[.pointer (some ⟨g, 0, none⟩), .slice A n c] w (DrawnOf B g m xs w) := by
  go_enter Try.func86, Try.ntmps86
  go_wp2_with fail
  refine (pick g m _ w hR hm (by omega)).mono ?_
  rintro e w1 ⟨k, rfl, hk, hR1, hc1⟩
  have hk2 : k < n := by rcases hk.2 with h | h <;> omega
  have hk1 := hk.1
  obtain ⟨i, rfl⟩ := Int.eq_ofNat_of_zero_le hk1
  obtain ⟨b, o, x, hA, hl, hh, hxi, hE⟩ := (hx.keep hc1 (fun k h1 h2 (e : k = g) => by omega)).at_ (k := i) (by omega)
  subst hA
  have hE1 : w1.cell? ⟨b, o + i, none⟩ = some (.int .i64 x) := by simpa [EInt] using hE
  have Hxi := hid hxi
  clear hxi hx hE hR hk
  go_wp2
  go_ret
  exact ⟨x, rfl, List.mem_of_getElem? Hxi.out, hR1, hc1⟩
/-- .. of a literal -/
theorem oneLit {B : Nat} (g m : Nat) (xs : List Int) (n b : Nat) (w : World) (hR : Rd w B g m) (hm : m < 1000000) {T : Nat} {cs : Array Value} {fr : Nat × Nat} (hb : w.heap[b]? = some (.cells cs T fr)) (hcs : cs = (xs.map (Value.int .i64)).toArray) (hn : n = xs.length) (hn0 : 0 < n) (hn1 : n ≤ 1000000) (hg : g < b) :
    Calls Try.prog 86 #[.pointer (some ⟨g, 0, none⟩), .slice (some ⟨b, 0, none⟩) n n] w (DrawnOf B g m xs w) :=
  one g m b (b + 1) _ n n xs w hR hm hn0 hn1 (RInts.lit hb xs hcs hn hn1) hg
set_option maxHeartbeats 1000000 in
theorem newReader_short (A : Option Addr) (n c : Nat) (w : World) (hn : n ≤ 2000) (hnc : n ≤ c) (hc : c ≤ 9223372036854775807) :
    Calls Try.prog 42 #[.slice A n c] w fun e w' => e = .returned (.pointer (some ⟨w.heap.size, 0, none⟩)) ∧ w' = w.alloc (.cells #[.slice A n c, .int .i64 0] 93) := by
  go_enter Try.func42, Try.ntmps42
  go_wp2
  go_ret
  exact ⟨rfl, rfl⟩
set_option maxHeartbeats 1000000 in
theorem newReader_long (A : Option Addr) (n c : Nat) (w : World) (hn : 2000 < n) (hnc : n ≤ c) (hc : c ≤ 9223372036854775807) :
    Calls Try.prog 42 #[.slice A n c] w fun e w' => e = .returned (.pointer (some ⟨w.heap.size, 0, none⟩)) ∧ w' = w.alloc (.cells #[.slice A 2000 c, .int .i64 0] 93) := by
  go_enter Try.func42, Try.ntmps42
  go_wp2
  go_ret
  exact ⟨rfl, rfl⟩
/-- the code that came in: bytes that can be read -/
def Code (w : World) (B : Nat) (A : Option Addr) (n c : Nat) : Prop := n ≤ c ∧ c ≤ 9223372036854775807 ∧ (0 < n → ∃ b o, A = some ⟨b, o, none⟩ ∧ b < B ∧ ∀ k, k < n → ∃ x : Int, 0 ≤ x ∧ x < 256 ∧ w.cell? ⟨b, o + k, none⟩ = some (.int .u8 x))
theorem Code.no {w w' : World} {B : Nat} {A : Option Addr} {n c : Nat} (h : Code w B A n c) (hc : Chg No w w') : Code w' B A n c := by
  refine ⟨h.1, h.2.1, fun hn => ?_⟩
  obtain ⟨b, o, hA, hb, hx⟩ := h.2.2 hn
  refine ⟨b, o, hA, hb, fun k hk => ?_⟩
  obtain ⟨x, h0, h1, h2⟩ := hx k hk
  exact ⟨x, h0, h1, cell_keep hc h2 (fun e => e)⟩
/-- the reader begins -/
theorem newReader (B : Nat) (A : Option Addr) (n c : Nat) (w : World) (hC : Code w B A n c) (hB : B ≤ w.heap.size) :
    Calls Try.prog 42 #[.slice A n c] w fun e w' => e = .returned (.pointer (some ⟨w.heap.size, 0, none⟩)) ∧ Rd w' B w.heap.size 0 ∧ Chg No w w' := by
  have hR : ∀ k, k ≤ n → k ≤ 2000 → Rd (w.alloc (.cells #[.slice A k c, .int .i64 0] 93)) B w.heap.size 0 := fun k hk hk2 => by
    refine ⟨A, k, c, 0, 93, heap_alloc_new w _, Int.le_refl _, by omega, hk2, hB, fun h0 => ?_⟩
    obtain ⟨b, o, hA, hb, hx⟩ := hC.2.2 (by omega)
    refine ⟨b, o, hA, hb, fun j hj => ?_⟩
    obtain ⟨x, h1, h2, h3⟩ := hx j (by omega)
    exact ⟨x, h1, h2, by rw [World.cell?_alloc_lt _ _ _ (cell_lt h3)]; exact h3⟩
  by_cases h : n ≤ 2000
  · exact (newReader_short A n c w h hC.1 hC.2.1).mono fun e w' ⟨he, hw⟩ => ⟨he, by subst hw; exact ⟨hR n (Nat.le_refl _) h, (Chg.refl _ w).alloc _⟩⟩
  · exact (newReader_long A n c w (by omega) hC.1 hC.2.1).mono fun e w' ⟨he, hw⟩ => ⟨he, by subst hw; exact ⟨hR 2000 (by omega) (Nat.le_refl _), (Chg.refl _ w).alloc _⟩⟩
end Go.Proofs.Ytifdcdpdihfbjaa
