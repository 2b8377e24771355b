/- Bits of tags: what filters say of tags from 0 to 15. No program is named here. -/
import Derived.Test.YtkglmhhihpofiaaFilt
namespace Go.Proofs.Ytkglmhhihpofiaa
open Go.RowKit
set_option linter.unusedVariables false
theorem i64_and_nat (a b : Nat) (ha : a < 9223372036854775808) (hb : b < 9223372036854775808) : bits .and .i64 (a : Int) (b : Int) = ((a &&& b : Nat) : Int) := by
  have hx : a &&& b < 2 ^ 63 := Nat.and_lt_two_pow _ (by omega)
  show IntKind.i64.wrap ((BitVec.ofInt 64 (a : Int) &&& BitVec.ofInt 64 (b : Int)).toNat : Int) = _
  rw [BitVec.toNat_and, ofInt_i64 a ha, ofInt_i64 b hb, IntKind.wrap_i64]
  omega
theorem i64_or_nat (a b : Nat) (ha : a < 9223372036854775808) (hb : b < 9223372036854775808) : bits .or .i64 (a : Int) (b : Int) = ((a ||| b : Nat) : Int) := by
  have hx : a ||| b < 2 ^ 63 := Nat.or_lt_two_pow (by omega) (by omega)
  show IntKind.i64.wrap ((BitVec.ofInt 64 (a : Int) ||| BitVec.ofInt 64 (b : Int)).toNat : Int) = _
  rw [BitVec.toNat_or, ofInt_i64 a ha, ofInt_i64 b hb, IntKind.wrap_i64]
  omega
theorem tags_nat {a : Int} (h : tagsB a = true) : ∃ n : Nat, a = (n : Int) ∧ n < 16 := by
  unfold tagsB inB at h
  obtain ⟨n, rfl⟩ := Int.eq_ofNat_of_zero_le (a := a) (by simp at h; omega)
  exact ⟨n, rfl, by simp at h; omega⟩
theorem nat_tags {n : Nat} (h : n < 16) : tagsB (n : Int) = true := by unfold tagsB inB; simp; omega
def passN (a b c t : Nat) : Bool := (t &&& a == a) && ((t &&& b == 0) && ((c == 0) || (t &&& c != 0)))
theorem beq_cast (a b : Nat) : ((a : Int) == (b : Int)) = (a == b) := by
  rw [Bool.eq_iff_iff]; simp; omega
theorem beq_cast0 (a : Nat) : ((a : Int) == 0) = (a == 0) := by
  rw [Bool.eq_iff_iff]; simp
theorem passB_nat {a b c t : Nat} (ha : a < 16) (hb : b < 16) (hc : c < 16) (ht : t < 16) : passB (a : Int) (b : Int) (c : Int) (t : Int) = passN a b c t := by
  unfold passB passN
  rw [i64_and_nat t a (by omega) (by omega), i64_and_nat t b (by omega) (by omega), i64_and_nat t c (by omega) (by omega)]
  simp only [beq_cast, beq_cast0, bne]
theorem PassB_nat {a b c t : Nat} (ha : a < 16) (hb : b < 16) (hc : c < 16) (ht : t < 16) : PassB (a : Int) (b : Int) (c : Int) (t : Int) = passN a b c t := by
  unfold PassB filterB
  rw [nat_tags ha, nat_tags hb, nat_tags hc, nat_tags ht, passB_nat ha hb hc ht]
  rfl
theorem filter_nat {a b c : Int} (h : filterB a b c = true) : ∃ x y z : Nat, a = x ∧ b = y ∧ c = z ∧ x < 16 ∧ y < 16 ∧ z < 16 := by
  unfold filterB at h
  simp only [Bool.and_eq_true] at h
  obtain ⟨x, hx, hx'⟩ := tags_nat h.1
  obtain ⟨y, hy, hy'⟩ := tags_nat h.2.1
  obtain ⟨z, hz, hz'⟩ := tags_nat h.2.2
  exact ⟨x, y, z, hx, hy, hz, hx', hy', hz'⟩
/-- a filter passes what its parts pass -/
theorem pass_parts {a b c t : Int} (h : filterB a b c = true) (ht : tagsB t = true) : PassB a b c t = (PassB a 0 0 t && (PassB 0 b 0 t && PassB 0 0 c t)) := by
  obtain ⟨x, y, z, rfl, rfl, rfl, hx, hy, hz⟩ := filter_nat h
  obtain ⟨n, rfl, hn⟩ := tags_nat ht
  rw [PassB_nat hx hy hz hn]
  have e1 := PassB_nat (a := x) (b := 0) (c := 0) hx (by omega) (by omega) hn
  have e2 := PassB_nat (a := 0) (b := y) (c := 0) (by omega) hy (by omega) hn
  have e3 := PassB_nat (a := 0) (b := 0) (c := z) (by omega) (by omega) hz hn
  simp only [Int.cast_ofNat_Int] at e1 e2 e3
  rw [e1, e2, e3]
  unfold passN
  simp
theorem pass_open {t : Int} (ht : tagsB t = true) : PassB 0 0 0 t = true := by
  obtain ⟨n, rfl, hn⟩ := tags_nat ht
  have e1 := PassB_nat (a := 0) (b := 0) (c := 0) (t := n) (by omega) (by omega) (by omega) hn
  simp only [Int.cast_ofNat_Int] at e1
  rw [e1]; simp [passN]
/-- bit by bit, as far as the bits below b -/
def okAt (x y t b : Int) : Bool := !((x / b % 2 == 1) && !(t / b % 2 == 1) || (y / b % 2 == 1) && (t / b % 2 == 1))
def anyAt (z t b : Int) : Bool := (z / b % 2 == 1) && (t / b % 2 == 1)
def rightTo (x y t b : Int) : Bool := [1, 2, 4, 8].all fun j => decide (b ≤ j) || okAt x y t j
def someTo (z t b : Int) : Bool := (z == 0) || [1, 2, 4, 8].any fun j => decide (j < b) && anyAt z t j
def Bit (b : Int) : Prop := b = 1 ∨ b = 2 ∨ b = 4 ∨ b = 8
theorem rightTo_step {b : Int} (x y t : Int) (h : Bit b) : rightTo x y t (2 * b) = (rightTo x y t b && okAt x y t b) := by
  rcases h with rfl | rfl | rfl | rfl <;> simp [rightTo] <;> simp [Bool.and_assoc]
theorem someTo_step {b : Int} (z t : Int) (h : Bit b) : someTo z t (2 * b) = (someTo z t b || anyAt z t b) := by
  rcases h with rfl | rfl | rfl | rfl <;> simp [someTo] <;> simp [Bool.or_assoc]
theorem right_all : ∀ x, x < 16 → ∀ y, y < 16 → ∀ t, t < 16 → rightTo ((x : Nat) : Int) ((y : Nat) : Int) ((t : Nat) : Int) 16 = ((t &&& x == x) && (t &&& y == 0)) := by decide +kernel
theorem some_all : ∀ z, z < 16 → ∀ t, t < 16 → someTo ((z : Nat) : Int) ((t : Nat) : Int) 16 = ((z == 0) || (t &&& z != 0)) := by decide +kernel
theorem pass_bits {a b c t : Int} (h : filterB a b c = true) (ht : tagsB t = true) : PassB a b c t = (rightTo a b t 16 && someTo c t 16) := by
  obtain ⟨x, y, z, rfl, rfl, rfl, hx, hy, hz⟩ := filter_nat h
  obtain ⟨n, rfl, hn⟩ := tags_nat ht
  rw [PassB_nat hx hy hz hn, right_all x hx y hy n hn, some_all z hz n hn]
  unfold passN
  rw [Bool.and_assoc]
/-- both filters -/
theorem both_land : ∀ t, t < 16 → ∀ a, a < 16 → ∀ b, b < 16 → (t &&& (a ||| b) == (a ||| b)) = ((t &&& a == a) && (t &&& b == b)) := by decide +kernel
theorem both_none : ∀ t, t < 16 → ∀ a, a < 16 → ∀ b, b < 16 → (t &&& (a ||| b) == 0) = ((t &&& a == 0) && (t &&& b == 0)) := by decide +kernel
theorem lor_lt : ∀ a, a < 16 → ∀ b, b < 16 → a ||| b < 16 := by decide +kernel
theorem both_filter {a b c a' b' c' : Int} (h : bothOk a b c a' b' c' = true) : filterB (bits .or .i64 a a') (bits .or .i64 b b') (bits .or .i64 c c') = true := by
  unfold bothOk at h
  simp only [Bool.and_eq_true] at h
  obtain ⟨x, y, z, rfl, rfl, rfl, hx, hy, hz⟩ := filter_nat h.1
  obtain ⟨x', y', z', rfl, rfl, rfl, hx', hy', hz'⟩ := filter_nat h.2.1
  rw [i64_or_nat x x' (by omega) (by omega), i64_or_nat y y' (by omega) (by omega), i64_or_nat z z' (by omega) (by omega)]
  unfold filterB
  rw [nat_tags (lor_lt x hx x' hx'), nat_tags (lor_lt y hy y' hy'), nat_tags (lor_lt z hz z' hz')]
  rfl
theorem both_pass {a b c a' b' c' t : Int} (h : bothOk a b c a' b' c' = true) (ht : tagsB t = true) :
    PassB (bits .or .i64 a a') (bits .or .i64 b b') (bits .or .i64 c c') t = (PassB a b c t && PassB a' b' c' t) := by
  unfold bothOk at h
  simp only [Bool.and_eq_true] at h
  obtain ⟨x, y, z, rfl, rfl, rfl, hx, hy, hz⟩ := filter_nat h.1
  obtain ⟨x', y', z', rfl, rfl, rfl, hx', hy', hz'⟩ := filter_nat h.2.1
  obtain ⟨n, rfl, hn⟩ := tags_nat ht
  have h3 := h.2.2
  simp only [beq_cast0] at h3
  rw [i64_or_nat x x' (by omega) (by omega), i64_or_nat y y' (by omega) (by omega), i64_or_nat z z' (by omega) (by omega),
    PassB_nat (lor_lt x hx x' hx') (lor_lt y hy y' hy') (lor_lt z hz z' hz') hn, PassB_nat hx hy hz hn, PassB_nat hx' hy' hz' hn]
  unfold passN
  rw [both_land n hn x hx x' hx', both_none n hn y hy y' hy']
  have h4 : z = 0 ∨ z' = 0 := by simpa using h3
  rcases h4 with rfl | rfl
  · simp only [Nat.zero_or, BEq.rfl, Bool.true_or, Bool.and_true]
    cases (n &&& x == x) <;> cases (n &&& x' == x') <;> cases (n &&& y == 0) <;> cases (n &&& y' == 0) <;> rfl
  · simp only [Nat.or_zero, BEq.rfl, Bool.true_or, Bool.and_true]
    cases (n &&& x == x) <;> cases (n &&& x' == x') <;> cases (n &&& y == 0) <;> cases (n &&& y' == 0) <;> cases (z == 0 || n &&& z != 0) <;> rfl
theorem or_comm_ (a b : Int) : bits .or .i64 a b = bits .or .i64 b a := by
  show IntKind.i64.wrap ((BitVec.ofInt 64 a ||| BitVec.ofInt 64 b).toNat : Int) = IntKind.i64.wrap ((BitVec.ofInt 64 b ||| BitVec.ofInt 64 a).toNat : Int)
  rw [BitVec.or_comm]
theorem or_zero_ {a : Int} (h : tagsB a = true) : bits .or .i64 a 0 = a := by
  obtain ⟨n, rfl, hn⟩ := tags_nat h
  have := i64_or_nat n 0 (by omega) (by omega)
  simpa using this
theorem iPassesV {a b c t : Int} {v : Bool} (h : PassB a b c t = v) (w : World) : Calls Try.prog 38 #[.agg #[.int .i64 a, .int .i64 b, .int .i64 c], .int .i64 t] w fun e w' => e = .returned (.bool v) ∧ Chg No w w' := by
  subst h; exact iPasses a b c t w
end Go.Proofs.Ytkglmhhihpofiaa
