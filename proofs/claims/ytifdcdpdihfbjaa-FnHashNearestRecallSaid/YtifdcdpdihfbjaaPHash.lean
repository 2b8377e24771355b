/- Plain facts on hashes: dot products, hashes of vectors, bits in which hashes differ, buckets. No program is named here. -/
import Derived.Test.YtifdcdpdihfbjaaPStore
namespace Go.Proofs.Ytifdcdpdihfbjaa
open Go.RowKit
set_option linter.unusedVariables false
set_option linter.unusedSimpArgs false
/-- the sum of products -/
def dotF (a b : List Int) : Int := (a.zip b).foldl (fun n p => n + p.1 * p.2) 0
theorem dotF_snoc {a b : List Int} {k : Nat} {x y : Int} (ha : a[k]? = some x) (hb : b[k]? = some y) : dotF (a.take (k + 1)) (b.take (k + 1)) = dotF (a.take k) (b.take k) + x * y := by
  unfold dotF
  rw [zip_snoc ha hb, List.foldl_append]
  rfl
theorem mul_bd {x y : Int} (hx : -100 ≤ x ∧ x ≤ 100) (hy : -100 ≤ y ∧ y ≤ 100) : -10000 ≤ x * y ∧ x * y ≤ 10000 := by
  have h : (x * y).natAbs ≤ 100 * 100 := by
    rw [Int.natAbs_mul]
    exact Nat.mul_le_mul (by omega) (by omega)
  omega
theorem dot_bd : ∀ (l : List (Int × Int)), (∀ p ∈ l, (-100 ≤ p.1 ∧ p.1 ≤ 100) ∧ (-100 ≤ p.2 ∧ p.2 ≤ 100)) → ∀ n, n - 10000 * (l.length : Int) ≤ l.foldl (fun n p => n + p.1 * p.2) n ∧ l.foldl (fun n p => n + p.1 * p.2) n ≤ n + 10000 * (l.length : Int)
  | [], _, n => by simp
  | p :: l, h, n => by
    have hp := h p (by simp)
    have h1 := mul_bd hp.1 hp.2
    have h2 := dot_bd l (fun q hq => h q (by simp [hq])) (n + p.1 * p.2)
    simp only [List.foldl_cons, List.length_cons]
    omega
theorem dotF_bd {a b : List Int} (ha : Small a) (hb : Small b) : -(10000 * (a.length : Int)) ≤ dotF a b ∧ dotF a b ≤ 10000 * (a.length : Int) := by
  have h := dot_bd (a.zip b) (fun p hp => by
    have := List.of_mem_zip (a := p.1) (b := p.2) hp
    exact ⟨ha _ this.1, hb _ this.2⟩) 0
  have hl : ((a.zip b).length : Int) ≤ a.length := by rw [List.length_zip]; omega
  unfold dotF
  omega
/-- one bit more -/
def hStep (at_ : List Int) (n : Int) (p : List Int) : Int := 2 * n + (if 0 ≤ dotF p at_ then 1 else 0)
/-- the hash of a vector -/
def hashF (planes : List (List Int)) (at_ : List Int) : Int := planes.foldl (hStep at_) 0
theorem hashF_snoc {ps : List (List Int)} {at_ : List Int} {k : Nat} {p : List Int} (h : ps[k]? = some p) : hashF (ps.take (k + 1)) at_ = hStep at_ (hashF (ps.take k) at_) p := by
  unfold hashF; rw [take_snoc h, List.foldl_append]; rfl
theorem hash_go (at_ : List Int) : ∀ (ps : List (List Int)) (n : Int), 0 ≤ n → n * 2 ^ ps.length ≤ ps.foldl (hStep at_) n ∧ ps.foldl (hStep at_) n < (n + 1) * 2 ^ ps.length
  | [], n, h => by simp; omega
  | p :: ps, n, h => by
    have hs : 2 * n ≤ hStep at_ n p ∧ hStep at_ n p ≤ 2 * n + 1 := by unfold hStep; split <;> omega
    have h2 := hash_go at_ ps (hStep at_ n p) (by omega)
    simp only [List.foldl_cons, List.length_cons]
    have hp : (0 : Int) < 2 ^ ps.length := Int.pow_pos (by omega)
    have e : (2 : Int) ^ (ps.length + 1) = 2 * 2 ^ ps.length := by rw [Int.pow_succ, Int.mul_comm]
    rw [e]
    generalize (2 : Int) ^ ps.length = P at *
    have a1 : 2 * n * P ≤ hStep at_ n p * P := Int.mul_le_mul_of_nonneg_right hs.1 (by omega)
    have a2 : (hStep at_ n p + 1) * P ≤ (2 * n + 2) * P := Int.mul_le_mul_of_nonneg_right (by omega) (by omega)
    have e1 : n * (2 * P) = 2 * n * P := by rw [← Int.mul_assoc, Int.mul_comm n 2]
    have e2 : (n + 1) * (2 * P) = (2 * n + 2) * P := by rw [← Int.mul_assoc]; congr 1; omega
    omega
theorem hashF_bd (ps : List (List Int)) (at_ : List Int) : 0 ≤ hashF ps at_ ∧ hashF ps at_ < 2 ^ ps.length := by
  have h := hash_go at_ ps 0 (by omega)
  unfold hashF; omega
theorem pow_le6 {n : Nat} (h : n ≤ 6) : (2 : Int) ^ n ≤ 64 := by
  have : n = 0 ∨ n = 1 ∨ n = 2 ∨ n = 3 ∨ n = 4 ∨ n = 5 ∨ n = 6 := by omega
  rcases this with rfl | rfl | rfl | rfl | rfl | rfl | rfl <;> decide
theorem hashF_64 {ps : List (List Int)} (h : ps.length ≤ 6) (at_ : List Int) : 0 ≤ hashF ps at_ ∧ hashF ps at_ < 64 := by
  have := hashF_bd ps at_; have := pow_le6 h; omega
/-- valid planes -/
def planesB (ps : List (List Int)) : Bool := decide (1 ≤ ps.length ∧ ps.length ≤ 6) && ps.all vecB
theorem planesB_iff (ps : List (List Int)) : planesB ps = true ↔ (1 ≤ ps.length ∧ ps.length ≤ 6) ∧ ∀ p ∈ ps, vecB p = true := by
  unfold planesB; simp
/-- HashOf -/
def HashF (ps : List (List Int)) (at_ : List Int) : Int := if planesB ps && vecB at_ then hashF ps at_ else -1
theorem HashF_ok {ps : List (List Int)} {at_ : List Int} (h1 : planesB ps = true) (h2 : vecB at_ = true) : HashF ps at_ = hashF ps at_ := by unfold HashF; rw [h1, h2]; rfl
theorem HashF_no {ps : List (List Int)} {at_ : List Int} (h : (planesB ps && vecB at_) = false) : HashF ps at_ = -1 := by unfold HashF; rw [h]; rfl
/-- the opposite vector -/
def negV (v : List Int) : List Int := v.map fun x => -x
theorem negV_vec {v : List Int} (h : vecB v = true) : vecB (negV v) = true := by
  rw [vecB_iff] at *
  refine ⟨by unfold negV; rw [List.length_map]; exact h.1, fun x hx => ?_⟩
  obtain ⟨y, hy, rfl⟩ := List.mem_map.1 hx
  have := h.2 y hy
  omega
theorem dot_neg : ∀ (a b : List Int) (n : Int), (a.zip (negV b)).foldl (fun n p => n + p.1 * p.2) (-n) = -((a.zip b).foldl (fun n p => n + p.1 * p.2) n)
  | [], b, n => by simp
  | x :: a, [], n => by simp [negV]
  | x :: a, y :: b, n => by
    have h := dot_neg a b (n + x * y)
    have e : -n + x * -y = -(n + x * y) := by rw [Int.mul_neg]; omega
    show (a.zip (negV b)).foldl _ (-n + x * -y) = _
    rw [e, h]
    rfl
theorem dotF_neg (a b : List Int) : dotF a (negV b) = -dotF a b := by
  have := dot_neg a b 0
  unfold dotF
  simpa using this
/-- opposite vectors have opposite hashes, where no plane goes through them -/
theorem hash_opp (at_ : List Int) : ∀ (ps : List (List Int)) (n m : Int), (∀ p ∈ ps, dotF p at_ ≠ 0) → ps.foldl (hStep (negV at_)) m + ps.foldl (hStep at_) n = (n + m + 1) * 2 ^ ps.length - 1
  | [], n, m, _ => by simp; omega
  | p :: ps, n, m, h => by
    have hp := h p (by simp)
    have hs : hStep (negV at_) m p + hStep at_ n p = 2 * (n + m) + 1 := by
      unfold hStep; rw [dotF_neg]
      by_cases h0 : 0 ≤ dotF p at_
      · rw [if_pos h0, if_neg (by omega)]; omega
      · rw [if_neg h0, if_pos (by omega)]; omega
    have h2 := hash_opp at_ ps (hStep at_ n p) (hStep (negV at_) m p) (fun q hq => h q (by simp [hq]))
    simp only [List.foldl_cons, List.length_cons]
    rw [h2]
    have e : (2 : Int) ^ (ps.length + 1) = 2 * 2 ^ ps.length := by rw [Int.pow_succ, Int.mul_comm]
    rw [e, ← Int.mul_assoc]
    congr 2
    omega
theorem HashF_opp {ps : List (List Int)} {at_ : List Int} (h1 : planesB ps = true) (h2 : vecB at_ = true) (h : ∀ p ∈ ps, dotF p at_ ≠ 0) : HashF ps (negV at_) = 2 ^ ps.length - 1 - HashF ps at_ := by
  rw [HashF_ok h1 h2, HashF_ok h1 (negV_vec h2)]
  have := hash_opp at_ ps 0 0 h
  unfold hashF
  omega
/-! ### bits -/
/-- how many bits are set -/
def popN : Nat → Nat → Nat
  | 0, _ => 0
  | f + 1, n => if n = 0 then 0 else n % 2 + popN f (n / 2)
def popF (x : Int) : Int := (popN 64 x.toNat : Int)
theorem popN_le : ∀ (f n : Nat), popN f n ≤ f
  | 0, _ => Nat.le_refl _
  | f + 1, n => by
    unfold popN
    split
    · omega
    · have := popN_le f (n / 2); omega
theorem popN_zero (f : Nat) : popN f 0 = 0 := by cases f <;> rfl
/-- in how many bits two hashes differ -/
def apartF (a b : Int) : Int := popF (bits .xor .i64 a b)
theorem xor_64 {a b : Int} (ha : 0 ≤ a ∧ a < 64) (hb : 0 ≤ b ∧ b < 64) : 0 ≤ bits .xor .i64 a b ∧ bits .xor .i64 a b < 64 := by
  obtain ⟨x, rfl⟩ := Int.eq_ofNat_of_zero_le ha.1
  obtain ⟨y, rfl⟩ := Int.eq_ofNat_of_zero_le hb.1
  rw [i64_xor_nat x y (by omega) (by omega)]
  have := Nat.xor_lt_two_pow (x := x) (y := y) (n := 6) (by omega) (by omega)
  omega
theorem pop_all : ∀ n, n < 64 → popN 64 n ≤ 6 := by decide +kernel
theorem popF_6 {x : Int} (h0 : 0 ≤ x) (h : x < 64) : 0 ≤ popF x ∧ popF x ≤ 6 := by
  have := pop_all x.toNat (by omega)
  unfold popF; omega
theorem apartF_6 {a b : Int} (ha : 0 ≤ a ∧ a < 64) (hb : 0 ≤ b ∧ b < 64) : 0 ≤ apartF a b ∧ apartF a b ≤ 6 := by
  have := xor_64 ha hb
  exact popF_6 this.1 this.2
theorem apartF_self {a : Int} (ha : 0 ≤ a ∧ a < 64) : apartF a a = 0 := by
  obtain ⟨x, rfl⟩ := Int.eq_ofNat_of_zero_le ha.1
  unfold apartF
  rw [i64_xor_nat x x (by omega) (by omega), Nat.xor_self]
  rfl
/-- the loop's rounds -/
theorem popN_more : ∀ (f n : Nat), n < 2 ^ f → popN (f + 1) n = popN f n
  | 0, n, h => by
    have : n = 0 := by omega
    subst this; rfl
  | f + 1, n, h => by
    rw [Nat.pow_succ] at h
    show (if n = 0 then 0 else n % 2 + popN (f + 1) (n / 2)) = (if n = 0 then 0 else n % 2 + popN f (n / 2))
    split
    · rfl
    · rw [popN_more f (n / 2) (by omega)]
theorem popN_step {n : Nat} (h0 : n ≠ 0) (h : n < 64) : popN 64 n = n % 2 + popN 64 (n / 2) := by
  have e1 : popN 64 n = n % 2 + popN 63 (n / 2) := by
    show (if n = 0 then 0 else n % 2 + popN 63 (n / 2)) = _
    rw [if_neg h0]
  have e2 : popN 64 (n / 2) = popN 63 (n / 2) := popN_more 63 (n / 2) (by omega)
  rw [e1, e2]
/-! ### buckets -/
/-- the item's hash is near -/
def nearHB (ps : List (List Int)) (at_ : List Int) (bt : Int) (x : It) : Bool := decide (apartF (hashF ps x.vec) (hashF ps at_) ≤ bt)
def bucketL (ps : List (List Int)) (l : List It) (at_ : List Int) (bt : Int) : List It := l.filter (nearHB ps at_ bt)
/-- the arguments are valid -/
def bucketOk (ps : List (List Int)) (l : List It) (at_ : List Int) (bt : Int) : Bool := planesB ps && (storeB l && (vecB at_ && decide (0 ≤ bt ∧ bt ≤ 6)))
def bucketF (ps : List (List Int)) (l : List It) (at_ : List Int) (bt : Int) : List Int := if bucketOk ps l at_ bt then (bucketL ps l at_ bt).map (·.key) else []
theorem bucketF_ok {ps : List (List Int)} {l : List It} {at_ : List Int} {bt : Int} (h : bucketOk ps l at_ bt = true) : bucketF ps l at_ bt = (bucketL ps l at_ bt).map (·.key) := by unfold bucketF; rw [h]; rfl
theorem bucketF_no {ps : List (List Int)} {l : List It} {at_ : List Int} {bt : Int} (h : bucketOk ps l at_ bt = false) : bucketF ps l at_ bt = [] := by unfold bucketF; rw [h]; rfl
theorem storeB_key {l : List It} (h : storeB l = true) {x y : It} (hx : x ∈ l) (hy : y ∈ l) (he : x.key = y.key) : x = y := by
  obtain ⟨i, hi⟩ := List.getElem?_of_mem hx
  obtain ⟨j, hj⟩ := List.getElem?_of_mem hy
  rcases Nat.lt_trichotomy i j with h1 | h1 | h1
  · have := storeB_lt h hi hj h1; omega
  · subst h1; rw [hi] at hj; injection hj
  · have := storeB_lt h hj hi h1; omega
theorem bucket_mem {ps : List (List Int)} {l : List It} {at_ : List Int} {bt : Int} (h : bucketOk ps l at_ bt = true) {x : It} (hx : x ∈ l) : x.key ∈ bucketF ps l at_ bt ↔ nearHB ps at_ bt x = true := by
  have hs : storeB l = true := by unfold bucketOk at h; simp only [Bool.and_eq_true] at h; exact h.2.1
  rw [bucketF_ok h]
  unfold bucketL
  rw [List.mem_map]
  constructor
  · rintro ⟨y, hy, he⟩
    rw [List.mem_filter] at hy
    have : y = x := storeB_key hs hy.1 hx he
    rw [← this]; exact hy.2
  · intro hn
    exact ⟨x, List.mem_filter.2 ⟨hx, hn⟩, rfl⟩
theorem nearHB_more {ps : List (List Int)} {at_ : List Int} {bt : Int} {x : It} (h : nearHB ps at_ bt x = true) : nearHB ps at_ (bt + 1) x = true := by
  unfold nearHB at *
  have := of_decide_eq_true h
  exact decide_eq_true (by omega)
theorem nearHB_all {ps : List (List Int)} (h : ps.length ≤ 6) (at_ : List Int) (x : It) : nearHB ps at_ 6 x = true := by
  unfold nearHB
  exact decide_eq_true (apartF_6 (hashF_64 h _) (hashF_64 h _)).2
theorem nearHB_own {ps : List (List Int)} (h : ps.length ≤ 6) (x : It) : nearHB ps x.vec 0 x = true := by
  unfold nearHB
  rw [apartF_self (hashF_64 h _)]
  rfl
end Go.Proofs.Ytifdcdpdihfbjaa
