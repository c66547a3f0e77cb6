/-
  FnFixed: for every list of bytes the law answers true: the products of two drawn fixed numbers do not hang on their order, both sides' products and quotients agree, and what is divided and multiplied again is near. No condition.
-/
import Derived.Test.YtnebjoanfknmeaaXFnFixedx5
namespace Go.Proofs.Ytnebjoanfknmeaa.Pure
open Go.RowKit Go.Proofs.Ytnebjoanfknmeaa.XFnFixed Go.Proofs.YtnebjoanfknmeaaW.PrintWords Go.Proofs.YtnebjoanfknmeaaW.PrintLast
set_option linter.unusedVariables false
set_option linter.unusedSimpArgs false
theorem w64 {n : Int} (h0 : -9223372036854775808 ≤ n) (h1 : n ≤ 9223372036854775807) : wrap64 n = n := by unfold wrap64; omega
theorem wu64 (n : Int) : IntKind.u64.wrap n = n % 18446744073709551616 := by simp [IntKind.wrap, IntKind.bits, IntKind.signed]
theorem wu64' {n : Int} (h0 : 0 ≤ n) (h1 : n < 18446744073709551616) : IntKind.u64.wrap n = n := by rw [wu64]; omega
theorem lt264 {n : Int} (h : n < 18446744073709551616) : n < 2 ^ 64 := by rw [show (2:Int)^64 = 18446744073709551616 by decide]; exact h
theorem wraps64 (n : Int) (h0 : 0 ≤ n) (h1 : n < 2 ^ 64) : IntKind.u64.wrap n = n := wu64' h0 (by rw [show (2:Int)^64 = 18446744073709551616 by decide] at h1; exact h1)
theorem and32 {x : Int} (h0 : 0 ≤ x) (h1 : x < 18446744073709551616) : Go.bits .and .u64 x 4294967295 = x % 4294967296 :=
  bits_mask .u64 64 (by decide) wraps64 32 (by decide) x h0 (lt264 h1)
theorem and8 {x : Int} (h0 : 0 ≤ x) (h1 : x < 18446744073709551616) : Go.bits .and .u64 x 255 = x % 256 :=
  bits_mask .u64 64 (by decide) wraps64 8 (by decide) x h0 (lt264 h1)
theorem or32 {x y : Int} (hx0 : 0 ≤ x) (hx1 : x < 4294967296) (h0 : 0 ≤ y) (h1 : y < 4294967296) : Go.bits .or .u64 (x * 4294967296) y = x * 4294967296 + y := by
  have e : (2:Int)^64 = 18446744073709551616 := by decide
  have e2 : (2:Int)^32 = 4294967296 := by decide
  exact bits_join .u64 64 (by decide) wraps64 32 (x * 4294967296) y (by omega) (by omega) (by omega) h0 (by omega) (by omega)
theorem or48 {x y : Int} (hx0 : 0 ≤ x) (hx1 : x < 65536) (h0 : 0 ≤ y) (h1 : y < 281474976710656) : Go.bits .or .u64 (x * 281474976710656) y = x * 281474976710656 + y := by
  have e : (2:Int)^64 = 18446744073709551616 := by decide
  have e2 : (2:Int)^48 = 281474976710656 := by decide
  exact bits_join .u64 64 (by decide) wraps64 48 (x * 281474976710656) y (by omega) (by omega) (by omega) h0 (by omega) (by omega)
theorem mul_lt {x y a b : Int} (hx : 0 ≤ x) (hxa : x ≤ a) (hy : 0 ≤ y) (hyb : y ≤ b) : 0 ≤ x * y ∧ x * y ≤ a * b :=
  ⟨Int.mul_nonneg hx hy, Int.le_trans (Int.mul_le_mul_of_nonneg_right hxa hy) (Int.mul_le_mul_of_nonneg_left hyb (by omega))⟩
/-- The product of two words, by their halves. -/
theorem halves {x y : Int} (hx0 : 0 ≤ x) (hx1 : x < 18446744073709551616) (hy0 : 0 ≤ y) (hy1 : y < 18446744073709551616) :
    ∃ a b c d : Int, a = (x / 4294967296) * (y / 4294967296) ∧ b = (x / 4294967296) * (y % 4294967296) ∧ c = (x % 4294967296) * (y / 4294967296) ∧ d = (x % 4294967296) * (y % 4294967296) ∧
      x * y = a * 18446744073709551616 + (b + c) * 4294967296 + d ∧
      0 ≤ a ∧ a ≤ 18446744065119617025 ∧ 0 ≤ b ∧ b ≤ 18446744065119617025 ∧ 0 ≤ c ∧ c ≤ 18446744065119617025 ∧ 0 ≤ d ∧ d ≤ 18446744065119617025 := by
  refine ⟨_, _, _, _, rfl, rfl, rfl, rfl, ?_, ?_⟩
  · have ex : x = (x / 4294967296) * 4294967296 + x % 4294967296 := by omega
    have ey : y = (y / 4294967296) * 4294967296 + y % 4294967296 := by omega
    generalize x / 4294967296 = x1 at *
    generalize x % 4294967296 = x0 at *
    generalize y / 4294967296 = y1 at *
    generalize y % 4294967296 = y0 at *
    subst ex ey
    grind
  · have h1 := mul_lt (x := x / 4294967296) (y := y / 4294967296) (a := 4294967295) (b := 4294967295) (by omega) (by omega) (by omega) (by omega)
    have h2 := mul_lt (x := x / 4294967296) (y := y % 4294967296) (a := 4294967295) (b := 4294967295) (by omega) (by omega) (by omega) (by omega)
    have h3 := mul_lt (x := x % 4294967296) (y := y / 4294967296) (a := 4294967295) (b := 4294967295) (by omega) (by omega) (by omega) (by omega)
    have h4 := mul_lt (x := x % 4294967296) (y := y % 4294967296) (a := 4294967295) (b := 4294967295) (by omega) (by omega) (by omega) (by omega)
    refine ⟨h1.1, h1.2, h2.1, h2.2, h3.1, h3.2, h4.1, h4.2⟩
theorem mul64_eq {x y : Int} (hx0 : 0 ≤ x) (hx1 : x < 18446744073709551616) (hy0 : 0 ≤ y) (hy1 : y < 18446744073709551616) :
    bits_Mul64.f x y = some (x * y / 18446744073709551616, x * y % 18446744073709551616) := by
  obtain ⟨a, b, c, d, ha, hb, hc, hd, he, h⟩ := halves hx0 hx1 hy0 hy1
  unfold bits_Mul64.f
  rw [and32 hx0 hx1, and32 hy0 hy1, ← ha, ← hb, ← hc, ← hd]
  rw [wu64' (n := d) (by omega) (by omega), wu64' (n := b) (by omega) (by omega)]
  rw [wu64' (n := b + d / 4294967296) (by omega) (by omega)]
  rw [and32 (by omega) (by omega), wu64' (n := a) (by omega) (by omega), wu64' (n := c) (by omega) (by omega)]
  rw [he]
  simp only [wu64]
  congr 2 <;> omega
theorem times_eq {x y : Int} (hx0 : 0 ≤ x) (hx1 : x < 18446744073709551616) (hy0 : 0 ≤ y) (hy1 : y < 18446744073709551616) :
    spec_l1Times.f x y = some (x * y / 18446744073709551616, x * y % 18446744073709551616) := by
  obtain ⟨a, b, c, d, ha, hb, hc, hd, he, h⟩ := halves hx0 hx1 hy0 hy1
  unfold spec_l1Times.f
  rw [Int.tdiv_eq_ediv_of_nonneg hx0, Int.tdiv_eq_ediv_of_nonneg hy0, Int.tmod_eq_emod_of_nonneg hx0, Int.tmod_eq_emod_of_nonneg hy0]
  rw [wu64' (n := x / 4294967296) (by omega) (by omega), wu64' (n := y / 4294967296) (by omega) (by omega), ← ha, ← hb, ← hc, ← hd]
  rw [wu64' (n := d) (by omega) (by omega), wu64' (n := b) (by omega) (by omega), wu64' (n := a) (by omega) (by omega), wu64' (n := c) (by omega) (by omega)]
  rw [Int.tdiv_eq_ediv_of_nonneg (show 0 ≤ d by omega), wu64' (n := d / 4294967296) (by omega) (by omega), wu64' (n := b + d / 4294967296) (by omega) (by omega)]
  rw [Int.tdiv_eq_ediv_of_nonneg (show 0 ≤ b + d / 4294967296 by omega), Int.tmod_eq_emod_of_nonneg (show 0 ≤ b + d / 4294967296 by omega), wu64' (n := (b + d / 4294967296) / 4294967296) (by omega) (by omega)]
  rw [wu64' (n := c + (b + d / 4294967296) % 4294967296) (by omega) (by omega), Int.tdiv_eq_ediv_of_nonneg (show 0 ≤ c + (b + d / 4294967296) % 4294967296 by omega), Int.tmod_eq_emod_of_nonneg (show 0 ≤ d by omega)]
  rw [show IntKind.u64.wrap ((c + (b + d / 4294967296) % 4294967296) * 4294967296) = ((c + (b + d / 4294967296) % 4294967296) % 4294967296) * 4294967296 by rw [wu64]; omega]
  rw [or32 (by omega) (by omega) (by omega) (by omega), he]
  simp only [wu64]
  congr 2 <;> omega


/-! ### words of 128 bits -/
theorem plus_eq {A c : Int} (hA : 0 ≤ A) (hc : 0 ≤ c) (hc1 : c < 18446744073709551616) (h : A + c < 340282366920938463463374607431768211456) :
    spec_l1Plus.f (A / 18446744073709551616) (A % 18446744073709551616) c = some ((A + c) / 18446744073709551616, (A + c) % 18446744073709551616) := by
  unfold spec_l1Plus.f
  rw [wu64, wu64]
  split
  · congr 2 <;> omega
  · congr 2 <;> omega
theorem sum_eq {A B : Int} (hA : 0 ≤ A) (hB : 0 ≤ B) (h : A + B < 340282366920938463463374607431768211456) :
    spec_l1Sum.f (A / 18446744073709551616) (A % 18446744073709551616) (B / 18446744073709551616) (B % 18446744073709551616) = some ((A + B) / 18446744073709551616, (A + B) % 18446744073709551616) := by
  unfold spec_l1Sum.f
  rw [plus_eq hA (by omega) (by omega) (by omega)]
  simp only [Option.bind_some, wu64]
  congr 2 <;> omega
theorem less_eq {A B : Int} (hA : 0 ≤ A) (hB : 0 ≤ B) :
    spec_l1Less.f (A / 18446744073709551616) (A % 18446744073709551616) (B / 18446744073709551616) (B % 18446744073709551616) = some (decide (A < B)) := by
  unfold spec_l1Less.f
  split
  · have : A < B := by omega
    simp [this]
  · split
    · congr 1
      rw [decide_eq_decide]
      omega
    · have : ¬ A < B := by omega
      simp [this]
theorem over_go (A b : Int) (hA : 0 ≤ A) (hb0 : 0 < b) (hb1 : b ≤ 4398046511104) (d : Nat) : ∀ (k : Nat) (lo hi : Int), d < k → 0 ≤ lo → lo ≤ hi → hi ≤ 4398046511104 → hi - lo < 2 ^ d → lo * b ≤ A →
    ∃ r, spec_l1Over.l0 k b lo hi (A / 18446744073709551616) (A % 18446744073709551616) = some r ∧ lo ≤ r ∧ r ≤ hi ∧ r * b ≤ A ∧ (r < hi → A < (r + 1) * b) := by
  induction d with
  | zero =>
    intro k lo hi hk h0 h1 h2 h3 h4
    obtain ⟨k, rfl⟩ : ∃ m, k = m + 1 := ⟨k - 1, by omega⟩
    have : lo = hi := by simp at h3; omega
    subst this
    exact ⟨lo, by simp only [spec_l1Over.l0]; rw [if_neg (by omega)], by omega, by omega, h4, fun h => by omega⟩
  | succ d ih =>
    intro k lo hi hk h0 h1 h2 h3 h4
    obtain ⟨k, rfl⟩ : ∃ m, k = m + 1 := ⟨k - 1, by omega⟩
    by_cases hlt : lo < hi
    · have e : IntKind.u64.wrap (lo + (IntKind.u64.wrap (Int.tdiv (IntKind.u64.wrap ((IntKind.u64.wrap (hi - lo)) + 1)) 2))) = lo + (hi - lo + 1) / 2 := by
        rw [wu64' (n := hi - lo) (by omega) (by omega), wu64' (n := hi - lo + 1) (by omega) (by omega), Int.tdiv_eq_ediv_of_nonneg (by omega), wu64' (n := (hi - lo + 1) / 2) (by omega) (by omega), wu64' (by omega) (by omega)]
      have hp : (2 : Int) ^ (d + 1) = 2 * 2 ^ d := by rw [Int.pow_succ]; omega
      obtain ⟨m, hm⟩ : ∃ m, m = lo + (hi - lo + 1) / 2 := ⟨_, rfl⟩
      have hm0 : lo < m := by omega
      have hm1 : m ≤ hi := by omega
      simp only [spec_l1Over.l0]
      rw [if_pos hlt, e, ← hm, times_eq (by omega) (by omega) (by omega) (by omega)]
      simp only [Option.bind_some]
      rw [less_eq hA (Int.mul_nonneg (by omega) (by omega))]
      simp only [Option.bind_some, decide_eq_true_eq]
      by_cases hc : A < m * b
      · rw [if_pos hc, wu64' (n := m - 1) (by omega) (by omega)]
        obtain ⟨r, hr, r0, r1, r2, r3⟩ := ih k lo (m - 1) (by omega) h0 (by omega) (by omega) (by omega) h4
        refine ⟨r, hr, r0, by omega, r2, fun _ => ?_⟩
        by_cases hrm : r < m - 1
        · exact r3 hrm
        · have : r + 1 = m := by omega
          rw [this]; exact hc
      · rw [if_neg hc]
        obtain ⟨r, hr, r0, r1, r2, r3⟩ := ih k m hi (by omega) (by omega) (by omega) (by omega) (by omega) (by omega)
        exact ⟨r, hr, by omega, r1, r2, r3⟩
    · have : lo = hi := by omega
      subst this
      exact ⟨lo, by simp only [spec_l1Over.l0]; rw [if_neg (by omega)], by omega, by omega, h4, fun h => by omega⟩
theorem over_eq (A b : Int) (hA : 0 ≤ A) (hb0 : 0 < b) (hb1 : b ≤ 4398046511104) (k : Nat) (hk : 45 ≤ k) :
    spec_l1Over.f k (A / 18446744073709551616) (A % 18446744073709551616) b 4398046511104 = some (if A / b < 4398046511104 then A / b else 4398046511104) := by
  obtain ⟨r, hr, r0, r1, r2, r3⟩ := over_go A b hA hb0 hb1 43 k 0 4398046511104 (by omega) (by omega) (by omega) (by omega) (by decide) (by omega)
  unfold spec_l1Over.f
  rw [hr]
  congr 1
  have h1 : r ≤ A / b := (Int.le_ediv_iff_mul_le hb0).2 r2
  by_cases h : r < 4398046511104
  · have h2 : A / b < r + 1 := (Int.ediv_lt_iff_lt_mul hb0).2 (r3 h)
    rw [if_pos (by omega)]
    omega
  · rw [if_neg (by omega)]
    omega
def cutM (n : Int) : Int := if n > 1099511627776 then 1099511627776 else if n < -1099511627776 then -1099511627776 else n
theorem cut_eq (n : Int) : spec_l1Cut.f n = some (cutM n) := by
  unfold spec_l1Cut.f cutM
  split
  · rfl
  · split <;> rfl
theorem near_j0 (neg : Bool) (T b : Int) (hT : 0 ≤ T) (hb0 : 0 < b) (hb1 : b ≤ 2199023255552) (k : Nat) (hk : 46 ≤ k) :
    spec_l1Near.j0 k neg b (T / 18446744073709551616) (T % 18446744073709551616) = some (cutM (if neg = true then -(T / (2 * b)) else T / (2 * b))) := by
  obtain ⟨k, rfl⟩ : ∃ m, k = m + 1 := ⟨k - 1, by omega⟩
  have hq : 0 ≤ T / (2 * b) := Int.ediv_nonneg hT (by omega)
  simp only [spec_l1Near.j0]
  rw [wu64' (n := 2 * b) (by omega) (by omega), over_eq T (2 * b) hT (by omega) (by omega) k (by omega)]
  simp only [Option.bind_some]
  generalize T / (2 * b) = q at *
  split
  · have e : wrap64 (-wrap64 (if q < 4398046511104 then q else 4398046511104)) = -(if q < 4398046511104 then q else 4398046511104) := by
      rw [w64 (n := if q < 4398046511104 then q else 4398046511104) (by split <;> omega) (by split <;> omega), w64 (by split <;> omega) (by split <;> omega)]
    rw [e, cut_eq]
    simp only [Option.bind_some]
    congr 1
    unfold cutM
    split <;> (repeat' split) <;> omega
  · rw [w64 (n := if q < 4398046511104 then q else 4398046511104) (by split <;> omega) (by split <;> omega), cut_eq]
    simp only [Option.bind_some]
    congr 1
    unfold cutM
    split <;> (repeat' split) <;> omega
theorem near_eq (neg : Bool) (A b : Int) (hA : 0 ≤ A) (hA1 : A ≤ 1208925819614629174706176) (hb0 : 0 < b) (hb1 : b ≤ 2199023255552) (k : Nat) (hk : 46 ≤ k) :
    spec_l1Near.f k neg (A / 18446744073709551616) (A % 18446744073709551616) b = some (cutM (if neg = true then -((2 * A + b - 1) / (2 * b)) else (2 * A + b) / (2 * b))) := by
  unfold spec_l1Near.f
  rw [sum_eq hA hA (by omega)]
  simp only [Option.bind_some]
  rw [plus_eq (by omega) (by omega) (by omega) (by omega)]
  simp only [Option.bind_some]
  cases neg with
  | true =>
    have hd := near_j0 true (2 * A + b - 1) b (by omega) hb0 hb1 k hk
    simp only [if_true] at hd ⊢
    rw [show A + A + b = 2 * A + b by omega]
    split
    · rename_i hz
      rw [wu64, wu64, show ((2 * A + b) / 18446744073709551616 - 1) % 18446744073709551616 = (2 * A + b - 1) / 18446744073709551616 by omega, show ((2 * A + b) % 18446744073709551616 - 1) % 18446744073709551616 = (2 * A + b - 1) % 18446744073709551616 by omega]
      exact hd
    · rename_i hz
      rw [wu64, show (2 * A + b) / 18446744073709551616 = (2 * A + b - 1) / 18446744073709551616 by omega, show ((2 * A + b) % 18446744073709551616 - 1) % 18446744073709551616 = (2 * A + b - 1) % 18446744073709551616 by omega]
      exact hd
  | false =>
    have hd := near_j0 false (2 * A + b) b (by omega) hb0 hb1 k hk
    rw [show A + A + b = 2 * A + b by omega]
    simpa using hd

/-! ### the fixed numbers' product and quotient -/
def Good (x : Int) : Prop := -1099511627776 ≤ x ∧ x ≤ 1099511627776
instance (x : Int) : Decidable (Good x) := by unfold Good; exact inferInstance
theorem inRange_eq (a b c : Int) : impl_inRange.f a b c = some (decide (b ≤ a ∧ a ≤ c)) := by
  unfold impl_inRange.f
  split
  · rename_i h; simp [h]
  · rename_i h; simp [h]
theorem l1In_eq (a b c : Int) : spec_l1In.f a b c = some (decide (b ≤ a ∧ a ≤ c)) := by
  unfold spec_l1In.f
  split
  · rename_i h; simp [show b ≤ a from h]
  · rename_i h; simp [show ¬ b ≤ a from h]
theorem igood_eq (a : Int) : impl_GoodFixed.f a = some (decide (Good a)) := by
  unfold impl_GoodFixed.f
  rw [inRange_eq]; rfl
theorem sgood_eq (a : Int) : spec_GoodFixed.f a = some (decide (Good a)) := by
  unfold spec_GoodFixed.f
  rw [l1In_eq]; rfl
theorem areFixed2 (a b : Int) (k : Nat) (hk : 3 ≤ k) : impl_areFixed.f k [a, b] = some (decide (Good a ∧ Good b)) := by
  obtain ⟨k, rfl⟩ : ∃ m, k = m + 3 := ⟨k - 3, by omega⟩
  have e1 : wrap64 (0 + 1) = 1 := w64 (by omega) (by omega)
  have e2 : wrap64 (1 + 1) = 2 := w64 (by omega) (by omega)
  unfold impl_areFixed.f
  simp only [impl_areFixed.l0, igood_eq, rd, List.length_cons, List.length_nil, e1, e2, Option.bind_some]
  by_cases ha : Good a <;> by_cases hb : Good b <;> simp [ha, hb]
theorem size_eq (a : Int) (h : Good a) : impl_size.f a = some (if a < 0 then -a else a) := by
  obtain ⟨h0, h1⟩ := h
  unfold impl_size.f mx
  rw [w64 (by omega) (by omega)]
  congr 1
  split <;> split <;> omega
theorem abs_eq (a : Int) (h : Good a) : spec_l1Abs.f a = some (if a < 0 then -a else a) := by
  obtain ⟨h0, h1⟩ := h
  unfold spec_l1Abs.f
  split
  · rw [w64 (by omega) (by omega)]
  · rfl
/-- The product's size, rounded: a half goes up. -/
def FM (a b : Int) : Int := cutM (if (decide (a < 0) != decide (b < 0)) = true then -((2 * ((if a < 0 then -a else a) * (if b < 0 then -b else b)) + 65535) / 131072) else (2 * ((if a < 0 then -a else a) * (if b < 0 then -b else b)) + 65536) / 131072)
theorem prod_le {a b : Int} (ha : Good a) (hb : Good b) : 0 ≤ (if a < 0 then -a else a) * (if b < 0 then -b else b) ∧ (if a < 0 then -a else a) * (if b < 0 then -b else b) ≤ 1208925819614629174706176 := by
  obtain ⟨h0, h1⟩ := ha
  obtain ⟨h2, h3⟩ := hb
  exact mul_lt (a := 1099511627776) (b := 1099511627776) (by split <;> omega) (by split <;> omega) (by split <;> omega) (by split <;> omega)
theorem smul_eq (a b : Int) (ha : Good a) (hb : Good b) (k : Nat) (hk : 50 ≤ k) : spec_FixMul.f k a b = some (FM a b) := by
  obtain ⟨k, rfl⟩ : ∃ m, k = m + 1 := ⟨k - 1, by omega⟩
  have hp := prod_le ha hb
  unfold spec_FixMul.f
  rw [sgood_eq, sgood_eq]
  simp only [ha, hb, decide_true, Option.bind_some, if_true, Bool.not_true]
  simp only [spec_FixMul.j0]
  rw [if_neg (by simp), abs_eq a ha, abs_eq b hb]
  simp only [Option.bind_some]
  obtain ⟨h0, h1⟩ := ha
  obtain ⟨h2, h3⟩ := hb
  rw [wu64' (n := if a < 0 then -a else a) (by split <;> omega) (by split <;> omega), wu64' (n := if b < 0 then -b else b) (by split <;> omega) (by split <;> omega)]
  rw [times_eq (by split <;> omega) (by split <;> omega) (by split <;> omega) (by split <;> omega)]
  simp only [Option.bind_some]
  rw [near_eq _ _ 65536 hp.1 hp.2 (by omega) (by omega) k (by omega)]
  simp only [Option.bind_some]
  unfold FM
  congr 2
  split <;> omega
theorem smul_bad (a b : Int) (h : ¬ (Good a ∧ Good b)) (k : Nat) (hk : 1 ≤ k) : spec_FixMul.f k a b = some 0 := by
  obtain ⟨k, rfl⟩ : ∃ m, k = m + 1 := ⟨k - 1, by omega⟩
  unfold spec_FixMul.f
  rw [sgood_eq, sgood_eq]
  by_cases ha : Good a <;> by_cases hb : Good b <;> simp_all [spec_FixMul.j0]
theorem imul_j0 (neg : Bool) (a b P : Int) (hneg : (decide (a < 0) != decide (b < 0)) = neg) (hP0 : 0 ≤ P) (hP1 : P ≤ 1208925819614629174706176) (k : Nat) (hk : 1 ≤ k) :
    impl_FixMul.j0 k a b (P / 18446744073709551616) (P % 18446744073709551616) (if neg = true then 32767 else 32768) = some (cutM (if neg = true then -((2 * P + 65535) / 131072) else (2 * P + 65536) / 131072)) := by
  obtain ⟨k, rfl⟩ : ∃ m, k = m + 1 := ⟨k - 1, by omega⟩
  simp only [impl_FixMul.j0, hneg]
  have hs : ∀ h : Int, 0 ≤ h → h ≤ 32768 → add64hi (P % 18446744073709551616) h = (P % 18446744073709551616 + h) / 18446744073709551616 ∧ add64lo (P % 18446744073709551616) h = (P % 18446744073709551616 + h) % 18446744073709551616 := by
    intro h h0 h1
    unfold add64hi add64lo
    constructor <;> omega
  obtain ⟨e1, e2⟩ := hs (if neg = true then 32767 else 32768) (by split <;> omega) (by split <;> omega)
  rw [e1, e2]
  generalize hh : (if neg = true then (32767 : Int) else 32768) = half at *
  have hb : 0 ≤ half ∧ half ≤ 32768 := by rw [← hh]; constructor <;> split <;> omega
  rw [wu64' (n := P / 18446744073709551616 + (P % 18446744073709551616 + half) / 18446744073709551616) (by omega) (by omega)]
  rw [show P / 18446744073709551616 + (P % 18446744073709551616 + half) / 18446744073709551616 = (P + half) / 18446744073709551616 by omega]
  rw [show (P % 18446744073709551616 + half) % 18446744073709551616 = (P + half) % 18446744073709551616 by omega]
  split
  · rename_i hz
    have hsm : (P + half) / 18446744073709551616 < 65536 := by omega
    rw [wu64' (n := (P + half) / 18446744073709551616 * 281474976710656) (by omega) (by omega), or48 (by omega) hsm (by omega) (by omega)]
    rw [show (P + half) / 18446744073709551616 * 281474976710656 + (P + half) % 18446744073709551616 / 65536 = (P + half) / 65536 by omega]
    unfold mn
    rw [w64 (n := if 1099511627776 < (P + half) / 65536 then 1099511627776 else (P + half) / 65536) (by split <;> omega) (by split <;> omega)]
    rw [w64 (n := -(if 1099511627776 < (P + half) / 65536 then 1099511627776 else (P + half) / 65536)) (by split <;> omega) (by split <;> omega)]
    unfold cutM
    cases neg <;> simp at hh ⊢ <;> subst hh <;> (repeat' split) <;> omega
  · rename_i hz
    unfold cutM
    cases neg <;> simp at hh ⊢ <;> subst hh <;> (repeat' split) <;> omega
theorem imul_eq (a b : Int) (ha : Good a) (hb : Good b) (k : Nat) (hk : 50 ≤ k) : impl_FixMul.f k a b = some (FM a b) := by
  have hp := prod_le ha hb
  unfold impl_FixMul.f
  rw [areFixed2 a b k (by omega)]
  rw [decide_eq_true (show Good a ∧ Good b from ⟨ha, hb⟩), Option.bind_some, if_pos rfl]
  rw [size_eq a ha, size_eq b hb]
  simp only [Option.bind_some]
  obtain ⟨h0, h1⟩ := ha
  obtain ⟨h2, h3⟩ := hb
  rw [wu64' (n := if a < 0 then -a else a) (by split <;> omega) (by split <;> omega), wu64' (n := if b < 0 then -b else b) (by split <;> omega) (by split <;> omega)]
  rw [mul64_eq (by split <;> omega) (by split <;> omega) (by split <;> omega) (by split <;> omega)]
  simp only [Option.bind_some]
  have hj := fun neg h => imul_j0 neg a b _ h hp.1 hp.2 k (by omega)
  unfold FM
  generalize (if a < 0 then -a else a) * (if b < 0 then -b else b) = P at *
  by_cases hn : (decide (a < 0) != decide (b < 0)) = true
  · have h := hj true hn
    rw [if_pos rfl, if_pos rfl] at h
    rw [if_pos hn, if_pos hn]
    exact h
  · have h := hj false (by simpa using hn)
    rw [if_neg (by decide), if_neg (by decide)] at h
    rw [if_neg hn, if_neg hn]
    exact h
theorem imul_bad (a b : Int) (h : ¬ (Good a ∧ Good b)) (k : Nat) (hk : 3 ≤ k) : impl_FixMul.f k a b = some 0 := by
  unfold impl_FixMul.f
  rw [areFixed2 a b k (by omega)]
  simp [h]
theorem FM_comm (a b : Int) : FM a b = FM b a := by
  unfold FM
  rw [Int.mul_comm (if a < 0 then -a else a), show (decide (a < 0) != decide (b < 0)) = (decide (b < 0) != decide (a < 0)) by cases decide (a < 0) <;> cases decide (b < 0) <;> rfl]

theorem idiv_eq' {x y q : Int} (hy : 0 < y) (h0 : q * y ≤ x) (h1 : x < (q + 1) * y) : x / y = q := by
  have a := (Int.le_ediv_iff_mul_le hy).2 h0
  have b := (Int.ediv_lt_iff_lt_mul hy).2 h1
  omega
theorem mul_succ' (q y : Int) : (q + 1) * y = q * y + y := by rw [Int.add_mul, Int.one_mul]
theorem div_le {x y : Int} (hy : 0 < y) : x / y * y ≤ x := (Int.le_ediv_iff_mul_le hy).1 (Int.le_refl _)
theorem lt_div {x y : Int} (hy : 0 < y) : x < x / y * y + y := by rw [← mul_succ']; exact (Int.ediv_lt_iff_lt_mul hy).1 (by omega)
/-- A floor of what lies below 0. -/
theorem neg_div' {X y : Int} (hy : 0 < y) : (-X) / y = -((X + y - 1) / y) := by
  have a := div_le (x := X + y - 1) hy
  have b := lt_div (x := X + y - 1) hy
  refine idiv_eq' hy ?_ ?_
  · rw [Int.neg_mul]; omega
  · rw [mul_succ', Int.neg_mul]; omega
theorem clamp_eq (n : Int) : impl_clamp.f n (-1099511627776) 1099511627776 = some (cutM n) := by
  unfold impl_clamp.f mn mx cutM
  congr 1
  (repeat' split) <;> omega
theorem down_eq (x y : Int) (hy : 0 < y) (h0 : -9223372036854775808 < x) (h1 : x ≤ 9223372036854775807) : impl_down.f x y = some (x / y) := by
  unfold impl_down.f
  rw [if_neg (by omega)]
  by_cases hx : 0 ≤ x
  · have e1 : x / y * y ≤ x := div_le hy
    have e2 : 0 ≤ x / y := Int.ediv_nonneg hx (by omega)
    have e3 : x / y ≤ x := Int.ediv_le_self _ hx
    rw [Int.tdiv_eq_ediv_of_nonneg hx, Int.tmod_eq_emod_of_nonneg hx, if_neg (by have := Int.emod_nonneg x (show y ≠ 0 by omega); omega), w64 (by omega) (by omega)]
  · obtain ⟨z, rfl⟩ : ∃ z, x = -z := ⟨-x, by omega⟩
    have hz : 0 < z := by omega
    rw [Int.neg_tdiv, Int.neg_tmod, Int.tdiv_eq_ediv_of_nonneg (by omega), Int.tmod_eq_emod_of_nonneg (by omega)]
    have e2 : 0 ≤ z / y := Int.ediv_nonneg (by omega) (by omega)
    have e3 : z / y ≤ z := Int.ediv_le_self _ (by omega)
    have e4 := Int.mul_ediv_add_emod z y
    have e5 := Int.emod_nonneg z (show y ≠ 0 by omega)
    have e6 := Int.emod_lt_of_pos z hy
    rw [w64 (n := -(z / y)) (by omega) (by omega)]
    rw [Int.mul_comm] at e4
    split
    · rw [w64 (by omega) (by omega)]
      congr 1
      refine (idiv_eq' hy ?_ ?_).symm
      · rw [show -(z / y) - 1 = -(z / y + 1) by omega, Int.neg_mul, mul_succ']; omega
      · rw [show -(z / y) - 1 + 1 = -(z / y) by omega, Int.neg_mul]; omega
    · congr 1
      refine (idiv_eq' hy ?_ ?_).symm
      · rw [Int.neg_mul]; omega
      · rw [mul_succ', Int.neg_mul]; omega
/-- The quotient, rounded: a half goes up. -/
def FD (a b : Int) : Int := cutM ((131072 * (if b < 0 then -a else a) + (if b < 0 then -b else b)) / (2 * (if b < 0 then -b else b)))
theorem idiv_eq (a b : Int) (ha : Good a) (hb : Good b) (hb0 : b ≠ 0) (k : Nat) (hk : 50 ≤ k) : impl_FixDiv.f k a b = some (FD a b) := by
  obtain ⟨k, rfl⟩ : ∃ m, k = m + 1 := ⟨k - 1, by omega⟩
  unfold impl_FixDiv.f
  rw [areFixed2 a b _ (by omega), decide_eq_true (show Good a ∧ Good b from ⟨ha, hb⟩), Option.bind_some, if_pos rfl]
  simp only [impl_FixDiv.j0]
  obtain ⟨h0, h1⟩ := ha
  obtain ⟨h2, h3⟩ := hb
  rw [if_neg (by simpa using hb0)]
  unfold FD
  split
  · rename_i hn
    rw [w64 (n := -a) (by omega) (by omega), w64 (n := -b) (by omega) (by omega), w64 (n := 2 * -a) (by omega) (by omega), w64 (n := 2 * -a * 65536) (by omega) (by omega), w64 (n := 2 * -a * 65536 + -b) (by omega) (by omega), w64 (n := 2 * -b) (by omega) (by omega)]
    rw [down_eq _ _ (by omega) (by omega) (by omega), Option.bind_some, clamp_eq, Option.bind_some]
    rw [show 2 * -a * 65536 + -b = 131072 * -a + -b by omega]
  · rename_i hn
    rw [w64 (n := 2 * a) (by omega) (by omega), w64 (n := 2 * a * 65536) (by omega) (by omega), w64 (n := 2 * a * 65536 + b) (by omega) (by omega), w64 (n := 2 * b) (by omega) (by omega)]
    rw [down_eq _ _ (by omega) (by omega) (by omega), Option.bind_some, clamp_eq, Option.bind_some]
    rw [show 2 * a * 65536 + b = 131072 * a + b by omega]
theorem idiv_bad (a b : Int) (h : ¬ (Good a ∧ Good b) ∨ b = 0) (k : Nat) (hk : 4 ≤ k) : impl_FixDiv.f k a b = some 0 := by
  obtain ⟨k, rfl⟩ : ∃ m, k = m + 1 := ⟨k - 1, by omega⟩
  unfold impl_FixDiv.f
  rw [areFixed2 a b _ (by omega)]
  by_cases hg : Good a ∧ Good b
  · rw [decide_eq_true hg, Option.bind_some, if_pos rfl]
    have hb0 : b = 0 := h.resolve_left (fun h => h hg)
    subst hb0
    simp [impl_FixDiv.j0]
  · rw [decide_eq_false hg, Option.bind_some, if_neg (by decide)]
    simp [impl_FixDiv.j0]
theorem sdiv_eq (a b : Int) (ha : Good a) (hb : Good b) (hb0 : b ≠ 0) (k : Nat) (hk : 50 ≤ k) : spec_FixDiv.f k a b = some (FD a b) := by
  obtain ⟨k, rfl⟩ : ∃ m, k = m + 1 := ⟨k - 1, by omega⟩
  unfold spec_FixDiv.f
  rw [sgood_eq, sgood_eq, decide_eq_true ha, decide_eq_true hb, Option.bind_some, if_pos rfl, Option.bind_some, if_pos rfl]
  simp only [spec_FixDiv.j0]
  rw [if_neg (by simpa using hb0), abs_eq a ha, Option.bind_some]
  have hb' := abs_eq b hb
  obtain ⟨h0, h1⟩ := ha
  obtain ⟨h2, h3⟩ := hb
  rw [wu64' (n := if a < 0 then -a else a) (by split <;> omega) (by split <;> omega), times_eq (by split <;> omega) (by split <;> omega) (by omega) (by omega), Option.bind_some, hb', Option.bind_some]
  rw [wu64' (n := if b < 0 then -b else b) (by split <;> omega) (by split <;> omega)]
  rw [near_eq _ _ _ (by split <;> omega) (by split <;> omega) (by split <;> omega) (by split <;> omega) k (by omega), Option.bind_some]
  unfold FD
  congr 1
  congr 1
  by_cases hb : b < 0
  · by_cases ha : a < 0
    · simp only [ha, hb, if_true, decide_true, bne_self_eq_false, Bool.false_eq_true, if_false]
      congr 1; omega
    · simp only [ha, hb, if_true, if_false, decide_true, decide_false, bne, Bool.not_eq_eq_eq_not, Bool.not_true]
      rw [if_pos (by decide), show 131072 * -a + -b = -(131072 * a - -b) by omega, neg_div' (by omega)]
      congr 2; omega
  · by_cases ha : a < 0
    · simp only [ha, hb, if_true, if_false, decide_true, decide_false]
      rw [if_pos (by decide), show 131072 * a + b = -(131072 * -a - b) by omega, neg_div' (by omega)]
      congr 2; omega
    · simp only [ha, hb, if_false, decide_false, bne_self_eq_false, Bool.false_eq_true]
      congr 1; omega
theorem sdiv_bad (a b : Int) (h : ¬ (Good a ∧ Good b) ∨ b = 0) (k : Nat) (hk : 4 ≤ k) : spec_FixDiv.f k a b = some 0 := by
  obtain ⟨k, rfl⟩ : ∃ m, k = m + 1 := ⟨k - 1, by omega⟩
  unfold spec_FixDiv.f
  rw [sgood_eq, sgood_eq]
  by_cases ha : Good a
  · rw [decide_eq_true ha, Option.bind_some, if_pos rfl]
    by_cases hb : Good b
    · rw [decide_eq_true hb, Option.bind_some, if_pos rfl]
      have hb0 : b = 0 := h.resolve_left (fun h => h ⟨ha, hb⟩)
      subst hb0
      simp [spec_FixDiv.j0]
    · rw [decide_eq_false hb, Option.bind_some, if_neg (by decide)]
      simp [spec_FixDiv.j0]
  · rw [decide_eq_false ha, Option.bind_some, if_neg (by decide)]
    simp [spec_FixDiv.j0]
theorem cutM_good (n : Int) : Good (cutM n) := by
  unfold Good cutM
  (repeat' split) <;> omega
/-- What is divided and multiplied again is near. -/
theorem again_near (a b : Int) (ha : Good a) (hb : Good b) (hb0 : b ≠ 0) (hq : ¬ (if FD a b < 0 then -FD a b else FD a b) = 1099511627776) :
    FM (FD a b) b - a ≤ (if b < 0 then -b else b) / 131072 + 1 ∧ a - FM (FD a b) b ≤ (if b < 0 then -b else b) / 131072 + 1 := by
  obtain ⟨h0, h1⟩ := ha
  obtain ⟨h2, h3⟩ := hb
  obtain ⟨B, hB⟩ : ∃ B, B = if b < 0 then -b else b := ⟨_, rfl⟩
  have hB0 : 0 < B := by rw [hB]; split <;> omega
  obtain ⟨s, hs⟩ : ∃ s, s = if b < 0 then -a else a := ⟨_, rfl⟩
  have hfd : FD a b = cutM ((131072 * s + B) / (2 * B)) := by unfold FD; rw [← hB, ← hs]
  obtain ⟨q, hqd⟩ : ∃ q, q = (131072 * s + B) / (2 * B) := ⟨_, rfl⟩
  have e1 := div_le (x := 131072 * s + B) (y := 2 * B) (by omega)
  have e2 := lt_div (x := 131072 * s + B) (y := 2 * B) (by omega)
  rw [← hqd] at hfd e1 e2
  rw [hfd] at hq ⊢
  have hqq : cutM q = q := by
    unfold cutM at hq ⊢
    by_cases c1 : q > 1099511627776
    · rw [if_pos c1] at hq; simp at hq
    · rw [if_neg c1] at hq ⊢
      by_cases c2 : q < -1099511627776
      · rw [if_pos c2] at hq; simp at hq
      · rw [if_neg c2]
  rw [hqq] at hq ⊢
  rw [show q * (2 * B) = 2 * (q * B) by rw [Int.mul_left_comm]] at e1 e2
  clear hqd hfd
  unfold FM
  rw [← hB]
  have hP : (if q < 0 then -q else q) * B = if q < 0 then -(q * B) else q * B := by split <;> simp [Int.neg_mul]
  have hqs : (q < 0 → q * B < 0) ∧ (¬ q < 0 → 0 ≤ q * B) := ⟨fun h => by have := Int.mul_lt_mul_of_pos_right h hB0; omega, fun h => Int.mul_nonneg (by omega) (by omega)⟩
  rw [hP]
  generalize q * B = Q at *
  unfold cutM
  have x1 : (false != true) = true := rfl
  have x2 : (true != false) = true := rfl
  by_cases hbn : b < 0 <;> by_cases hqn : q < 0 <;> simp only [hbn, hqn, if_true, if_false, decide_true, decide_false, bne_self_eq_false, Bool.false_eq_true, x1, x2, true_implies, not_true, not_false_eq_true, false_implies, and_true, true_and] at hB hs hqs hq ⊢
  all_goals (repeat' split) <;> omega

/-! ### choices out of bytes -/
def Bs (l : List Int) : Prop := ∀ x ∈ l, (Lit.int .u8 x).wf = true
theorem wf_u8 {x : Int} (h : (Lit.int .u8 x).wf = true) : 0 ≤ x ∧ x ≤ 255 := by
  simp [Lit.wf, IntKind.min, IntKind.max, IntKind.signed, IntKind.bits] at h
  omega
theorem rd_byte {l : List Int} (h : Bs l) (i : Int) : 0 ≤ rd l i ∧ rd l i ≤ 255 := by
  unfold rd
  by_cases hi : i.toNat < l.length
  · rw [List.getD_eq_getElem?_getD, List.getElem?_eq_getElem hi]
    exact wf_u8 (h _ (List.getElem_mem hi))
  · rw [List.getD_eq_getElem?_getD, List.getElem?_eq_none (by omega)]
    simp
theorem next_tot {l : List Int} (h : Bs l) {at_ s : Int} (h0 : 0 ≤ at_) (h1 : at_ ≤ 1152921504606846976) :
    ∃ b s', spec_l1Cur_next.f l at_ s = some (b, at_ + 1, s') ∧ 0 ≤ b ∧ b ≤ 255 := by
  unfold spec_l1Cur_next.f
  have hb := rd_byte h at_
  rw [w64 (n := at_ + 1) (by omega) (by omega), w64 (n := rd l at_) (by omega) (by omega), if_pos h0]
  have hx : ∀ X : Int, 0 ≤ wrap64 (Go.bits .and .u64 (IntKind.u64.wrap X / 1099511627776) 255) ∧ wrap64 (Go.bits .and .u64 (IntKind.u64.wrap X / 1099511627776) 255) ≤ 255 := by
    intro X
    rw [wu64, and8 (by omega) (by omega), w64 (by omega) (by omega)]
    omega
  split
  · split
    · exact ⟨_, _, rfl, hb.1, hb.2⟩
    · exact ⟨_, _, rfl, (hx _).1, (hx _).2⟩
  · split
    · exact ⟨_, _, rfl, by omega, by omega⟩
    · exact ⟨_, _, rfl, (hx _).1, (hx _).2⟩
theorem pick_tot {l : List Int} (h : Bs l) {at_ s : Int} (n : Int) (h0 : 0 ≤ at_) (h1 : at_ ≤ 1152921504606846970) :
    ∃ r at' s', spec_l1Cur_pick.f l at_ s n = some (r, at', s') ∧ at_ ≤ at' ∧ at' ≤ at_ + 2 ∧ 0 ≤ r ∧ (1 ≤ n → r < n) := by
  unfold spec_l1Cur_pick.f
  split
  · exact ⟨_, _, _, rfl, by omega, by omega, by omega, fun _ => by omega⟩
  · obtain ⟨b, s', e, b0, b1⟩ := next_tot h (s := s) h0 (by omega)
    rw [e, Option.bind_some]
    split
    · obtain ⟨c, s2, e2, c0, c1⟩ := next_tot h (at_ := at_ + 1) (s := s') (by omega) (by omega)
      dsimp only
      rw [e2, Option.bind_some, if_neg (by omega), w64 (n := b * 256) (by omega) (by omega), w64 (n := b * 256 + c) (by omega) (by omega), Int.tmod_eq_emod_of_nonneg (by omega)]
      exact ⟨_, _, _, rfl, by dsimp only; omega, by dsimp only; omega, Int.emod_nonneg _ (by omega), fun _ => Int.emod_lt_of_pos _ (by omega)⟩
    · dsimp only
      rw [if_neg (by omega), Int.tmod_eq_emod_of_nonneg (by omega)]
      exact ⟨_, _, _, rfl, by omega, by omega, Int.emod_nonneg _ (by omega), fun _ => Int.emod_lt_of_pos _ (by omega)⟩
theorem one_tot {l : List Int} (h : Bs l) {at_ s : Int} (n : Int) (h0 : 0 ≤ at_) (h1 : at_ ≤ 1152921504606846970) :
    ∃ r at' s', spec_l1Cur_one.f l at_ s n = some (r, at', s') ∧ at_ ≤ at' ∧ at' ≤ at_ + 2 := by
  unfold spec_l1Cur_one.f
  obtain ⟨r, a', s', e, g0, g1, _⟩ := pick_tot h (s := s) n h0 h1
  rw [e, Option.bind_some]
  exact ⟨_, _, _, rfl, g0, g1⟩
theorem among_tot {l : List Int} (h : Bs l) {at_ s : Int} (xs : List Int) (hx : 1 ≤ xs.length) (h0 : 0 ≤ at_) (h1 : at_ ≤ 1152921504606846970) :
    ∃ r at' s', spec_l1Cur_among.f l at_ s xs = some (r, at', s') ∧ at_ ≤ at' ∧ at' ≤ at_ + 2 ∧ r ∈ xs := by
  unfold spec_l1Cur_among.f
  obtain ⟨r, a', s', e, g0, g1, g2, g3⟩ := pick_tot h (s := s) (xs.length : Int) h0 h1
  have g4 := g3 (by omega)
  rw [e, Option.bind_some, if_pos g2, if_pos g4]
  refine ⟨_, _, _, rfl, g0, g1, ?_⟩
  dsimp only
  unfold rd
  rw [List.getD_eq_getElem?_getD, List.getElem?_eq_getElem (by omega)]
  exact List.getElem_mem _
theorem wide_go {l : List Int} (h : Bs l) (d : Nat) : ∀ (k : Nat) (x i at_ s : Int), d < k → i = 8 - d → d ≤ 8 → 0 ≤ at_ → at_ + d ≤ 1152921504606846970 →
    ∃ r s', spec_l1Cur_wide.l0 k x i l at_ s = some (r, at_ + d, s') := by
  induction d with
  | zero =>
    intro k x i a s hk hi hd h0 h1
    obtain ⟨k, rfl⟩ : ∃ m, k = m + 1 := ⟨k - 1, by omega⟩
    simp only [spec_l1Cur_wide.l0]
    rw [if_neg (by omega)]
    exact ⟨x, s, by simp⟩
  | succ d ih =>
    intro k x i a s hk hi hd h0 h1
    obtain ⟨k, rfl⟩ : ∃ m, k = m + 1 := ⟨k - 1, by omega⟩
    simp only [spec_l1Cur_wide.l0]
    obtain ⟨b, s', e, b0, b1⟩ := next_tot h (s := s) h0 (by omega)
    rw [if_pos (by omega), e, Option.bind_some, w64 (n := i + 1) (by omega) (by omega)]
    dsimp only
    obtain ⟨r, s2, e2⟩ := ih k (Go.bits .or .i64 (wrap64 (x * 256)) b) (i + 1) (a + 1) s' (by omega) (by omega) (by omega) (by omega) (by omega)
    refine ⟨r, s2, ?_⟩
    rw [e2]
    simp; omega
theorem wide_tot {l : List Int} (h : Bs l) {at_ s : Int} (k : Nat) (hk : 9 ≤ k) (h0 : 0 ≤ at_) (h1 : at_ ≤ 1152921504606846900) :
    ∃ r at' s', spec_l1Cur_wide.f k l at_ s = some (r, at', s') ∧ at_ ≤ at' ∧ at' ≤ at_ + 8 := by
  unfold spec_l1Cur_wide.f
  obtain ⟨r, s', e⟩ := wide_go h 8 k 0 0 at_ s (by omega) (by omega) (by omega) h0 (by omega)
  exact ⟨r, at_ + 8, s', by rw [e]; rfl, by omega, by omega⟩
theorem fixed_tot {l : List Int} (h : Bs l) {at_ s : Int} (k : Nat) (hk : 9 ≤ k) (h0 : 0 ≤ at_) (h1 : at_ ≤ 1152921504606846000) :
    ∃ r at' s', spec_l1Cur_fixed.f k l at_ s = some (r, at', s') ∧ at_ ≤ at' ∧ at' ≤ at_ + 20 := by
  unfold spec_l1Cur_fixed.f
  obtain ⟨n, a1, s1, e1, g1, g1', _⟩ := pick_tot h (s := s) 7 h0 (by omega)
  rw [e1, Option.bind_some]
  dsimp only
  split
  · obtain ⟨r, a2, s2, e2, g2, g2', _⟩ := among_tot h (at_ := a1) (s := s1) [0, 65536, (-65536), 1099511627776, (-1099511627776), 1, (-1)] (by decide) (by omega) (by omega)
    rw [e2, Option.bind_some]
    exact ⟨_, _, _, rfl, by dsimp only; omega, by dsimp only; omega⟩
  · split
    · obtain ⟨r, a2, s2, e2, g2, g2'⟩ := wide_tot h (at_ := a1) (s := s1) k hk (by omega) (by omega)
      rw [e2, Option.bind_some]
      exact ⟨_, _, _, rfl, by dsimp only; omega, by dsimp only; omega⟩
    · split
      · obtain ⟨r, a2, s2, e2, g2, g2', _⟩ := pick_tot h (at_ := a1) (s := s1) 65536 (by omega) (by omega)
        rw [e2, Option.bind_some]
        exact ⟨_, _, _, rfl, by dsimp only; omega, by dsimp only; omega⟩
      · obtain ⟨r, a2, s2, e2, g2, g2', _⟩ := pick_tot h (at_ := a1) (s := s1) 41 (by omega) (by omega)
        rw [e2, Option.bind_some]
        dsimp only
        obtain ⟨q, a3, s3, e3, g3, g3', hq⟩ := among_tot h (at_ := a2) (s := s2) [1, 2, 3, 4, 7] (by decide) (by omega) (by omega)
        rw [e3, Option.bind_some]
        dsimp only
        have hq0 : q ≠ 0 := by rintro rfl; simp at hq
        rw [if_neg hq0]
        obtain ⟨t, a4, s4, e4, g4, g4', _⟩ := pick_tot h (at_ := a3) (s := s3) 3 (by omega) (by omega)
        rw [e4, Option.bind_some]
        dsimp only
        obtain ⟨o, a5, s5, e5, g5, g5'⟩ := one_tot h (at_ := a4) (s := s4) 60 (by omega) (by omega)
        rw [e5, Option.bind_some]
        dsimp only
        split
        · obtain ⟨u, a6, s6, e6, g6, g6', _⟩ := among_tot h (at_ := a5) (s := s5) [1099511627777, (-1099511627777), 9223372036854775807, (-9223372036854775808)] (by decide) (by omega) (by omega)
          rw [e6, Option.bind_some]
          exact ⟨_, _, _, rfl, by dsimp only; omega, by dsimp only; omega⟩
        · exact ⟨_, _, _, rfl, by omega, by omega⟩
theorem draw_two {l : List Int} (h : Bs l) (k : Nat) (hk : 9 ≤ k) : ∃ a b, spec_DrawFixMul.f k l = some (a, b) := by
  unfold spec_DrawFixMul.f spec_l1Two.f
  obtain ⟨r, a1, s1, e1, g1, g1'⟩ := fixed_tot h (at_ := 0) (s := 0) k hk (by omega) (by omega)
  rw [e1, Option.bind_some]
  obtain ⟨r2, a2, s2, e2, g2, g2'⟩ := fixed_tot h (at_ := a1) (s := s1) k hk (by omega) (by omega)
  dsimp only
  rw [e2]
  exact ⟨r, r2, rfl⟩
/-! ### the law -/
theorem sizeOf_eq (n : Int) (h0 : -9223372036854775808 < n) (h1 : n ≤ 9223372036854775807) : laws_sizeOf.f n = some (if n < 0 then -n else n) := by
  unfold laws_sizeOf.f
  split
  · rw [w64 (by omega) (by omega)]
  · rfl
theorem law_j1 (a b : Int) (ha : Good a) (hb : Good b) (hb0 : b ≠ 0) (t : Bool) (ht : t = (( if FD a b < 0 then -FD a b else FD a b) == 1099511627776)) (k : Nat) (hk : 51 ≤ k) :
    laws_FnFixed.j1 k a b (FD a b) t = some true := by
  obtain ⟨k, rfl⟩ : ∃ m, k = m + 1 := ⟨k - 1, by omega⟩
  simp only [laws_FnFixed.j1]
  split
  · rfl
  · rename_i hn
    have hq : ¬ (if FD a b < 0 then -FD a b else FD a b) = 1099511627776 := by
      intro hc
      rw [hc] at ht
      exact hn (by rw [ht]; rfl)
    have hg : Good (FD a b) := cutM_good _
    have hm : Good (FM (FD a b) b) := cutM_good _
    have hnear := again_near a b ha hb hb0 hq
    rw [imul_eq _ _ hg hb k (by omega), Option.bind_some]
    obtain ⟨h0, h1⟩ := ha
    obtain ⟨h2, h3⟩ := hb
    obtain ⟨h4, h5⟩ := hm
    rw [w64 (n := FM (FD a b) b - a) (by omega) (by omega), sizeOf_eq _ (by omega) (by omega), Option.bind_some, sizeOf_eq b (by omega) (by omega), Option.bind_some]
    rw [Int.tdiv_eq_ediv_of_nonneg (by split <;> omega), w64 (n := (if b < 0 then -b else b) / 131072) (by split <;> omega) (by split <;> omega), w64 (n := (if b < 0 then -b else b) / 131072 + 1) (by split <;> omega) (by split <;> omega)]
    congr 1
    rw [decide_eq_true_eq]
    split <;> omega
theorem law_j1_true (a b q : Int) (k : Nat) (hk : 1 ≤ k) : laws_FnFixed.j1 k a b q true = some true := by
  obtain ⟨k, rfl⟩ : ∃ m, k = m + 1 := ⟨k - 1, by omega⟩
  simp [laws_FnFixed.j1]
theorem law_j0 (a b : Int) (k : Nat) (hk : 60 ≤ k) : laws_FnFixed.j0 k a b false = some true := by
  obtain ⟨k, rfl⟩ : ∃ m, k = m + 1 := ⟨k - 1, by omega⟩
  simp only [laws_FnFixed.j0]
  rw [if_neg (by decide)]
  by_cases hbad : ¬ (Good a ∧ Good b) ∨ b = 0
  · rw [idiv_bad a b hbad k (by omega), Option.bind_some, sdiv_bad a b hbad k (by omega), Option.bind_some, if_pos rfl, sgood_eq, Option.bind_some]
    split
    · rename_i ha
      rw [sgood_eq, Option.bind_some]
      split
      · rename_i hb
        have hb0 : b = 0 := hbad.resolve_left (fun h => h ⟨of_decide_eq_true ha, of_decide_eq_true hb⟩)
        rw [if_pos hb0]
        exact law_j1_true _ _ _ _ (by omega)
      · exact law_j1_true _ _ _ _ (by omega)
    · exact law_j1_true _ _ _ _ (by omega)
  · have hg : Good a ∧ Good b := Classical.byContradiction fun h => hbad (.inl h)
    have hb0 : b ≠ 0 := fun h => hbad (.inr h)
    have hq : Good (FD a b) := cutM_good _
    rw [idiv_eq a b hg.1 hg.2 hb0 k (by omega), Option.bind_some, sdiv_eq a b hg.1 hg.2 hb0 k (by omega), Option.bind_some, if_pos rfl, sgood_eq, decide_eq_true hg.1, Option.bind_some, if_pos rfl, sgood_eq, decide_eq_true hg.2, Option.bind_some, if_pos rfl, if_neg hb0]
    obtain ⟨q0, q1⟩ := hq
    rw [sizeOf_eq _ (by omega) (by omega), Option.bind_some]
    exact law_j1 a b hg.1 hg.2 hb0 _ rfl k (by omega)
theorem law_all (l : List Int) (h : Bs l) (k : Nat) (hk : 70 ≤ k) : laws_FnFixed.f k l = some true := by
  unfold laws_FnFixed.f
  split
  · rfl
  · obtain ⟨a, b, e⟩ := draw_two h k (by omega)
    rw [e, Option.bind_some]
    dsimp only
    by_cases hg : Good a ∧ Good b
    · rw [imul_eq a b hg.1 hg.2 k (by omega), Option.bind_some, smul_eq a b hg.1 hg.2 k (by omega), Option.bind_some, if_pos rfl, Option.bind_some, imul_eq b a hg.2 hg.1 k (by omega), Option.bind_some, FM_comm, show (FM b a != FM b a) = false by simp]
      exact law_j0 a b k (by omega)
    · rw [imul_bad a b hg k (by omega), Option.bind_some, smul_bad a b hg k (by omega), Option.bind_some, if_pos rfl, Option.bind_some, imul_bad b a (fun h => hg ⟨h.2, h.1⟩) k (by omega), Option.bind_some, show ((0 : Int) != 0) = false by simp]
      exact law_j0 a b k (by omega)

theorem FnFixed : laws_FnFixed.Pure := fun l _ _ h => ⟨70, law_all l h 70 (by omega)⟩

end Go.Proofs.Ytnebjoanfknmeaa.Pure
