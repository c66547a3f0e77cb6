/-
  The law of the round functions, in plain numbers: the sine, the cosine and the root.
-/
import Derived.Test.YtnebjoanfknmeaaXFnRoundx4
namespace Go.Proofs.Ytnebjoanfknmeaa.Pure
open Go.RowKit Go.Proofs.Ytnebjoanfknmeaa.XFnRound Go.Proofs.YtnebjoanfknmeaaW.PrintWords Go.Proofs.YtnebjoanfknmeaaW.PrintLast
set_option linter.unusedVariables false
set_option linter.unusedSimpArgs false
theorem w64 {n : Int} (h0 : -9223372036854775808 ≤ n) (h1 : n ≤ 9223372036854775807) : wrap64 n = n := by unfold wrap64; omega
theorem wu64 (n : Int) : IntKind.u64.wrap n = n % 18446744073709551616 := by simp [IntKind.wrap, IntKind.bits, IntKind.signed]
theorem wu64' {n : Int} (h0 : 0 ≤ n) (h1 : n < 18446744073709551616) : IntKind.u64.wrap n = n := by rw [wu64]; omega
theorem lt264 {n : Int} (h : n < 18446744073709551616) : n < 2 ^ 64 := by rw [show (2:Int)^64 = 18446744073709551616 by decide]; exact h
theorem wraps64 (n : Int) (h0 : 0 ≤ n) (h1 : n < 2 ^ 64) : IntKind.u64.wrap n = n := wu64' h0 (by rw [show (2:Int)^64 = 18446744073709551616 by decide] at h1; exact h1)
theorem and32 {x : Int} (h0 : 0 ≤ x) (h1 : x < 18446744073709551616) : Go.bits .and .u64 x 4294967295 = x % 4294967296 :=
  bits_mask .u64 64 (by decide) wraps64 32 (by decide) x h0 (lt264 h1)
theorem and8 {x : Int} (h0 : 0 ≤ x) (h1 : x < 18446744073709551616) : Go.bits .and .u64 x 255 = x % 256 :=
  bits_mask .u64 64 (by decide) wraps64 8 (by decide) x h0 (lt264 h1)
theorem or32 {x y : Int} (hx0 : 0 ≤ x) (hx1 : x < 4294967296) (h0 : 0 ≤ y) (h1 : y < 4294967296) : Go.bits .or .u64 (x * 4294967296) y = x * 4294967296 + y := by
  have e : (2:Int)^64 = 18446744073709551616 := by decide
  have e2 : (2:Int)^32 = 4294967296 := by decide
  exact bits_join .u64 64 (by decide) wraps64 32 (x * 4294967296) y (by omega) (by omega) (by omega) h0 (by omega) (by omega)
theorem or48 {x y : Int} (hx0 : 0 ≤ x) (hx1 : x < 65536) (h0 : 0 ≤ y) (h1 : y < 281474976710656) : Go.bits .or .u64 (x * 281474976710656) y = x * 281474976710656 + y := by
  have e : (2:Int)^64 = 18446744073709551616 := by decide
  have e2 : (2:Int)^48 = 281474976710656 := by decide
  exact bits_join .u64 64 (by decide) wraps64 48 (x * 281474976710656) y (by omega) (by omega) (by omega) h0 (by omega) (by omega)
theorem mul_lt {x y a b : Int} (hx : 0 ≤ x) (hxa : x ≤ a) (hy : 0 ≤ y) (hyb : y ≤ b) : 0 ≤ x * y ∧ x * y ≤ a * b :=
  ⟨Int.mul_nonneg hx hy, Int.le_trans (Int.mul_le_mul_of_nonneg_right hxa hy) (Int.mul_le_mul_of_nonneg_left hyb (by omega))⟩
/-- The product of two words, by their halves. -/
theorem halves {x y : Int} (hx0 : 0 ≤ x) (hx1 : x < 18446744073709551616) (hy0 : 0 ≤ y) (hy1 : y < 18446744073709551616) :
    ∃ a b c d : Int, a = (x / 4294967296) * (y / 4294967296) ∧ b = (x / 4294967296) * (y % 4294967296) ∧ c = (x % 4294967296) * (y / 4294967296) ∧ d = (x % 4294967296) * (y % 4294967296) ∧
      x * y = a * 18446744073709551616 + (b + c) * 4294967296 + d ∧
      0 ≤ a ∧ a ≤ 18446744065119617025 ∧ 0 ≤ b ∧ b ≤ 18446744065119617025 ∧ 0 ≤ c ∧ c ≤ 18446744065119617025 ∧ 0 ≤ d ∧ d ≤ 18446744065119617025 := by
  refine ⟨_, _, _, _, rfl, rfl, rfl, rfl, ?_, ?_⟩
  · have ex : x = (x / 4294967296) * 4294967296 + x % 4294967296 := by omega
    have ey : y = (y / 4294967296) * 4294967296 + y % 4294967296 := by omega
    generalize x / 4294967296 = x1 at *
    generalize x % 4294967296 = x0 at *
    generalize y / 4294967296 = y1 at *
    generalize y % 4294967296 = y0 at *
    subst ex ey
    grind
  · have h1 := mul_lt (x := x / 4294967296) (y := y / 4294967296) (a := 4294967295) (b := 4294967295) (by omega) (by omega) (by omega) (by omega)
    have h2 := mul_lt (x := x / 4294967296) (y := y % 4294967296) (a := 4294967295) (b := 4294967295) (by omega) (by omega) (by omega) (by omega)
    have h3 := mul_lt (x := x % 4294967296) (y := y / 4294967296) (a := 4294967295) (b := 4294967295) (by omega) (by omega) (by omega) (by omega)
    have h4 := mul_lt (x := x % 4294967296) (y := y % 4294967296) (a := 4294967295) (b := 4294967295) (by omega) (by omega) (by omega) (by omega)
    refine ⟨h1.1, h1.2, h2.1, h2.2, h3.1, h3.2, h4.1, h4.2⟩
theorem times_eq {x y : Int} (hx0 : 0 ≤ x) (hx1 : x < 18446744073709551616) (hy0 : 0 ≤ y) (hy1 : y < 18446744073709551616) :
    spec_l1Times.f x y = some (x * y / 18446744073709551616, x * y % 18446744073709551616) := by
  obtain ⟨a, b, c, d, ha, hb, hc, hd, he, h⟩ := halves hx0 hx1 hy0 hy1
  unfold spec_l1Times.f
  rw [Int.tdiv_eq_ediv_of_nonneg hx0, Int.tdiv_eq_ediv_of_nonneg hy0, Int.tmod_eq_emod_of_nonneg hx0, Int.tmod_eq_emod_of_nonneg hy0]
  rw [wu64' (n := x / 4294967296) (by omega) (by omega), wu64' (n := y / 4294967296) (by omega) (by omega), ← ha, ← hb, ← hc, ← hd]
  rw [wu64' (n := d) (by omega) (by omega), wu64' (n := b) (by omega) (by omega), wu64' (n := a) (by omega) (by omega), wu64' (n := c) (by omega) (by omega)]
  rw [Int.tdiv_eq_ediv_of_nonneg (show 0 ≤ d by omega), wu64' (n := d / 4294967296) (by omega) (by omega), wu64' (n := b + d / 4294967296) (by omega) (by omega)]
  rw [Int.tdiv_eq_ediv_of_nonneg (show 0 ≤ b + d / 4294967296 by omega), Int.tmod_eq_emod_of_nonneg (show 0 ≤ b + d / 4294967296 by omega), wu64' (n := (b + d / 4294967296) / 4294967296) (by omega) (by omega)]
  rw [wu64' (n := c + (b + d / 4294967296) % 4294967296) (by omega) (by omega), Int.tdiv_eq_ediv_of_nonneg (show 0 ≤ c + (b + d / 4294967296) % 4294967296 by omega), Int.tmod_eq_emod_of_nonneg (show 0 ≤ d by omega)]
  rw [show IntKind.u64.wrap ((c + (b + d / 4294967296) % 4294967296) * 4294967296) = ((c + (b + d / 4294967296) % 4294967296) % 4294967296) * 4294967296 by rw [wu64]; omega]
  rw [or32 (by omega) (by omega) (by omega) (by omega), he]
  simp only [wu64]
  congr 2 <;> omega


/-! ### words of 128 bits -/
theorem less_eq {A B : Int} (hA : 0 ≤ A) (hB : 0 ≤ B) :
    spec_l1Less.f (A / 18446744073709551616) (A % 18446744073709551616) (B / 18446744073709551616) (B % 18446744073709551616) = some (decide (A < B)) := by
  unfold spec_l1Less.f
  split
  · have : A < B := by omega
    simp [this]
  · split
    · congr 1
      rw [decide_eq_decide]
      omega
    · have : ¬ A < B := by omega
      simp [this]
theorem inRange_eq (a b c : Int) : impl_inRange.f a b c = some (decide (b ≤ a ∧ a ≤ c)) := by
  unfold impl_inRange.f
  split
  · rename_i h; simp [h]
  · rename_i h; simp [h]
theorem l1In_eq (a b c : Int) : spec_l1In.f a b c = some (decide (b ≤ a ∧ a ≤ c)) := by
  unfold spec_l1In.f
  split
  · rename_i h; simp [show b ≤ a from h]
  · rename_i h; simp [show ¬ b ≤ a from h]
def Bs (l : List Int) : Prop := ∀ x ∈ l, (Lit.int .u8 x).wf = true
theorem wf_u8 {x : Int} (h : (Lit.int .u8 x).wf = true) : 0 ≤ x ∧ x ≤ 255 := by
  simp [Lit.wf, IntKind.min, IntKind.max, IntKind.signed, IntKind.bits] at h
  omega
theorem rd_byte {l : List Int} (h : Bs l) (i : Int) : 0 ≤ rd l i ∧ rd l i ≤ 255 := by
  unfold rd
  by_cases hi : i.toNat < l.length
  · rw [List.getD_eq_getElem?_getD, List.getElem?_eq_getElem hi]
    exact wf_u8 (h _ (List.getElem_mem hi))
  · rw [List.getD_eq_getElem?_getD, List.getElem?_eq_none (by omega)]
    simp
theorem next_tot {l : List Int} (h : Bs l) {at_ s : Int} (h0 : 0 ≤ at_) (h1 : at_ ≤ 1152921504606846976) :
    ∃ b s', spec_l1Cur_next.f l at_ s = some (b, at_ + 1, s') ∧ 0 ≤ b ∧ b ≤ 255 := by
  unfold spec_l1Cur_next.f
  have hb := rd_byte h at_
  rw [w64 (n := at_ + 1) (by omega) (by omega), w64 (n := rd l at_) (by omega) (by omega), if_pos h0]
  have hx : ∀ X : Int, 0 ≤ wrap64 (Go.bits .and .u64 (IntKind.u64.wrap X / 1099511627776) 255) ∧ wrap64 (Go.bits .and .u64 (IntKind.u64.wrap X / 1099511627776) 255) ≤ 255 := by
    intro X
    rw [wu64, and8 (by omega) (by omega), w64 (by omega) (by omega)]
    omega
  split
  · split
    · exact ⟨_, _, rfl, hb.1, hb.2⟩
    · exact ⟨_, _, rfl, (hx _).1, (hx _).2⟩
  · split
    · exact ⟨_, _, rfl, by omega, by omega⟩
    · exact ⟨_, _, rfl, (hx _).1, (hx _).2⟩
theorem pick_tot {l : List Int} (h : Bs l) {at_ s : Int} (n : Int) (h0 : 0 ≤ at_) (h1 : at_ ≤ 1152921504606846970) :
    ∃ r at' s', spec_l1Cur_pick.f l at_ s n = some (r, at', s') ∧ at_ ≤ at' ∧ at' ≤ at_ + 2 ∧ 0 ≤ r ∧ (1 ≤ n → r < n) := by
  unfold spec_l1Cur_pick.f
  split
  · exact ⟨_, _, _, rfl, by omega, by omega, by omega, fun _ => by omega⟩
  · obtain ⟨b, s', e, b0, b1⟩ := next_tot h (s := s) h0 (by omega)
    rw [e, Option.bind_some]
    split
    · obtain ⟨c, s2, e2, c0, c1⟩ := next_tot h (at_ := at_ + 1) (s := s') (by omega) (by omega)
      dsimp only
      rw [e2, Option.bind_some, if_neg (by omega), w64 (n := b * 256) (by omega) (by omega), w64 (n := b * 256 + c) (by omega) (by omega), Int.tmod_eq_emod_of_nonneg (by omega)]
      exact ⟨_, _, _, rfl, by dsimp only; omega, by dsimp only; omega, Int.emod_nonneg _ (by omega), fun _ => Int.emod_lt_of_pos _ (by omega)⟩
    · dsimp only
      rw [if_neg (by omega), Int.tmod_eq_emod_of_nonneg (by omega)]
      exact ⟨_, _, _, rfl, by omega, by omega, Int.emod_nonneg _ (by omega), fun _ => Int.emod_lt_of_pos _ (by omega)⟩
theorem one_tot {l : List Int} (h : Bs l) {at_ s : Int} (n : Int) (h0 : 0 ≤ at_) (h1 : at_ ≤ 1152921504606846970) :
    ∃ r at' s', spec_l1Cur_one.f l at_ s n = some (r, at', s') ∧ at_ ≤ at' ∧ at' ≤ at_ + 2 := by
  unfold spec_l1Cur_one.f
  obtain ⟨r, a', s', e, g0, g1, _⟩ := pick_tot h (s := s) n h0 h1
  rw [e, Option.bind_some]
  exact ⟨_, _, _, rfl, g0, g1⟩
theorem among_tot {l : List Int} (h : Bs l) {at_ s : Int} (xs : List Int) (hx : 1 ≤ xs.length) (h0 : 0 ≤ at_) (h1 : at_ ≤ 1152921504606846970) :
    ∃ r at' s', spec_l1Cur_among.f l at_ s xs = some (r, at', s') ∧ at_ ≤ at' ∧ at' ≤ at_ + 2 ∧ r ∈ xs := by
  unfold spec_l1Cur_among.f
  obtain ⟨r, a', s', e, g0, g1, g2, g3⟩ := pick_tot h (s := s) (xs.length : Int) h0 h1
  have g4 := g3 (by omega)
  rw [e, Option.bind_some, if_pos g2, if_pos g4]
  refine ⟨_, _, _, rfl, g0, g1, ?_⟩
  dsimp only
  unfold rd
  rw [List.getD_eq_getElem?_getD, List.getElem?_eq_getElem (by omega)]
  exact List.getElem_mem _
theorem wide_go {l : List Int} (h : Bs l) (d : Nat) : ∀ (k : Nat) (x i at_ s : Int), d < k → i = 8 - d → d ≤ 8 → 0 ≤ at_ → at_ + d ≤ 1152921504606846970 →
    ∃ r s', spec_l1Cur_wide.l0 k x i l at_ s = some (r, at_ + d, s') := by
  induction d with
  | zero =>
    intro k x i a s hk hi hd h0 h1
    obtain ⟨k, rfl⟩ : ∃ m, k = m + 1 := ⟨k - 1, by omega⟩
    simp only [spec_l1Cur_wide.l0]
    rw [if_neg (by omega)]
    exact ⟨x, s, by simp⟩
  | succ d ih =>
    intro k x i a s hk hi hd h0 h1
    obtain ⟨k, rfl⟩ : ∃ m, k = m + 1 := ⟨k - 1, by omega⟩
    simp only [spec_l1Cur_wide.l0]
    obtain ⟨b, s', e, b0, b1⟩ := next_tot h (s := s) h0 (by omega)
    rw [if_pos (by omega), e, Option.bind_some, w64 (n := i + 1) (by omega) (by omega)]
    dsimp only
    obtain ⟨r, s2, e2⟩ := ih k (Go.bits .or .i64 (wrap64 (x * 256)) b) (i + 1) (a + 1) s' (by omega) (by omega) (by omega) (by omega) (by omega)
    refine ⟨r, s2, ?_⟩
    rw [e2]
    simp; omega
theorem wide_tot {l : List Int} (h : Bs l) {at_ s : Int} (k : Nat) (hk : 9 ≤ k) (h0 : 0 ≤ at_) (h1 : at_ ≤ 1152921504606846900) :
    ∃ r at' s', spec_l1Cur_wide.f k l at_ s = some (r, at', s') ∧ at_ ≤ at' ∧ at' ≤ at_ + 8 := by
  unfold spec_l1Cur_wide.f
  obtain ⟨r, s', e⟩ := wide_go h 8 k 0 0 at_ s (by omega) (by omega) (by omega) h0 (by omega)
  exact ⟨r, at_ + 8, s', by rw [e]; rfl, by omega, by omega⟩
theorem fixed_tot {l : List Int} (h : Bs l) {at_ s : Int} (k : Nat) (hk : 9 ≤ k) (h0 : 0 ≤ at_) (h1 : at_ ≤ 1152921504606846000) :
    ∃ r at' s', spec_l1Cur_fixed.f k l at_ s = some (r, at', s') ∧ at_ ≤ at' ∧ at' ≤ at_ + 20 := by
  unfold spec_l1Cur_fixed.f
  obtain ⟨n, a1, s1, e1, g1, g1', _⟩ := pick_tot h (s := s) 7 h0 (by omega)
  rw [e1, Option.bind_some]
  dsimp only
  split
  · obtain ⟨r, a2, s2, e2, g2, g2', _⟩ := among_tot h (at_ := a1) (s := s1) [0, 65536, (-65536), 1099511627776, (-1099511627776), 1, (-1)] (by decide) (by omega) (by omega)
    rw [e2, Option.bind_some]
    exact ⟨_, _, _, rfl, by dsimp only; omega, by dsimp only; omega⟩
  · split
    · obtain ⟨r, a2, s2, e2, g2, g2'⟩ := wide_tot h (at_ := a1) (s := s1) k hk (by omega) (by omega)
      rw [e2, Option.bind_some]
      exact ⟨_, _, _, rfl, by dsimp only; omega, by dsimp only; omega⟩
    · split
      · obtain ⟨r, a2, s2, e2, g2, g2', _⟩ := pick_tot h (at_ := a1) (s := s1) 65536 (by omega) (by omega)
        rw [e2, Option.bind_some]
        exact ⟨_, _, _, rfl, by dsimp only; omega, by dsimp only; omega⟩
      · obtain ⟨r, a2, s2, e2, g2, g2', _⟩ := pick_tot h (at_ := a1) (s := s1) 41 (by omega) (by omega)
        rw [e2, Option.bind_some]
        dsimp only
        obtain ⟨q, a3, s3, e3, g3, g3', hq⟩ := among_tot h (at_ := a2) (s := s2) [1, 2, 3, 4, 7] (by decide) (by omega) (by omega)
        rw [e3, Option.bind_some]
        dsimp only
        have hq0 : q ≠ 0 := by rintro rfl; simp at hq
        rw [if_neg hq0]
        obtain ⟨t, a4, s4, e4, g4, g4', _⟩ := pick_tot h (at_ := a3) (s := s3) 3 (by omega) (by omega)
        rw [e4, Option.bind_some]
        dsimp only
        obtain ⟨o, a5, s5, e5, g5, g5'⟩ := one_tot h (at_ := a4) (s := s4) 60 (by omega) (by omega)
        rw [e5, Option.bind_some]
        dsimp only
        split
        · obtain ⟨u, a6, s6, e6, g6, g6', _⟩ := among_tot h (at_ := a5) (s := s5) [1099511627777, (-1099511627777), 9223372036854775807, (-9223372036854775808)] (by decide) (by omega) (by omega)
          rw [e6, Option.bind_some]
          exact ⟨_, _, _, rfl, by dsimp only; omega, by dsimp only; omega⟩
        · exact ⟨_, _, _, rfl, by omega, by omega⟩
theorem sizeOf_eq (n : Int) (h0 : -9223372036854775808 < n) (h1 : n ≤ 9223372036854775807) : laws_sizeOf.f n = some (if n < 0 then -n else n) := by
  unfold laws_sizeOf.f
  split
  · rw [w64 (by omega) (by omega)]
  · rfl

/-! ### sine -/
def SM (m : Int) : Int := if m < 2048 then sinLow m else -(sinLow (m - 2048))
def okAt (n : Nat) : Bool :=
  let s := SM n
  let c := SM ((n + 1024) % 4096 : Nat)
  decide (-70000 ≤ s ∧ s ≤ 70000) && decide (s * s + c * c - 4294967296 ≤ 42949672 ∧ -42949672 ≤ s * s + c * c - 4294967296) && decide (SM ((4096 - n) % 4096 : Nat) = -s)
def okTo : Nat → Bool
  | 0 => true
  | n + 1 => okAt n && okTo n
theorem okTo_spec (n : Nat) : okTo n = true → ∀ m, m < n → okAt m = true := by
  induction n with
  | zero => intro _ m hm; omega
  | succ n ih =>
    intro h m hm
    rw [okTo, Bool.and_eq_true] at h
    by_cases hmn : m = n
    · subst hmn; exact h.1
    · exact ih h.2 m (by omega)
theorem ok_all : okTo 4096 = true := by decide +kernel
theorem SM_ok (m : Int) (h0 : 0 ≤ m) (h1 : m < 4096) : (-70000 ≤ SM m ∧ SM m ≤ 70000) ∧ (SM m * SM m + SM ((m + 1024) % 4096) * SM ((m + 1024) % 4096) - 4294967296 ≤ 42949672 ∧ -42949672 ≤ SM m * SM m + SM ((m + 1024) % 4096) * SM ((m + 1024) % 4096) - 4294967296) ∧ SM ((-m) % 4096) = -(SM m) := by
  have h := okTo_spec 4096 ok_all m.toNat (by omega)
  unfold okAt at h
  simp only [Bool.and_eq_true, decide_eq_true_eq] at h
  have e1 : (m.toNat : Int) = m := by omega
  have e2 : (((m.toNat + 1024) % 4096 : Nat) : Int) = (m + 1024) % 4096 := by omega
  have e3 : (((4096 - m.toNat) % 4096 : Nat) : Int) = (-m) % 4096 := by omega
  rw [e1, e2, e3] at h
  exact ⟨h.1.1, h.1.2, h.2⟩
theorem imod_eq (a : Int) (h0 : -9223372036854775808 ≤ a) (h1 : a ≤ 9223372036854775807) : impl_mod.f a 4096 = some (a % 4096) := by
  unfold impl_mod.f
  rw [if_neg (by omega)]
  congr 1
  rcases Int.le_total 0 a with h | h
  · rw [Int.tmod_eq_emod_of_nonneg h]
    have : wrap64 (a % 4096 + 4096) = a % 4096 + 4096 := by unfold wrap64; omega
    rw [this, Int.tmod_eq_emod_of_nonneg (by omega)]
    omega
  · obtain ⟨z, rfl⟩ : ∃ z, a = -z := ⟨-a, by omega⟩
    rw [Int.neg_tmod, Int.tmod_eq_emod_of_nonneg (a := z) (by omega)]
    have : wrap64 (-(z % 4096) + 4096) = -(z % 4096) + 4096 := by unfold wrap64; omega
    rw [this, Int.tmod_eq_emod_of_nonneg (by omega)]
    omega
theorem isin_eq (a : Int) (h0 : -9223372036854775808 ≤ a) (h1 : a ≤ 9223372036854775807) : impl_SinOf.f a = some (SM (a % 4096)) := by
  unfold impl_SinOf.f SM
  rw [imod_eq a h0 h1, Option.bind_some, if_pos (by omega)]
  split
  · rfl
  · rename_i hm
    have h2 := (SM_ok (a % 4096) (by omega) (by omega)).1
    unfold SM at h2
    rw [if_neg hm] at h2
    rw [if_pos (by omega), w64 (by omega) (by omega)]
theorem icos_eq (a : Int) (h0 : -9223372036854775808 ≤ a) (h1 : a ≤ 9223372036854775807) : impl_CosOf.f a = some (SM ((a % 4096 + 1024) % 4096)) := by
  unfold impl_CosOf.f
  rw [imod_eq a h0 h1, Option.bind_some, w64 (n := a % 4096 + 1024) (by omega) (by omega), isin_eq _ (by omega) (by omega), Option.bind_some]
theorem sdown_eq (x : Int) (h0 : -9223372036854775808 ≤ x) (h1 : x ≤ 9223372036854775807) : spec_l1Down.f x 4096 = some (x / 4096) := by
  unfold spec_l1Down.f
  rw [if_neg (by omega), decide_eq_false (show ¬ (4096 : Int) < 0 by omega)]
  rcases Int.le_total 0 x with h | h
  · rw [Int.tdiv_eq_ediv_of_nonneg h, w64 (n := x / 4096) (by omega) (by omega), decide_eq_false (by omega), if_neg (show ¬ (false != false) = true by decide)]
    split <;> rfl
  · obtain ⟨z, rfl⟩ : ∃ z, x = -z := ⟨-x, by omega⟩
    rw [Int.neg_tdiv, Int.neg_tmod, Int.tdiv_eq_ediv_of_nonneg (a := z) (by omega), Int.tmod_eq_emod_of_nonneg (a := z) (by omega), w64 (n := -(z / 4096)) (by omega) (by omega)]
    split
    · congr 1; omega
    · rw [decide_eq_true (show -z < 0 by omega), if_pos (by decide), w64 (by omega) (by omega)]
      congr 1; omega
theorem smod_eq (x : Int) (h0 : -9223372036854775808 ≤ x) (h1 : x ≤ 9223372036854775807) : spec_l1Mod.f x 4096 = some (x % 4096) := by
  unfold spec_l1Mod.f
  rw [sdown_eq x h0 h1, Option.bind_some, w64 (n := 4096 * (x / 4096)) (by omega) (by omega), w64 (by omega) (by omega)]
  congr 1; omega
theorem ssin_low (k : Nat) (x m : Int) (h0 : 0 ≤ m) (h1 : m < 1024) (hx0 : -9223372036854775808 ≤ x) (hx1 : x ≤ 9223372036854775807) (hm : x % 4096 = m) : spec_SinOf.f (k + 1) x = some (sinAt m) := by
  rw [spec_SinOf.f, smod_eq x hx0 hx1, Option.bind_some, hm, if_neg (by omega), if_neg (by omega), if_neg (by omega)]
  unfold spec_l1Table.f
  rw [Option.bind_some, Int.tdiv_eq_ediv_of_nonneg h0, Int.tmod_eq_emod_of_nonneg h0, w64 (n := m / 64) (by omega) (by omega), w64 (n := m / 64 + 1) (by omega) (by omega), w64 (n := 64 - m % 64) (by omega) (by omega)]
  rw [if_pos (by omega), if_pos (by simp; omega), if_pos (by omega), if_pos (by simp; omega)]
  rfl
theorem ssin_mid (k : Nat) (x m : Int) (h0 : 0 ≤ m) (h1 : m < 2048) (hx0 : -9223372036854775808 ≤ x) (hx1 : x ≤ 9223372036854775807) (hm : x % 4096 = m) : spec_SinOf.f (k + 2) x = some (sinLow m) := by
  by_cases h3 : m < 1024
  · rw [ssin_low (k + 1) x m h0 h3 hx0 hx1 hm]
    unfold sinLow
    rw [if_neg (by omega), if_neg (by omega)]
  · rw [spec_SinOf.f, smod_eq x hx0 hx1, Option.bind_some, hm, if_neg (by omega)]
    unfold sinLow
    by_cases h4 : m = 1024
    · rw [if_neg (by omega), if_pos h4, if_pos h4]
    · rw [if_pos (by omega), if_neg h4, if_pos (by omega), w64 (n := 2048 - m) (by omega) (by omega), ssin_low k (2048 - m) (2048 - m) (by omega) (by omega) (by omega) (by omega) (by omega), Option.bind_some]
theorem ssin_eq (k : Nat) (hk : 5 ≤ k) (x : Int) (hx0 : -9223372036854775808 ≤ x) (hx1 : x ≤ 9223372036854775807) : spec_SinOf.f k x = some (SM (x % 4096)) := by
  obtain ⟨k, rfl⟩ : ∃ j, k = j + 3 := ⟨k - 3, by omega⟩
  by_cases h : x % 4096 < 2048
  · rw [ssin_mid (k + 1) x _ (by omega) h hx0 hx1 rfl]
    unfold SM
    rw [if_pos h]
  · have h2 := (SM_ok (x % 4096) (by omega) (by omega)).1
    unfold SM at h2 ⊢
    rw [if_neg h] at h2 ⊢
    rw [spec_SinOf.f, smod_eq x hx0 hx1, Option.bind_some, if_pos (by omega), w64 (n := x % 4096 - 2048) (by omega) (by omega), ssin_mid k (x % 4096 - 2048) (x % 4096 - 2048) (by omega) (by omega) (by omega) (by omega) (by omega), Option.bind_some, w64 (by omega) (by omega)]
theorem scos_eq (k : Nat) (hk : 5 ≤ k) (x : Int) (hx0 : -9223372036854775808 ≤ x) (hx1 : x ≤ 9223372036854775807) : spec_CosOf.f k x = some (SM ((x % 4096 + 1024) % 4096)) := by
  unfold spec_CosOf.f
  rw [smod_eq x hx0 hx1, Option.bind_some, w64 (n := x % 4096 + 1024) (by omega) (by omega), ssin_eq k hk _ (by omega) (by omega), Option.bind_some]
theorem sinDraw {l : List Int} (h : Bs l) : ∃ a, spec_DrawSinOf.f l = some a ∧ -9223372036854775808 ≤ a ∧ a ≤ 9223372036854775807 := by
  unfold spec_DrawSinOf.f
  obtain ⟨r, a1, s1, e1, g1, g1'⟩ := one_tot h (at_ := 0) (s := 0) 4 (by omega) (by omega)
  rw [e1, Option.bind_some]
  dsimp only
  split
  · obtain ⟨u, a2, s2, e2, g2, g2', hu⟩ := among_tot h (at_ := a1) (s := s1) [0, 1024, 2048, 3072, 4095, 4096, (-1), 9223372036854775807, (-9223372036854775808), 1023, 1025] (by decide) (by omega) (by omega)
    rw [e2, Option.bind_some]
    have hb : ∀ y ∈ ([0, 1024, 2048, 3072, 4095, 4096, (-1), 9223372036854775807, (-9223372036854775808), 1023, 1025] : List Int), -9223372036854775808 ≤ y ∧ y ≤ 9223372036854775807 := by decide
    exact ⟨u, rfl, hb u hu⟩
  · obtain ⟨r, a2, s2, e2, g2, g2', hr, hr2⟩ := pick_tot h (at_ := a1) (s := s1) 20000 (by omega) (by omega)
    rw [e2, Option.bind_some]
    have := hr2 (by omega)
    exact ⟨_, rfl, by rw [w64 (by omega) (by omega)]; omega, by rw [w64 (by omega) (by omega)]; omega⟩
/-! ### root -/
theorem igreat_go (v : Int) (hv0 : 0 ≤ v) (hv1 : v ≤ 1099511627776) (d : Nat) : ∀ (k : Nat) (lo hi : Int), d < k → 0 ≤ lo → lo ≤ hi → hi ≤ 536870912 → hi - lo < 2 ^ d → lo * lo ≤ v * 65536 →
    ∃ r, impl_greatest_at56.l0 k hi lo v = some (r, v) ∧ lo ≤ r ∧ r ≤ hi ∧ r * r ≤ v * 65536 ∧ (r < hi → v * 65536 < (r + 1) * (r + 1)) := by
  induction d with
  | zero =>
    intro k lo hi hk h0 h1 h2 h3 h4
    obtain ⟨k, rfl⟩ : ∃ m, k = m + 1 := ⟨k - 1, by omega⟩
    have : lo = hi := by simp at h3; omega
    subst this
    exact ⟨lo, by simp only [impl_greatest_at56.l0]; rw [if_neg (by omega)], by omega, by omega, h4, fun h => by omega⟩
  | succ d ih =>
    intro k lo hi hk h0 h1 h2 h3 h4
    obtain ⟨k, rfl⟩ : ∃ m, k = m + 1 := ⟨k - 1, by omega⟩
    by_cases hlt : lo < hi
    · have e : wrap64 (lo + (wrap64 (Int.tdiv (wrap64 ((wrap64 (hi - lo)) + 1)) 2))) = lo + (hi - lo + 1) / 2 := by
        rw [w64 (n := hi - lo) (by omega) (by omega), w64 (n := hi - lo + 1) (by omega) (by omega), Int.tdiv_eq_ediv_of_nonneg (by omega), w64 (n := (hi - lo + 1) / 2) (by omega) (by omega), w64 (by omega) (by omega)]
      have hp : (2 : Int) ^ (d + 1) = 2 * 2 ^ d := by rw [Int.pow_succ]; omega
      obtain ⟨m, hm⟩ : ∃ m, m = lo + (hi - lo + 1) / 2 := ⟨_, rfl⟩
      have hm0 : lo < m := by omega
      have hm1 : m ≤ hi := by omega
      have hmm := mul_lt (x := m) (y := m) (a := 536870912) (b := 536870912) (by omega) (by omega) (by omega) (by omega)
      simp only [impl_greatest_at56.l0, impl_FixRoot_1_c.f]
      rw [if_pos hlt, e, ← hm, w64 (n := m * m) (by omega) (by omega), w64 (n := v * 65536) (by omega) (by omega)]
      simp only [Option.bind_some, decide_eq_true_eq]
      by_cases hc : m * m ≤ v * 65536
      · rw [if_pos hc]
        obtain ⟨r, hr, r0, r1, r2, r3⟩ := ih k m hi (by omega) (by omega) (by omega) (by omega) (by omega) hc
        exact ⟨r, hr, by omega, r1, r2, r3⟩
      · rw [if_neg hc, w64 (n := m - 1) (by omega) (by omega)]
        obtain ⟨r, hr, r0, r1, r2, r3⟩ := ih k lo (m - 1) (by omega) h0 (by omega) (by omega) (by omega) h4
        refine ⟨r, hr, r0, by omega, r2, fun _ => ?_⟩
        by_cases hrm : r < m - 1
        · exact r3 hrm
        · have : r + 1 = m := by omega
          rw [this]; omega
    · have : lo = hi := by omega
      subst this
      exact ⟨lo, by simp only [impl_greatest_at56.l0]; rw [if_neg (by omega)], by omega, by omega, h4, fun h => by omega⟩
theorem sroot_go (A : Int) (hA : 0 ≤ A) (d : Nat) : ∀ (k : Nat) (lo hi : Int), d < k → 0 ≤ lo → lo ≤ hi → hi ≤ 1099511627776 → hi - lo < 2 ^ d → lo * lo ≤ A →
    ∃ r, spec_l1Root.l0 k lo hi (A / 18446744073709551616) (A % 18446744073709551616) = some r ∧ lo ≤ r ∧ r ≤ hi ∧ r * r ≤ A ∧ (r < hi → A < (r + 1) * (r + 1)) := by
  induction d with
  | zero =>
    intro k lo hi hk h0 h1 h2 h3 h4
    obtain ⟨k, rfl⟩ : ∃ m, k = m + 1 := ⟨k - 1, by omega⟩
    have : lo = hi := by simp at h3; omega
    subst this
    exact ⟨lo, by simp only [spec_l1Root.l0]; rw [if_neg (by omega)], by omega, by omega, h4, fun h => by omega⟩
  | succ d ih =>
    intro k lo hi hk h0 h1 h2 h3 h4
    obtain ⟨k, rfl⟩ : ∃ m, k = m + 1 := ⟨k - 1, by omega⟩
    by_cases hlt : lo < hi
    · have e : IntKind.u64.wrap (lo + (IntKind.u64.wrap (Int.tdiv (IntKind.u64.wrap ((IntKind.u64.wrap (hi - lo)) + 1)) 2))) = lo + (hi - lo + 1) / 2 := by
        rw [wu64' (n := hi - lo) (by omega) (by omega), wu64' (n := hi - lo + 1) (by omega) (by omega), Int.tdiv_eq_ediv_of_nonneg (by omega), wu64' (n := (hi - lo + 1) / 2) (by omega) (by omega), wu64' (by omega) (by omega)]
      have hp : (2 : Int) ^ (d + 1) = 2 * 2 ^ d := by rw [Int.pow_succ]; omega
      obtain ⟨m, hm⟩ : ∃ m, m = lo + (hi - lo + 1) / 2 := ⟨_, rfl⟩
      have hm0 : lo < m := by omega
      have hm1 : m ≤ hi := by omega
      simp only [spec_l1Root.l0]
      rw [if_pos hlt, e, ← hm, times_eq (by omega) (by omega) (by omega) (by omega)]
      simp only [Option.bind_some]
      rw [less_eq hA (Int.mul_nonneg (by omega) (by omega))]
      simp only [Option.bind_some, decide_eq_true_eq]
      by_cases hc : A < m * m
      · rw [if_pos hc, wu64' (n := m - 1) (by omega) (by omega)]
        obtain ⟨r, hr, r0, r1, r2, r3⟩ := ih k lo (m - 1) (by omega) h0 (by omega) (by omega) (by omega) h4
        refine ⟨r, hr, r0, by omega, r2, fun _ => ?_⟩
        by_cases hrm : r < m - 1
        · exact r3 hrm
        · have : r + 1 = m := by omega
          rw [this]; exact hc
      · rw [if_neg hc]
        obtain ⟨r, hr, r0, r1, r2, r3⟩ := ih k m hi (by omega) (by omega) (by omega) (by omega) (by omega) (by omega)
        exact ⟨r, hr, by omega, r1, r2, r3⟩
    · have : lo = hi := by omega
      subst this
      exact ⟨lo, by simp only [spec_l1Root.l0]; rw [if_neg (by omega)], by omega, by omega, h4, fun h => by omega⟩
theorem sq_le {a b : Int} (h0 : 0 ≤ a) (h : a ≤ b) : a * a ≤ b * b := Int.mul_le_mul h h h0 (by omega)
theorem sq_uniq {r s N : Int} (hr : 0 ≤ r) (hs : 0 ≤ s) (r1 : r * r ≤ N) (r2 : N < (r + 1) * (r + 1)) (s1 : s * s ≤ N) (s2 : N < (s + 1) * (s + 1)) : r = s := by
  rcases Int.lt_trichotomy r s with h | h | h
  · have := sq_le (a := r + 1) (b := s) (by omega) (by omega)
    omega
  · exact h
  · have := sq_le (a := s + 1) (b := r) (by omega) (by omega)
    omega
theorem sgood_eq (v : Int) : spec_GoodFixed.f v = some (decide (-1099511627776 ≤ v ∧ v ≤ 1099511627776)) := by
  unfold spec_GoodFixed.f
  rw [l1In_eq]; rfl
theorem root_bad (v : Int) (h : v < 0 ∨ 1099511627776 < v) (k : Nat) (hk : 2 ≤ k) : impl_FixRoot.f k v = some 0 ∧ spec_FixRoot.f k v = some 0 := by
  obtain ⟨k, rfl⟩ : ∃ m, k = m + 1 := ⟨k - 1, by omega⟩
  unfold impl_FixRoot.f spec_FixRoot.f
  constructor
  · rw [inRange_eq, decide_eq_false (by omega), Option.bind_some, if_neg (by decide)]
  · split
    · rw [spec_FixRoot.j0, if_pos rfl]
    · rw [sgood_eq, decide_eq_false (by omega), Option.bind_some, spec_FixRoot.j0, if_pos (by decide)]
theorem root_good (v : Int) (h0 : 0 ≤ v) (h1 : v ≤ 1099511627776) (k : Nat) (hk : 60 ≤ k) : ∃ r, impl_FixRoot.f k v = some r ∧ spec_FixRoot.f k v = some r ∧ 0 ≤ r ∧ r < 536870912 ∧ r * r ≤ v * 65536 ∧ v * 65536 < (r + 1) * (r + 1) := by
  obtain ⟨k, rfl⟩ : ∃ m, k = m + 1 := ⟨k - 1, by omega⟩
  obtain ⟨r, hr, r0, r1, r2, r3⟩ := igreat_go v h0 h1 30 (k + 1) 0 536870912 (by omega) (by omega) (by omega) (by omega) (by decide) (by omega)
  have hlt : r < 536870912 := by
    rcases Int.lt_or_eq_of_le r1 with h | h
    · exact h
    · subst h; omega
  have r4 := r3 hlt
  have hNs : v * 65536 % 18446744073709551616 = v * 65536 := by omega
  have hNd : v * 65536 / 18446744073709551616 = 0 := by omega
  obtain ⟨s, hs, s0, s1, s2, s3⟩ := sroot_go (v * 65536) (by omega) 41 k 0 1099511627776 (by omega) (by omega) (by omega) (by omega) (by decide) (by omega)
  have hslt : s < 1099511627776 := by
    rcases Int.lt_or_eq_of_le s1 with h | h
    · exact h
    · subst h; omega
  have hrs := sq_uniq r0 s0 r2 r4 s2 (s3 hslt)
  subst hrs
  refine ⟨r, ?_, ?_, r0, hlt, r2, r4⟩
  · unfold impl_FixRoot.f impl_greatest_at56.f
    rw [inRange_eq, decide_eq_true (show 0 ≤ v ∧ v ≤ 1099511627776 from ⟨h0, h1⟩), Option.bind_some, if_pos rfl, hr, Option.bind_some]
  · unfold spec_FixRoot.f
    rw [if_neg (by omega), sgood_eq, decide_eq_true (by omega), Option.bind_some, spec_FixRoot.j0, if_neg (by decide), wu64' (n := v) (by omega) (by omega), times_eq (by omega) (by omega) (by omega) (by omega), Option.bind_some]
    unfold spec_l1Root.f
    dsimp only
    rw [hs, Option.bind_some, w64 (by omega) (by omega)]
theorem rootDraw {l : List Int} (h : Bs l) (k : Nat) (hk : 9 ≤ k) : ∃ v, spec_DrawFixRoot.f k l = some v := by
  unfold spec_DrawFixRoot.f
  obtain ⟨r, a1, s1, e1, g1, g1'⟩ := fixed_tot h (at_ := 0) (s := 0) k hk (by omega) (by omega)
  rw [e1, Option.bind_some]
  dsimp only
  split
  · split
    · obtain ⟨o, a2, s2, e2, g2, g2'⟩ := one_tot h (at_ := a1) (s := s1) 8 (by omega) (by omega)
      rw [e2, Option.bind_some]
      split
      · exact ⟨_, rfl⟩
      · exact ⟨_, rfl⟩
    · exact ⟨_, rfl⟩
  · exact ⟨_, rfl⟩
/-! ### the law -/
theorem tail_true {l : List Int} (h : Bs l) (k : Nat) (hk : 70 ≤ k) : ((spec_DrawFixRoot.f k l).bind fun t216 => ((impl_FixRoot.f k t216).bind fun t217 => (if t216 < 0 then ((spec_FixRoot.f k t216).bind fun t218 => (some (t217 == t218))) else (if t216 > 1073741824 then ((spec_FixRoot.f k t216).bind fun t219 => (some (t217 == t219))) else (if (wrap64 (t217 * t217)) ≤ (wrap64 (t216 * 65536)) then (some (decide ((wrap64 ((wrap64 (t217 + 1)) * (wrap64 (t217 + 1)))) > (wrap64 (t216 * 65536))))) else (some false)))))) = some true := by
  obtain ⟨v, hv⟩ := rootDraw h k (by omega)
  rw [hv, Option.bind_some]
  by_cases hb : v < 0 ∨ 1099511627776 < v
  · obtain ⟨e1, e2⟩ := root_bad v hb k (by omega)
    rw [e1, Option.bind_some, e2, Option.bind_some]
    split
    · simp
    · rw [if_pos (by omega)]; simp
  · obtain ⟨r, e1, e2, r0, r1, r2, r3⟩ := root_good v (by omega) (by omega) k (by omega)
    rw [e1, Option.bind_some, e2, Option.bind_some, if_neg (by omega)]
    split
    · simp
    · have m1 := mul_lt (x := r) (y := r) (a := 536870912) (b := 536870912) (by omega) (by omega) (by omega) (by omega)
      have m2 := mul_lt (x := r + 1) (y := r + 1) (a := 536870912) (b := 536870912) (by omega) (by omega) (by omega) (by omega)
      rw [w64 (n := r * r) (by omega) (by omega), w64 (n := v * 65536) (by omega) (by omega), w64 (n := r + 1) (by omega) (by omega), w64 (n := (r + 1) * (r + 1)) (by omega) (by omega), if_pos r2, decide_eq_true r3]
theorem law_all (l m : List Int) (hl : Bs l) (hm : Bs m) (k : Nat) (hk : 70 ≤ k) : laws_FnRound.f k l m = some true := by
  unfold laws_FnRound.f
  have ht := tail_true hm k hk
  by_cases hz : wrap64 ((l.length : Int) + (m.length : Int)) > 1048576
  · rw [if_pos hz]
  · rw [if_neg hz]
    obtain ⟨a, ha, a0, a1⟩ := sinDraw hl
    obtain ⟨⟨b0, b1⟩, ⟨b2, b3⟩, b4⟩ := SM_ok (a % 4096) (by omega) (by omega)
    obtain ⟨⟨c0, c1⟩, _⟩ := SM_ok ((a % 4096 + 1024) % 4096) (by omega) (by omega)
    rw [ha, Option.bind_some, isin_eq a a0 a1, Option.bind_some, icos_eq a a0 a1, Option.bind_some, ssin_eq k (by omega) a a0 a1, Option.bind_some, if_pos rfl, scos_eq k (by omega) a a0 a1, Option.bind_some, if_pos rfl]
    have hneg : -1000000 < a → a < 1000000 → impl_SinOf.f (wrap64 (-a)) = some (-(SM (a % 4096))) := by
      intro g0 g1
      rw [w64 (by omega) (by omega), isin_eq _ (by omega) (by omega), ← b4]
      congr 2; omega
    have hper : -1000000 < a → a < 1000000 → impl_SinOf.f (wrap64 (a + 4096)) = some (SM (a % 4096)) := by
      intro g0 g1
      rw [w64 (by omega) (by omega), isin_eq _ (by omega) (by omega)]
      congr 2; omega
    generalize SM (a % 4096) = s at *
    generalize SM ((a % 4096 + 1024) % 4096) = c at *
    have q1 : -(70000 * 70000) ≤ s * s ∧ s * s ≤ 70000 * 70000 := by
      rcases Int.le_total 0 s with h | h
      · have := mul_lt (x := s) (y := s) (a := 70000) (b := 70000) h (by omega) h (by omega); omega
      · have := mul_lt (x := -s) (y := -s) (a := 70000) (b := 70000) (by omega) (by omega) (by omega) (by omega); rw [Int.neg_mul_neg] at this; omega
    have q2 : -(70000 * 70000) ≤ c * c ∧ c * c ≤ 70000 * 70000 := by
      rcases Int.le_total 0 c with h | h
      · have := mul_lt (x := c) (y := c) (a := 70000) (b := 70000) h (by omega) h (by omega); omega
      · have := mul_lt (x := -c) (y := -c) (a := 70000) (b := 70000) (by omega) (by omega) (by omega) (by omega); rw [Int.neg_mul_neg] at this; omega
    rw [w64 (n := s * s) (by omega) (by omega), w64 (n := c * c) (by omega) (by omega), w64 (n := s * s + c * c) (by omega) (by omega), w64 (n := s * s + c * c - 4294967296) (by omega) (by omega), sizeOf_eq _ (by omega) (by omega), Option.bind_some, if_neg (by split <;> omega)]
    by_cases k1 : a > -1000000
    · rw [if_pos k1]
      by_cases k2 : a < 1000000
      · rw [if_pos k2, hneg (by omega) (by omega), Option.bind_some, w64 (n := -s) (by omega) (by omega), if_pos rfl, hper (by omega) (by omega), Option.bind_some, if_pos rfl]
        exact ht
      · rw [if_neg k2]; exact ht
    · rw [if_neg k1]; exact ht
theorem law_pure : laws_FnRound.Pure := fun l m _ _ hl _ _ hm => ⟨70, law_all l m hl hm 70 (by omega)⟩

theorem FnRound : laws_FnRound.Pure := law_pure
end Go.Proofs.Ytnebjoanfknmeaa.Pure
