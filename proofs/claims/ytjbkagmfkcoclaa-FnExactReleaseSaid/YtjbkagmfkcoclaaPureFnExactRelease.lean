/-
  Letting go of what is held: the spec looks for the name among all, the program by halves in the sorted names; both count it down once, and neither changes the store it was given.
-/
import Derived.Test.YtjbkagmfkcoclaaXFnExactReleasex9
namespace Go.Proofs.Ytjbkagmfkcoclaa.Pure
open Go.RowKit Go.Proofs.Ytjbkagmfkcoclaa.XFnExactRelease Go.Proofs.YtjbkagmfkcoclaaW.PrintWords Go.Proofs.YtjbkagmfkcoclaaW.PrintLast
set_option linter.unusedVariables false
set_option linter.unusedSimpArgs false
theorem w64 {n : Int} (h0 : -9223372036854775808 ≤ n) (h1 : n ≤ 9223372036854775807) : wrap64 n = n := by unfold wrap64; omega
theorem inRange_eq (a b c : Int) : impl_inRange.f a b c = some (decide (b ≤ a ∧ a ≤ c)) := by
  unfold impl_inRange.f
  by_cases h : b ≤ a
  · rw [if_pos h]; congr 1; rw [decide_eq_decide]; exact ⟨fun h2 => ⟨h, h2⟩, fun h2 => h2.2⟩
  · rw [if_neg h]; congr 1; symm; rw [decide_eq_false_iff_not]; exact fun h2 => h h2.1
theorem l1In_eq (a b c : Int) : spec_l1In.f a b c = some (decide (b ≤ a ∧ a ≤ c)) := by
  unfold spec_l1In.f
  by_cases h : b ≤ a
  · rw [if_pos h]; congr 1; rw [decide_eq_decide]; exact ⟨fun h2 => ⟨h, h2⟩, fun h2 => h2.2⟩
  · rw [if_neg (by omega)]; congr 1; symm; rw [decide_eq_false_iff_not]; exact fun h2 => h h2.1
/-! ### names -/
def isD (c : Int) : Bool := decide (48 ≤ c ∧ c ≤ 57)
def isL (c : Int) : Bool := decide ((97 ≤ c ∧ c ≤ 122) ∨ (65 ≤ c ∧ c ≤ 90))
theorem sdigit_eq (c : Int) : spec_l1Digit.f c = some (isD c) := by
  unfold spec_l1Digit.f isD
  by_cases h : 48 ≤ c
  · rw [if_pos h]; congr 1; rw [decide_eq_decide]; omega
  · rw [if_neg (by omega)]; congr 1; symm; rw [decide_eq_false_iff_not]; omega
theorem idigit_eq (c : Int) : impl_isDigit.f c = some (isD c) := by
  unfold impl_isDigit.f isD
  by_cases h : 48 ≤ c
  · rw [if_pos h]; congr 1; rw [decide_eq_decide]; omega
  · rw [if_neg (by omega)]; congr 1; symm; rw [decide_eq_false_iff_not]; omega
theorem sletter_eq (c : Int) : spec_l1Letter.f c = some (isL c || (c == 95)) := by
  unfold spec_l1Letter.f isL
  by_cases h95 : c = 95
  · subst h95; decide
  · have : (c == 95) = false := by simp [h95]
    rw [this, Bool.or_false]
    (repeat' split) <;> (congr 1; symm; first | (rw [decide_eq_true_eq]; omega) | (rw [decide_eq_false_iff_not]; omega))
theorem iletter_eq (c : Int) : impl_isLetter.f c = some (isL c) := by
  unfold impl_isLetter.f isL
  (repeat' split) <;> (congr 1; symm; first | (rw [decide_eq_true_eq]; omega) | (rw [decide_eq_false_iff_not]; omega) | (rw [decide_eq_decide]; omega))
def okc (c : Int) : Bool := (isL c || (c == 95)) || isD c
def okFrom (x : ByteArray) : Nat → Int → Bool
  | 0, _ => true
  | d + 1, i => okc (bt x i) && okFrom x d (i + 1)
theorem sname_go (x : ByteArray) (hx : x.size ≤ 1048576) (d : Nat) : ∀ (k : Nat) (i : Int), d < k → 0 ≤ i → i + d = x.size → spec_GoodName.l0 k x i = some (okFrom x d i) := by
  induction d with
  | zero =>
    intro k i hk h0 hi
    obtain ⟨k, rfl⟩ : ∃ m, k = m + 1 := ⟨k - 1, by omega⟩
    rw [spec_GoodName.l0, if_neg (by omega)]; rfl
  | succ d ih =>
    intro k i hk h0 hi
    obtain ⟨k, rfl⟩ : ∃ m, k = m + 1 := ⟨k - 1, by omega⟩
    rw [spec_GoodName.l0, if_pos (by omega), if_pos h0, sletter_eq, Option.bind_some, sdigit_eq, Option.bind_some, w64 (n := i + 1) (by omega) (by omega), ih k (i + 1) (by omega) (by omega) (by omega)]
    show _ = some (okc (bt x i) && okFrom x d (i + 1))
    unfold okc
    cases (isL (bt x i) || (bt x i == 95)) <;> cases isD (bt x i) <;> simp
theorem iname_go (x : ByteArray) (hx : x.size ≤ 1048576) (d : Nat) : ∀ (k : Nat) (i : Int), d < k → 1 ≤ i → i + d = x.size → impl_GoodName.l0 k x (x.size : Int) i = some (okFrom x d i && decide (1 ≤ (x.size : Int) ∧ (x.size : Int) ≤ 20)) := by
  induction d with
  | zero =>
    intro k i hk h0 hi
    obtain ⟨k, rfl⟩ : ∃ m, k = m + 1 := ⟨k - 1, by omega⟩
    rw [impl_GoodName.l0, if_neg (by omega), inRange_eq, Option.bind_some]; rfl
  | succ d ih =>
    intro k i hk h0 hi
    obtain ⟨k, rfl⟩ : ∃ m, k = m + 1 := ⟨k - 1, by omega⟩
    rw [impl_GoodName.l0, if_pos (by omega), if_pos (by omega), if_pos (by omega), iletter_eq, Option.bind_some, idigit_eq, Option.bind_some, w64 (n := i + 1) (by omega) (by omega), ih k (i + 1) (by omega) (by omega) (by omega), if_neg (show ¬ i = 0 by omega)]
    show _ = some ((okc (bt x i) && okFrom x d (i + 1)) && _)
    unfold okc
    by_cases h95 : bt x i = 95
    · rw [if_pos h95]; simp [h95]
    · rw [if_neg h95]
      have : (bt x i == 95) = false := by simp [h95]
      rw [this]
      cases isL (bt x i) <;> cases isD (bt x i) <;> simp
def GN (x : ByteArray) : Bool := decide (1 ≤ (x.size : Int) ∧ (x.size : Int) ≤ 20) && ((isL (bt x 0) || (bt x 0 == 95)) && okFrom x (x.size - 1) 1)
theorem sname_eq (x : ByteArray) (hx : x.size ≤ 1048576) (k : Nat) (hk : 1048600 ≤ k) : spec_GoodName.f k x = some (GN x) := by
  unfold spec_GoodName.f GN
  obtain ⟨k, rfl⟩ : ∃ m, k = m + 1 := ⟨k - 1, by omega⟩
  by_cases h0 : (x.size : Int) < 1
  · rw [if_pos h0, spec_GoodName.j0, if_pos rfl, decide_eq_false (by omega)]; rfl
  · rw [if_neg h0]
    by_cases h1 : (x.size : Int) > 20
    · rw [if_pos h1, spec_GoodName.j0, if_pos rfl, decide_eq_false (by omega)]; rfl
    · rw [if_neg h1, if_pos (by omega), sdigit_eq, Option.bind_some, spec_GoodName.j0, decide_eq_true (by omega), Bool.true_and]
      obtain ⟨d, hd⟩ : ∃ d, x.size = d + 1 := ⟨x.size - 1, by omega⟩
      rw [sname_go x hx (d + 1) k 0 (by omega) (by omega) (by omega)]
      rw [show x.size - 1 = d by omega]
      show (if isD (bt x 0) = true then _ else some (okc (bt x 0) && okFrom x d (0 + 1))) = _
      by_cases hD : isD (bt x 0) = true
      · have hD2 := hD
        unfold isD at hD2
        rw [decide_eq_true_eq] at hD2
        have hL : isL (bt x 0) = false := by unfold isL; rw [decide_eq_false_iff_not]; omega
        have h95 : (bt x 0 == 95) = false := by simp; omega
        rw [if_pos hD, hL, h95]; rfl
      · rw [if_neg hD]
        unfold okc
        have hD2 : isD (bt x 0) = false := by simpa using hD
        rw [hD2, Bool.or_false]; rfl
theorem iname_eq (x : ByteArray) (hx : x.size ≤ 1048576) (k : Nat) (hk : 1048600 ≤ k) : impl_GoodName.f k x = some (GN x) := by
  unfold impl_GoodName.f GN
  obtain ⟨k, rfl⟩ : ∃ m, k = m + 1 := ⟨k - 1, by omega⟩
  by_cases h0 : (x.size : Int) < 1
  · rw [impl_GoodName.l0, if_neg (by omega), inRange_eq, Option.bind_some, decide_eq_false (by omega)]; rfl
  · obtain ⟨d, hd⟩ : ∃ d, x.size = d + 1 := ⟨x.size - 1, by omega⟩
    rw [impl_GoodName.l0, if_pos (by omega), if_pos (by omega), if_pos (by omega), iletter_eq, Option.bind_some, if_pos (show (0 : Int) = 0 from rfl), w64 (n := 0 + 1) (by omega) (by omega), iname_go x hx d k (0 + 1) (by omega) (by omega) (by omega), show x.size - 1 = d by omega]
    by_cases h95 : bt x 0 = 95
    · rw [if_pos h95]; simp [h95, Bool.and_comm]
    · rw [if_neg h95]
      have : (bt x 0 == 95) = false := by simp [h95]
      rw [this]
      cases isL (bt x 0) <;> simp [Bool.and_comm]

/-! ### stores: flat rows of residents -/
theorem rd138_mem {l : List S138} {i : Int} (h0 : 0 ≤ i) (h : i < l.length) : rd_T138 l i ∈ l := by
  unfold rd_T138
  rw [List.getD_eq_getElem?_getD, List.getElem?_eq_getElem (by omega)]
  exact List.getElem_mem _
theorem rd96_mem {l : List S96} {i : Int} (h0 : 0 ≤ i) (h : i < l.length) : rd_T96 l i ∈ l := by
  unfold rd_T96
  rw [List.getD_eq_getElem?_getD, List.getElem?_eq_getElem (by omega)]
  exact List.getElem_mem _
theorem rd96_at {l : List S96} {i : Nat} (h : i < l.length) : rd_T96 l (i : Int) = l[i] := by
  unfold rd_T96
  rw [List.getD_eq_getElem?_getD, show ((i : Int)).toNat = i by omega, List.getElem?_eq_getElem h]; rfl
def cP (p : S138) : S96 := ⟨p.f0, p.f1, p.f2, p.f3⟩
def LenP (l : List S138) : Prop := l.length ≤ 9223372036854775807 ∧ ∀ p ∈ l, p.f0.size ≤ 9223372036854775807
theorem szp_go (l : List S138) (hs : LenP l) (hl : l.length ≤ 1048576) (d : Nat) : ∀ (k : Nat) (b i : Int), d < k → 0 ≤ i → i + d = l.length → 0 ≤ b → b ≤ 1048576 →
    ∃ t, laws_szResidentS.l0 k l b i = some t ∧ t ≤ b ∧ (¬ t < 0 → ∀ j : Int, i ≤ j → j < l.length → ((rd_T138 l j).f0.size : Int) ≤ 1048576) := by
  induction d with
  | zero =>
    intro k b i hk h0 hi hb hb1
    obtain ⟨k, rfl⟩ : ∃ m, k = m + 1 := ⟨k - 1, by omega⟩
    exact ⟨b, by rw [laws_szResidentS.l0, if_neg (by omega)], by omega, fun _ j h1 h2 => by omega⟩
  | succ d ih =>
    intro k b i hk h0 hi hb hb1
    obtain ⟨k, rfl⟩ : ∃ m, k = m + 1 := ⟨k - 1, by omega⟩
    have hz := hs.2 _ (rd138_mem (l := l) h0 (by omega))
    rw [laws_szResidentS.l0, if_pos (by omega), if_pos h0]
    unfold laws_szResident.f
    rw [w64 (n := b - ((rd_T138 l i).f0.size : Int)) (by omega) (by omega)]
    by_cases hn : b - ((rd_T138 l i).f0.size : Int) < 0
    · rw [if_pos hn, Option.bind_some, if_pos (by omega)]
      exact ⟨-1, rfl, by omega, fun h => absurd (by omega) h⟩
    · rw [if_neg hn, Option.bind_some, if_neg hn, w64 (n := i + 1) (by omega) (by omega)]
      obtain ⟨t, ht, h1, h2⟩ := ih k (b - ((rd_T138 l i).f0.size : Int)) (i + 1) (by omega) (by omega) (by omega) (by omega) (by omega)
      refine ⟨t, ht, by omega, fun h j h3 h4 => ?_⟩
      by_cases hj : j = i
      · subst hj; omega
      · exact h2 h j (by omega) h4
def BndP (l : List S138) : Prop := l.length ≤ 1048576 ∧ ∀ p ∈ l, p.f0.size ≤ 1048576
theorem szp_eq (l : List S138) (hs : LenP l) (b : Int) (hb : 0 ≤ b) (hb1 : b ≤ 1048576) (k : Nat) (hk : 1048600 ≤ k) : ∃ t, laws_szResidentS.f k l b = some t ∧ t ≤ b ∧ (¬ t < 0 → BndP l) := by
  unfold laws_szResidentS.f
  have := hs.1
  rw [w64 (n := b - (l.length : Int)) (by omega) (by omega)]
  by_cases hn : b - (l.length : Int) < 0
  · rw [if_pos hn]
    exact ⟨-1, rfl, by omega, fun h => absurd (by omega) h⟩
  · rw [if_neg hn]
    obtain ⟨t, ht, h1, h2⟩ := szp_go l hs (by omega) l.length k (b - (l.length : Int)) 0 (by omega) (by omega) (by omega) (by omega) (by omega)
    refine ⟨t, ht, by omega, fun h => ⟨by omega, fun p hp => ?_⟩⟩
    obtain ⟨i, hi, rfl⟩ := List.getElem_of_mem hp
    have h3 := h2 h (i : Int) (by omega) (by omega)
    unfold rd_T138 at h3
    rw [List.getD_eq_getElem?_getD, List.getElem?_eq_getElem (by omega)] at h3
    have h4 : (((l[i]).f0.size : Int)) ≤ 1048576 := by simpa using h3
    omega
theorem top_go (l : List S138) (hl : l.length ≤ 1048576) (d : Nat) : ∀ (k : Nat) (ys : List S96) (i : Nat), d < k → i + d = l.length → ys.length = l.length → (∀ j, j < i → ys[j]? = (l.map cP)[j]?) → laws_toResidentS.l0 k l ys (i : Int) = some (l.map cP) := by
  induction d with
  | zero =>
    intro k ys i hk hi hy h
    obtain ⟨k, rfl⟩ : ∃ m, k = m + 1 := ⟨k - 1, by omega⟩
    rw [laws_toResidentS.l0, if_neg (by omega)]
    congr 1
    apply List.ext_getElem?
    intro j
    by_cases hj : j < i
    · exact h j hj
    · rw [List.getElem?_eq_none (by omega), List.getElem?_eq_none (by rw [List.length_map]; omega)]
  | succ d ih =>
    intro k ys i hk hi hy h
    obtain ⟨k, rfl⟩ : ∃ m, k = m + 1 := ⟨k - 1, by omega⟩
    rw [laws_toResidentS.l0, if_pos (by omega), if_pos (by omega)]
    unfold laws_toResident.f
    rw [Option.bind_some, if_pos (by omega), w64 (n := (i : Int) + 1) (by omega) (by omega), show ((i : Int) + 1) = ((i + 1 : Nat) : Int) by omega, show ((i : Int)).toNat = i by omega]
    refine ih k _ (i + 1) (by omega) (by omega) (by rw [List.length_set]; exact hy) (fun j hj => ?_)
    by_cases hji : j = i
    · subst hji
      rw [List.getElem?_set_self (by omega), List.getElem?_map, List.getElem?_eq_getElem (by omega)]
      unfold rd_T138
      rw [List.getD_eq_getElem?_getD, show ((j : Int)).toNat = j by omega, List.getElem?_eq_getElem (by omega)]
      rfl
    · rw [List.getElem?_set_ne (by omega)]
      exact h j (by omega)
theorem top_eq (l : List S138) (hl : l.length ≤ 1048576) (k : Nat) (hk : 1048600 ≤ k) : laws_toResidentS.f k l = some (l.map cP) := by
  unfold laws_toResidentS.f
  rw [if_pos (by omega), if_pos (by omega)]
  exact top_go l hl l.length k _ 0 (by omega) (by omega) (by simp) (fun j hj => by omega)
def BP (l : List S96) : Prop := l.length ≤ 1048576 ∧ ∀ p ∈ l, p.f0.size ≤ 1048576
theorem eqp_go (l : List S96) (hl : l.length ≤ 1048576) (d : Nat) : ∀ (k : Nat) (i : Int), d < k → 0 ≤ i → i + d = l.length → laws_eqResidentS.l0 k l l i = some true := by
  induction d with
  | zero =>
    intro k i hk h0 hi
    obtain ⟨k, rfl⟩ : ∃ m, k = m + 1 := ⟨k - 1, by omega⟩
    rw [laws_eqResidentS.l0, if_neg (by omega)]
  | succ d ih =>
    intro k i hk h0 hi
    obtain ⟨k, rfl⟩ : ∃ m, k = m + 1 := ⟨k - 1, by omega⟩
    rw [laws_eqResidentS.l0, if_pos (by omega), if_pos h0, if_pos (by omega)]
    unfold laws_eqResident.f
    rw [if_pos rfl, if_pos rfl, if_pos rfl, if_pos rfl, Option.bind_some, if_pos rfl, w64 (n := i + 1) (by omega) (by omega)]
    exact ih k (i + 1) (by omega) (by omega) (by omega)
theorem text_go (d : Nat) : ∀ (c : Int) (t : ByteArray), 0 ≤ c → c < 10 ^ d → c ≤ 1000000000000000 → t.size ≤ 1000 - d → d ≤ 1000 → ∃ r, ∀ k, d < k → laws_markText.l0 k c t = some r := by
  induction d with
  | zero =>
    intro c t h0 h1 _ ht _
    refine ⟨(⟨#[109]⟩ : ByteArray) ++ t, fun k hk => ?_⟩
    obtain ⟨k, rfl⟩ : ∃ m, k = m + 1 := ⟨k - 1, by omega⟩
    rw [laws_markText.l0, if_neg (by simp at h1; omega), if_pos (by omega)]
  | succ d ih =>
    intro c t h0 h1 hb ht hd
    by_cases hc : c > 0
    · have hp : (10 : Int) ^ (d + 1) = 10 ^ d * 10 := Int.pow_succ _ _
      have hsz : (strOfNums [(wrap64 (48 + c.tmod 10)) % 256]).size = 1 := rfl
      have hdv : c.tdiv 10 = c / 10 := Int.tdiv_eq_ediv_of_nonneg h0
      obtain ⟨r, hr⟩ := ih (c / 10) (strOfNums [(wrap64 (48 + c.tmod 10)) % 256] ++ t) (by omega) (by omega) (by omega) (by rw [ByteArray.size_append, hsz]; omega) (by omega)
      refine ⟨r, fun k hk => ?_⟩
      obtain ⟨k, rfl⟩ : ∃ m, k = m + 1 := ⟨k - 1, by omega⟩
      rw [laws_markText.l0, if_pos hc, Option.bind_some, hsz, if_pos (by omega), hdv, w64 (n := c / 10) (by omega) (by omega)]
      exact hr k (by omega)
    · refine ⟨(⟨#[109]⟩ : ByteArray) ++ t, fun k hk => ?_⟩
      obtain ⟨k, rfl⟩ : ∃ m, k = m + 1 := ⟨k - 1, by omega⟩
      rw [laws_markText.l0, if_neg hc, if_pos (by omega)]
theorem text_tot (c : Int) (hb : c ≤ 1000000000000000) : ∃ r, ∀ k, 20 < k → laws_markText.f k c = some r := by
  by_cases h : c ≤ 0
  · exact ⟨(⟨#[109, 48]⟩ : ByteArray), fun k _ => by unfold laws_markText.f; rw [if_pos h]⟩
  · obtain ⟨r, hr⟩ := text_go 16 c (⟨#[]⟩ : ByteArray) (by omega) (by have : (10 : Int) ^ 16 = 10000000000000000 := by decide
                                                                      omega) hb (by show (0 : Nat) ≤ _; omega) (by omega)
    exact ⟨r, fun k hk => by unfold laws_markText.f; rw [if_neg h]; exact hr k (by omega)⟩
def HeldP (ys : List S96) (c : Int) (i d : Nat) : Prop := ∀ j, j < d → ∃ r, ys[i + j]? = some ⟨r, c + 4 * j + 1, c + 4 * j + 2, c + 4 * j + 3⟩ ∧ ∀ k, 20 < k → laws_markText.f k (c + 4 * j) = some r
theorem set_rd96 (x : List S96) (i : Nat) (v : S96) (h : i < x.length) : rd_T96 (x.set i v) (i : Int) = v := by
  rw [rd96_at (by rw [List.length_set]; exact h), List.getElem_set_self]
theorem pmark_go (d : Nat) : ∀ (k : Nat) (xs : List S96) (c : Int) (i : Nat), d + 30 < k → i + d = xs.length → xs.length ≤ 1048576 → 0 ≤ c → c + 4 * d ≤ 900000000000000 →
    ∃ ys, laws_markResidentS.l0 k xs c (i : Int) = some (c + 4 * d, ys) ∧ ys.length = xs.length ∧ (∀ j, j < i → ys[j]? = xs[j]?) ∧ HeldP ys c i d := by
  induction d with
  | zero =>
    intro k xs c i hk hi hl hc hc1
    obtain ⟨k, rfl⟩ : ∃ m, k = m + 1 := ⟨k - 1, by omega⟩
    exact ⟨xs, by rw [laws_markResidentS.l0, if_neg (by omega)]; simp, rfl, fun _ _ => rfl, fun j hj => by omega⟩
  | succ d ih =>
    intro k xs c i hk hi hl hc hc1
    obtain ⟨k, rfl⟩ : ∃ m, k = m + 1 := ⟨k - 1, by omega⟩
    obtain ⟨r, hr⟩ := text_tot c (by omega)
    have hlt : i < xs.length := by omega
    obtain ⟨ys, h1, h2, h3, h4⟩ := ih k (xs.set i ⟨r, c + 1, c + 2, c + 3⟩) (c + 4) (i + 1) (by omega) (by rw [List.length_set]; omega) (by rw [List.length_set]; omega) (by omega) (by omega)
    rw [laws_markResidentS.l0, if_pos (by omega), hr k (by omega), Option.bind_some, if_pos (by omega), Option.bind_some, Option.bind_some, Option.bind_some, w64 (n := c + 1) (by omega) (by omega), w64 (n := c + 1 + 1) (by omega) (by omega), w64 (n := c + 1 + 1 + 1) (by omega) (by omega), w64 (n := c + 1 + 1 + 1 + 1) (by omega) (by omega), w64 (n := (i : Int) + 1) (by omega) (by omega), show ((i : Int) + 1) = ((i + 1 : Nat) : Int) by omega, show ((i : Int)).toNat = i by omega]
    have e1 := set_rd96 xs i ⟨r, (rd_T96 xs (i : Int)).f1, (rd_T96 xs (i : Int)).f2, (rd_T96 xs (i : Int)).f3⟩ hlt
    have e2 := set_rd96 xs i ⟨r, c + 1, (rd_T96 xs (i : Int)).f2, (rd_T96 xs (i : Int)).f3⟩ hlt
    have e3 := set_rd96 xs i ⟨r, c + 1, c + 1 + 1, (rd_T96 xs (i : Int)).f3⟩ hlt
    rw [e1]
    dsimp only
    simp only [List.set_set]
    rw [e2]
    dsimp only
    rw [e3]
    dsimp only
    rw [show c + 1 + 1 = c + 2 by omega, show c + 2 + 1 = c + 3 by omega, show c + 3 + 1 = c + 4 by omega]
    refine ⟨ys, by rw [h1]; congr 2; omega, by rw [h2, List.length_set], fun j hj => ?_, fun j hj => ?_⟩
    · rw [h3 j (by omega), List.getElem?_set_ne (by omega)]
    · rcases Nat.eq_zero_or_pos j with h0 | h0
      · subst h0
        refine ⟨r, ?_, by simpa using hr⟩
        rw [Nat.add_zero, h3 i (by omega), List.getElem?_set_self (by omega)]; simp
      · obtain ⟨r2, g1, g2⟩ := h4 (j - 1) (by omega)
        refine ⟨r2, ?_, ?_⟩
        · rw [show i + j = i + 1 + (j - 1) by omega, g1, show c + 4 + 4 * ((j - 1 : Nat) : Int) + 1 = c + 4 * (j : Int) + 1 by omega, show c + 4 + 4 * ((j - 1 : Nat) : Int) + 2 = c + 4 * (j : Int) + 2 by omega, show c + 4 + 4 * ((j - 1 : Nat) : Int) + 3 = c + 4 * (j : Int) + 3 by omega]
        · rw [show c + 4 * (j : Int) = c + 4 + 4 * ((j - 1 : Nat) : Int) by omega]
          exact g2
theorem pheld_go (ys : List S96) (hl : ys.length ≤ 1048576) (d : Nat) : ∀ (k : Nat) (c : Int) (i : Nat), d + 30 < k → i + d = ys.length → 0 ≤ c → c + 4 * d ≤ 900000000000000 → HeldP ys c i d → laws_heldResidentS.l0 k ys c (i : Int) = some (c + 4 * d) := by
  induction d with
  | zero =>
    intro k c i hk hi hc hc1 _
    obtain ⟨k, rfl⟩ : ∃ m, k = m + 1 := ⟨k - 1, by omega⟩
    rw [laws_heldResidentS.l0, if_neg (by omega)]; simp
  | succ d ih =>
    intro k c i hk hi hc hc1 h
    obtain ⟨k, rfl⟩ : ∃ m, k = m + 1 := ⟨k - 1, by omega⟩
    obtain ⟨r, h1, h2⟩ := h 0 (by omega)
    have hr := h2 k (by omega)
    rw [show c + 4 * ((0 : Nat) : Int) = c by omega] at hr h1
    have hrd : rd_T96 ys (i : Int) = ⟨r, c + 1, c + 2, c + 3⟩ := by
      unfold rd_T96
      rw [List.getD_eq_getElem?_getD, show ((i : Int)).toNat = i by omega]
      rw [Nat.add_zero] at h1
      rw [h1]; rfl
    rw [laws_heldResidentS.l0, if_pos (by omega), if_pos (by omega), hr, Option.bind_some, hrd, if_pos rfl, w64 (n := c + 1) (by omega) (by omega), if_pos rfl, w64 (n := c + 1 + 1) (by omega) (by omega), if_pos (show c + 2 = c + 1 + 1 by omega), w64 (n := c + 1 + 1 + 1) (by omega) (by omega), if_pos (show c + 3 = c + 1 + 1 + 1 by omega), w64 (n := c + 1 + 1 + 1 + 1) (by omega) (by omega), w64 (n := (i : Int) + 1) (by omega) (by omega), show ((i : Int) + 1) = ((i + 1 : Nat) : Int) by omega, ih k (c + 1 + 1 + 1 + 1) (i + 1) (by omega) (by omega) (by omega) (by omega)]
    · congr 1; omega
    · intro j hj
      obtain ⟨r2, g1, g2⟩ := h (j + 1) (by omega)
      refine ⟨r2, ?_, ?_⟩
      · rw [show i + 1 + j = i + (j + 1) by omega, g1, show c + 4 * ((j + 1 : Nat) : Int) + 1 = c + 1 + 1 + 1 + 1 + 4 * (j : Int) + 1 by omega, show c + 4 * ((j + 1 : Nat) : Int) + 2 = c + 1 + 1 + 1 + 1 + 4 * (j : Int) + 2 by omega, show c + 4 * ((j + 1 : Nat) : Int) + 3 = c + 1 + 1 + 1 + 1 + 4 * (j : Int) + 3 by omega]
      · rw [show c + 1 + 1 + 1 + 1 + 4 * (j : Int) = c + 4 * ((j + 1 : Nat) : Int) by omega]
        exact g2
/-! ### stores -/
theorem szst_eq (a b : Int) (l : List S138) (hs : LenP l) (k : Nat) (hk : 2200000 ≤ k) : ∃ t, laws_szStore.f k a b l 1048576 = some t ∧ (¬ t < 0 → BndP l) := by
  unfold laws_szStore.f
  obtain ⟨t, ht, h1, h2⟩ := szp_eq l hs 1048576 (by omega) (by omega) k (by omega)
  rw [ht, Option.bind_some]
  by_cases hn : t < 0
  · rw [if_pos hn]; exact ⟨-1, rfl, fun h => absurd (by omega) h⟩
  · rw [if_neg hn]; exact ⟨t, rfl, fun _ => h2 hn⟩
theorem tost_eq (a b : Int) (l : List S138) (hb : BndP l) (k : Nat) (hk : 2200000 ≤ k) : laws_toStore.f k a b l = some (a, b, l.map cP) := by
  unfold laws_toStore.f
  rw [top_eq l hb.1 k (by omega), Option.bind_some]
theorem bp_map (l : List S138) (hb : BndP l) : BP (l.map cP) := by
  refine ⟨by rw [List.length_map]; exact hb.1, fun p hp => ?_⟩
  obtain ⟨q, hq, rfl⟩ := List.mem_map.1 hp
  exact hb.2 q hq
theorem eqst_self (a b : Int) (l : List S96) (hs : BP l) (k : Nat) (hk : 2200000 ≤ k) : laws_eqStore.f k a b l a b l = some true := by
  unfold laws_eqStore.f laws_eqResidentS.f
  have := hs.1
  rw [if_pos rfl, if_pos rfl, if_pos rfl, eqp_go l hs.1 l.length k 0 (by omega) (by omega) (by omega), Option.bind_some, if_pos rfl]
theorem stmark_tot (a b : Int) (xs : List S96) (hs : BP xs) (k : Nat) (hk : 2200000 ≤ k) : ∃ c ys, laws_markStore.f k a b xs 1 = some (c, ys) ∧ 0 ≤ c ∧ laws_heldStore.f k a b ys 1 = some c := by
  have hl := hs.1
  unfold laws_markStore.f laws_heldStore.f laws_markResidentS.f laws_heldResidentS.f
  obtain ⟨ys, h1, h2, _, h4⟩ := pmark_go xs.length k xs 1 0 (by omega) (by omega) hl (by omega) (by omega)
  have h5 := pheld_go ys (by omega) xs.length k 1 0 (by omega) (by omega) (by omega) (by omega) h4
  rw [show ((0 : Nat) : Int) = 0 from rfl] at h1 h5
  refine ⟨_, ys, by rw [h1, Option.bind_some], by omega, ?_⟩
  rw [h5, Option.bind_some, if_neg (by omega)]
theorem sown_eq (a b : Int) (l : List S96) (hs : BP l) : spec_l21Own.f a b l = some (a, b, l) := by
  unfold spec_l21Own.f
  have := hs.1
  rw [Option.bind_some, if_pos (by simp; omega)]; rfl
theorem iclone_eq (a b : Int) (l : List S96) (hs : BP l) : impl_Store_clone.f a b l = some (a, b, l) := by
  unfold impl_Store_clone.f impl_Resident_108.f
  have := hs.1
  rw [if_pos (by omega), Option.bind_some]

/-! ### Release: bytes' order -/
theorem cmp_neg : ∀ a b : List UInt8, Go.Lib.compareBytes a b < 0 ↔ Op.bytesLess a b = true
  | [], [] => by simp [Go.Lib.compareBytes, Op.bytesLess]
  | [], _ :: _ => by simp [Go.Lib.compareBytes, Op.bytesLess]
  | _ :: _, [] => by simp [Go.Lib.compareBytes, Op.bytesLess]
  | a :: x, b :: y => by
    have ih := cmp_neg x y
    unfold Go.Lib.compareBytes Op.bytesLess
    by_cases h : a < b
    · simp [h]
    · rw [if_neg h]
      by_cases h2 : b < a
      · rw [if_pos h2]
        have h3 : (a == b) = false := by
          rw [beq_eq_false_iff_ne]; intro e; subst e; exact h h2
        simp [h, h3]
      · rw [if_neg h2, ih]
        have h3 : a = b := by
          apply UInt8.toNat_inj.1
          have h4 : ¬ a.toNat < b.toNat := fun h5 => h (UInt8.lt_iff_toNat_lt.2 h5)
          have h6 : ¬ b.toNat < a.toNat := fun h5 => h2 (UInt8.lt_iff_toNat_lt.2 h5)
          omega
        simp [h, h3]
theorem cmp_zero : ∀ a b : List UInt8, Go.Lib.compareBytes a b = 0 ↔ a = b
  | [], [] => by simp [Go.Lib.compareBytes]
  | [], _ :: _ => by simp [Go.Lib.compareBytes]
  | _ :: _, [] => by simp [Go.Lib.compareBytes]
  | a :: x, b :: y => by
    have ih := cmp_zero x y
    unfold Go.Lib.compareBytes
    by_cases h : a < b
    · rw [if_pos h]
      constructor
      · intro h2; omega
      · intro h2
        injection h2 with h3 _
        subst h3
        exact absurd (UInt8.lt_iff_toNat_lt.1 h) (Nat.lt_irrefl _)
    · rw [if_neg h]
      by_cases h2 : b < a
      · rw [if_pos h2]
        constructor
        · intro h2; omega
        · intro h4
          injection h4 with h3 _
          subst h3
          exact absurd (UInt8.lt_iff_toNat_lt.1 h2) (Nat.lt_irrefl _)
      · rw [if_neg h2, ih]
        have h3 : a = b := by
          apply UInt8.toNat_inj.1
          have h4 : ¬ a.toNat < b.toNat := fun h5 => h (UInt8.lt_iff_toNat_lt.2 h5)
          have h6 : ¬ b.toNat < a.toNat := fun h5 => h2 (UInt8.lt_iff_toNat_lt.2 h5)
          omega
        simp [h3]
theorem bl_trans : ∀ a b c : List UInt8, Op.bytesLess a b = true → Op.bytesLess b c = true → Op.bytesLess a c = true
  | _, _, [], _, h => by simp [Op.bytesLess] at h
  | [], _, _ :: _, _, _ => rfl
  | _ :: _, [], _ :: _, h, _ => by simp [Op.bytesLess] at h
  | a :: x, b :: y, c :: z, h1, h2 => by
    have ih := bl_trans x y z
    unfold Op.bytesLess at h1 h2 ⊢
    simp only [Bool.or_eq_true, Bool.and_eq_true, decide_eq_true_eq, beq_iff_eq] at h1 h2 ⊢
    rcases h1 with h1 | ⟨rfl, h1⟩
    · rcases h2 with h2 | ⟨rfl, _⟩
      · exact .inl (UInt8.lt_iff_toNat_lt.2 (Nat.lt_trans (UInt8.lt_iff_toNat_lt.1 h1) (UInt8.lt_iff_toNat_lt.1 h2)))
      · exact .inl h1
    · rcases h2 with h2 | ⟨rfl, h2⟩
      · exact .inl h2
      · exact .inr ⟨rfl, ih h1 h2⟩
theorem bl_irr : ∀ a : List UInt8, Op.bytesLess a a = false
  | [] => rfl
  | a :: x => by
    have ih := bl_irr x
    unfold Op.bytesLess
    have : ¬ a < a := fun h => Nat.lt_irrefl _ (UInt8.lt_iff_toNat_lt.1 h)
    simp [ih, this]
/-! ### one name among parts -/
def partFrom (x : ByteArray) : List S96 → Int → Int
  | [], _ => -1
  | p :: r, i => if p.f0.toList = x.toList then i else partFrom x r (i + 1)
theorem part_none (x : ByteArray) : ∀ (l : List S96) (i : Int), (∀ p ∈ l, p.f0.toList ≠ x.toList) → partFrom x l i = -1
  | [], _, _ => rfl
  | p :: r, i, h => by
    unfold partFrom
    rw [if_neg (h p (List.mem_cons_self ..))]
    exact part_none x r (i + 1) (fun q hq => h q (List.mem_cons_of_mem _ hq))
theorem part_at (x : ByteArray) : ∀ (l : List S96) (i : Int) (j : Nat) (hj : j < l.length), (l[j]).f0.toList = x.toList → (∀ (m : Nat) (hm : m < j), (l[m]'(by omega)).f0.toList ≠ x.toList) → partFrom x l i = i + j
  | [], _, _, hj, _, _ => by simp at hj
  | p :: r, i, 0, _, h, _ => by
    unfold partFrom
    rw [if_pos (by exact h)]; simp
  | p :: r, i, j + 1, hj, h, h2 => by
    unfold partFrom
    rw [if_neg (by exact h2 0 (by omega)), part_at x r (i + 1) j (by simpa using hj) (by exact h) (fun m hm => by exact h2 (m + 1) (by omega))]
    omega
theorem cmpstr_eq (a x : ByteArray) (b c d : Int) : impl_Store_place_1.f a b c d x = some (Go.Lib.compareBytes a.data.toList x.data.toList) := by
  unfold impl_Store_place_1.f strings_Compare.f bytealg_CompareString.f
  simp only [Option.bind_some]
theorem half_eq {i j : Nat} (h : i + j ≤ 2000000) : wrap64 ((IntKind.u64.wrap (wrap64 ((i : Int) + (j : Int)))) / 2) = (((i + j) / 2 : Nat) : Int) := by
  rw [w64 (n := (i : Int) + (j : Int)) (by omega) (by omega)]
  have h2 : IntKind.u64.wrap ((i : Int) + (j : Int)) = (i : Int) + (j : Int) := by
    unfold IntKind.wrap
    simp only [IntKind.bits, IntKind.signed]
    simp
    omega
  rw [h2, w64 (by omega) (by omega)]
  omega
theorem bs_go (x : ByteArray) (l : List S96) (hl : l.length ≤ 1000000)
    (hs : ∀ (m i j : Nat), m = j - i → i < j → j < l.length → Op.bytesLess (rd_T96 l i).f0.toList (rd_T96 l j).f0.toList = true) (d : Nat) :
    ∀ (k i j : Nat), d < k → i ≤ j → j ≤ l.length → j - i ≤ d → (∀ m : Nat, m < i → Op.bytesLess (rd_T96 l m).f0.toList x.toList = true) → (∀ m : Nat, j ≤ m → m < l.length → Op.bytesLess (rd_T96 l m).f0.toList x.toList = false) →
    ∃ (t : Nat) (b : Bool), slices_BinarySearchFunc_at110.l0 k l x (l.length : Int) (i : Int) (j : Int) = some ((t : Int), b) ∧ (b = true → t < l.length ∧ (rd_T96 l t).f0.toList = x.toList) ∧ (b = false → ∀ m : Nat, m < l.length → (rd_T96 l m).f0.toList ≠ x.toList) := by
  have stop : ∀ (k i : Nat), 0 < k → i ≤ l.length → (∀ m : Nat, m < i → Op.bytesLess (rd_T96 l m).f0.toList x.toList = true) → (∀ m : Nat, i ≤ m → m < l.length → Op.bytesLess (rd_T96 l m).f0.toList x.toList = false) →
      ∃ (t : Nat) (b : Bool), slices_BinarySearchFunc_at110.l0 k l x (l.length : Int) (i : Int) (i : Int) = some ((t : Int), b) ∧ (b = true → t < l.length ∧ (rd_T96 l t).f0.toList = x.toList) ∧ (b = false → ∀ m : Nat, m < l.length → (rd_T96 l m).f0.toList ≠ x.toList) := by
    intro k i hk hi h1 h2
    obtain ⟨k, rfl⟩ : ∃ m, k = m + 1 := ⟨k - 1, by omega⟩
    rw [slices_BinarySearchFunc_at110.l0, if_neg (by omega)]
    have low : ∀ m : Nat, m < i → (rd_T96 l m).f0.toList ≠ x.toList := by
      intro m hm e
      have h3 := h1 m hm
      rw [e, bl_irr] at h3
      cases h3
    by_cases hil : i < l.length
    · rw [if_pos (by omega), if_pos (by omega), if_pos (by omega), cmpstr_eq, Option.bind_some]
      refine ⟨i, _, rfl, fun hb => ⟨hil, ?_⟩, fun hb m hm => ?_⟩
      · rw [beq_iff_eq, cmp_zero] at hb
        rw [Lib.toList_data, Lib.toList_data]; exact hb
      · by_cases h3 : m < i
        · exact low m h3
        · by_cases h4 : m = i
          · subst h4
            rw [beq_eq_false_iff_ne] at hb
            intro e
            apply hb
            rw [cmp_zero, ← Lib.toList_data, ← Lib.toList_data]
            exact e
          · intro e
            have h5 := hs (m - i) i m rfl (by omega) hm
            rw [e, h2 i (Nat.le_refl _) hil] at h5
            cases h5
    · rw [if_neg (by omega)]
      exact ⟨i, false, rfl, fun hb => absurd hb (by simp), fun _ m hm => low m (by omega)⟩
  induction d with
  | zero =>
    intro k i j hk h1 h2 h3 h4 h5
    obtain rfl : i = j := by omega
    exact stop k i (by omega) h2 h4 h5
  | succ d ih =>
    intro k i j hk h1 h2 h3 h4 h5
    by_cases hij : i = j
    · subst hij
      exact stop k i (by omega) h2 h4 h5
    · obtain ⟨k, rfl⟩ : ∃ m, k = m + 1 := ⟨k - 1, by omega⟩
      rw [slices_BinarySearchFunc_at110.l0, if_pos (by omega), half_eq (by omega), if_pos (by omega), if_pos (by omega), cmpstr_eq, Option.bind_some]
      generalize hm : (i + j) / 2 = q at *
      have hq1 : i ≤ q := by omega
      have hq2 : q < j := by omega
      by_cases hc : Go.Lib.compareBytes (rd_T96 l (q : Int)).f0.data.toList x.data.toList < 0
      · rw [if_pos hc, w64 (n := (q : Int) + 1) (by omega) (by omega), show ((q : Int) + 1) = ((q + 1 : Nat) : Int) by omega]
        rw [cmp_neg, ← Lib.toList_data, ← Lib.toList_data] at hc
        refine ih k (q + 1) j (by omega) (by omega) h2 (by omega) (fun m hm2 => ?_) h5
        by_cases hmq : m = q
        · subst hmq; exact hc
        · exact bl_trans _ _ _ (hs (q - m) m q rfl (by omega) (by omega)) hc
      · rw [if_neg hc]
        rw [cmp_neg, ← Lib.toList_data, ← Lib.toList_data, Bool.not_eq_true] at hc
        refine ih k i q (by omega) hq1 (by omega) (by omega) h4 (fun m hm2 hm3 => ?_)
        by_cases hmq : m = q
        · subst hmq; exact hc
        · rw [← Bool.not_eq_true]
          intro h6
          have h7 := bl_trans _ _ _ (hs (m - q) q m rfl (by omega) hm3) h6
          rw [hc] at h7
          cases h7

/-! ### good stores -/
def ltR (l : List S96) (i : Int) : Bool := if i > 0 then Op.bytesLess ((rd_T96 l (i - 1)).f0).toList ((rd_T96 l i).f0).toList else true
def dupR (T : List S96) (u : Int) : Bool := decide (u > 0) && T.any (fun p => p.f3 == u)
def okR (ck : Int) (l : List S96) (i : Int) : Bool := GN (rd_T96 l i).f0 && (decide (1 ≤ (rd_T96 l i).f1 ∧ (rd_T96 l i).f1 ≤ 100000) && (decide (0 ≤ (rd_T96 l i).f2 ∧ (rd_T96 l i).f2 ≤ 1000) && (decide (0 ≤ (rd_T96 l i).f3 ∧ (rd_T96 l i).f3 ≤ ck) && (ltR l i && !dupR (l.take i.toNat) (rd_T96 l i).f3))))
def allR (ck : Int) (l : List S96) : Nat → Int → Bool
  | 0, _ => true
  | d + 1, i => okR ck l i && allR ck l d (i + 1)
def wsum (l : List S96) : Nat → Int → Int → Int
  | 0, x, _ => x
  | d + 1, x, i => wsum l d (wrap64 (x + (rd_T96 l i).f1)) (i + 1)
def finR (b ck : Int) (l : List S96) : Bool := decide (1 ≤ b ∧ b ≤ 100000) && (decide (0 ≤ ck ∧ ck ≤ 100000) && decide ((l.length : Int) ≤ 30))
def GS (b ck : Int) (l : List S96) : Bool := finR b ck l && (allR ck l l.length 0 && decide (wsum l l.length 0 0 ≤ b))
theorem iidx_go (T : List S96) (n : ByteArray) (s h u : Int) (hT : T.length ≤ 1048576) (d : Nat) : ∀ (k i : Nat), d < k → i + d = T.length → ∃ r, slices_IndexFunc_at107.l0 k T (T.length : Int) (i : Int) n s h u = some (r, n, s, h, u) ∧ decide (r ≥ 0) = (T.drop i).any (fun p => p.f3 == u) := by
  induction d with
  | zero =>
    intro k i hk hi
    obtain ⟨k, rfl⟩ : ∃ m, k = m + 1 := ⟨k - 1, by omega⟩
    refine ⟨-1, by rw [slices_IndexFunc_at107.l0, if_neg (by omega)], ?_⟩
    rw [List.drop_eq_nil_of_le (by omega)]; rfl
  | succ d ih =>
    intro k i hk hi
    obtain ⟨k, rfl⟩ : ∃ m, k = m + 1 := ⟨k - 1, by omega⟩
    rw [slices_IndexFunc_at107.l0, if_pos (by omega), if_pos (by omega), if_pos (by omega)]
    unfold impl_GoodStore_1_c.f
    rw [Option.bind_some, List.drop_eq_getElem_cons (show i < T.length by omega), rd96_at (by omega)]
    dsimp only
    by_cases he : ((T[i]).f3 == u) = true
    · rw [if_pos he]
      refine ⟨i, rfl, ?_⟩
      rw [List.any_cons, he, Bool.true_or]
      exact decide_eq_true (by omega)
    · rw [if_neg he, w64 (n := (i : Int) + 1) (by omega) (by omega), show ((i : Int) + 1) = ((i + 1 : Nat) : Int) by omega]
      obtain ⟨r, h1, h2⟩ := ih k (i + 1) (by omega) (by omega)
      refine ⟨r, h1, ?_⟩
      rw [h2, List.any_cons, Bool.eq_false_iff.2 he, Bool.false_or]
theorem icont_eq (T : List S96) (n : ByteArray) (s h u : Int) (hT : T.length ≤ 1048576) (k : Nat) (hk : 1048600 ≤ k) : slices_ContainsFunc_at107.f k T n s h u = some (T.any (fun p => p.f3 == u), n, s, h, u) := by
  unfold slices_ContainsFunc_at107.f slices_IndexFunc_at107.f
  obtain ⟨r, h1, h2⟩ := iidx_go T n s h u hT T.length k 0 (by omega) (by omega)
  rw [show ((0 : Nat) : Int) = 0 from rfl] at h1
  rw [h1, Option.bind_some]
  dsimp only
  rw [h2, List.drop_zero]
theorem ij1 (b ck : Int) (l : List S96) (hs : BP l) (n : ByteArray) (s h u x L : Int) (i : Nat) (hi : i ≤ l.length) (v R : Bool) (k : Nat) (hk : 1048600 ≤ k)
    (hrest : impl_GoodStore.l0 k (wrap64 (x + s)) l L (wrap64 ((i : Int) + 1)) b ck l = some R) : impl_GoodStore.j1 (k + 1) x (i : Int) l L (i : Int) v b ck l n s h u = some (!v && (!dupR (l.take i) u && R)) := by
  have hl := hs.1
  rw [impl_GoodStore.j1]
  cases v with
  | true => rw [if_pos rfl]; rfl
  | false =>
    rw [if_neg (by simp)]
    unfold dupR
    by_cases hu : u > 0
    · rw [if_pos hu, if_pos (by omega), if_pos (by omega), show ((i : Int)).toNat = i by omega, icont_eq (l.take i) n s h u (by rw [List.length_take]; omega) k hk, Option.bind_some]
      dsimp only
      cases hc : (l.take i).any (fun p => p.f3 == u) with
      | true => rw [if_pos rfl]; simp [hu]
      | false => rw [if_neg (by simp), hrest]; simp
    · rw [if_neg hu, hrest]; simp [hu]
theorem istore_go (b ck : Int) (l : List S96) (hs : BP l) (d : Nat) : ∀ (k i : Nat) (x : Int), 2 * d + 1100000 < k → i + d = l.length → impl_GoodStore.l0 k x l (l.length : Int) (i : Int) b ck l = some (allR ck l d i && (finR b ck l && decide (wsum l d x i ≤ b))) := by
  have hl := hs.1
  induction d with
  | zero =>
    intro k i x hk hi
    obtain ⟨k, rfl⟩ : ∃ m, k = m + 1 := ⟨k - 1, by omega⟩
    rw [impl_GoodStore.l0, if_neg (by omega), inRange_eq, Option.bind_some]
    unfold impl_isTime.f finR allR wsum
    rw [inRange_eq, Option.bind_some]
    by_cases h1 : 1 ≤ b ∧ b ≤ 100000
    · rw [if_pos (decide_eq_true h1), Option.bind_some]
      by_cases h2 : 0 ≤ ck ∧ ck ≤ 100000
      · rw [if_pos (decide_eq_true h2)]
        by_cases h3 : (l.length : Int) ≤ 30
        · rw [if_pos h3]; simp [h1, h2, h3]
        · rw [if_neg h3]; simp [h3]
      · rw [if_neg (by simpa using h2)]; simp [h2]
    · rw [if_neg (by simpa using h1)]; simp [h1]
  | succ d ih =>
    intro k i x hk hi
    obtain ⟨k, rfl⟩ : ∃ m, k = m + 2 := ⟨k - 2, by omega⟩
    have hm := hs.2 _ (rd96_mem (l := l) (i := (i : Int)) (by omega) (by omega))
    have hw : wrap64 ((i : Int) + 1) = ((i + 1 : Nat) : Int) := by rw [w64 (by omega) (by omega)]; omega
    have hj := fun v => ij1 b ck l hs (rd_T96 l i).f0 (rd_T96 l i).f1 (rd_T96 l i).f2 (rd_T96 l i).f3 x (l.length : Int) i (by omega) v _ k (by omega) (by rw [hw]; exact ih k (i + 1) _ (by omega) (by omega))
    rw [impl_GoodStore.l0, if_pos (by omega), if_pos (by omega), if_pos (by omega), iname_eq _ hm (k + 1) (by omega), Option.bind_some]
    simp only [inRange_eq, Option.bind_some, hj]
    have hn : some (allR ck l (d + 1) (i : Int) && (finR b ck l && decide (wsum l (d + 1) x (i : Int) ≤ b))) = some (okR ck l (i : Int) && (allR ck l d ((i + 1 : Nat) : Int) && (finR b ck l && decide (wsum l d (wrap64 (x + (rd_T96 l (i : Int)).f1)) ((i + 1 : Nat) : Int) ≤ b)))) := by
      show some ((okR ck l (i : Int) && allR ck l d ((i : Int) + 1)) && (finR b ck l && decide (wsum l d (wrap64 (x + (rd_T96 l (i : Int)).f1)) ((i : Int) + 1) ≤ b))) = _
      rw [Bool.and_assoc, show ((i : Int) + 1) = ((i + 1 : Nat) : Int) by omega]
    rw [hn]
    generalize (allR ck l d ((i + 1 : Nat) : Int) && (finR b ck l && decide (wsum l d (wrap64 (x + (rd_T96 l (i : Int)).f1)) ((i + 1 : Nat) : Int) ≤ b))) = R
    unfold okR ltR
    rw [show ((i : Int)).toNat = i by omega]
    generalize GN (rd_T96 l (i : Int)).f0 = g
    generalize dupR (l.take i) (rd_T96 l (i : Int)).f3 = e
    generalize decide (1 ≤ (rd_T96 l (i : Int)).f1 ∧ (rd_T96 l (i : Int)).f1 ≤ 100000) = q1
    generalize decide (0 ≤ (rd_T96 l (i : Int)).f2 ∧ (rd_T96 l (i : Int)).f2 ≤ 1000) = q2
    generalize decide (0 ≤ (rd_T96 l (i : Int)).f3 ∧ (rd_T96 l (i : Int)).f3 ≤ ck) = q3
    by_cases hp : (i : Int) > 0
    · rw [w64 (n := (i : Int) - 1) (by omega) (by omega)]
      have a1 : 0 ≤ (i : Int) - 1 := by omega
      have a2 : (i : Int) - 1 < (l.length : Int) := by omega
      simp only [if_pos hp, if_pos a1, if_pos a2]
      generalize Op.bytesLess (rd_T96 l ((i : Int) - 1)).f0.toList (rd_T96 l (i : Int)).f0.toList = q4
      cases g <;> cases q1 <;> cases q2 <;> cases q3 <;> cases q4 <;> simp
    · simp only [if_neg hp]
      cases g <;> cases q1 <;> cases q2 <;> cases q3 <;> simp
theorem istore_eq (b ck : Int) (l : List S96) (hs : BP l) (k : Nat) (hk : 3500000 ≤ k) : impl_GoodStore.f k b ck l = some (GS b ck l) := by
  have hl := hs.1
  unfold impl_GoodStore.f GS
  have h := istore_go b ck l hs l.length k 0 0 (by omega) (by omega)
  rw [show ((0 : Nat) : Int) = 0 from rfl] at h
  rw [h]
  cases finR b ck l <;> cases allR ck l l.length 0 <;> simp
theorem ssum_go (l : List S96) (hl : l.length ≤ 1048576) (d : Nat) : ∀ (k i : Nat) (x : Int), d < k → i + d = l.length → spec_l21Sizes.l0 k x l (l.length : Int) (i : Int) = some (wsum l d x i) := by
  induction d with
  | zero =>
    intro k i x hk hi
    obtain ⟨k, rfl⟩ : ∃ m, k = m + 1 := ⟨k - 1, by omega⟩
    rw [spec_l21Sizes.l0, if_neg (by omega)]; rfl
  | succ d ih =>
    intro k i x hk hi
    obtain ⟨k, rfl⟩ : ∃ m, k = m + 1 := ⟨k - 1, by omega⟩
    rw [spec_l21Sizes.l0, if_pos (by omega), if_pos (by omega), if_pos (by omega), w64 (n := (i : Int) + 1) (by omega) (by omega), show ((i : Int) + 1) = ((i + 1 : Nat) : Int) by omega, ih k (i + 1) _ (by omega) (by omega)]
    rfl
theorem sl1_go (b ck : Int) (l T : List S96) (n : ByteArray) (s h u L : Int) (i : Int) (hT : T.length ≤ 1048576) (R : Bool) (k0 : Nat) (hrest : ∀ k, k0 ≤ k → spec_GoodStore.l0 k l L (wrap64 (i + 1)) b ck l = some R) (d : Nat) : ∀ (k j : Nat), k0 + d < k → j + d = T.length → spec_GoodStore.l1 k l L i T (T.length : Int) (j : Int) b ck l n s h u = some (!dupR (T.drop j) u && R) := by
  induction d with
  | zero =>
    intro k j hk hj
    obtain ⟨k, rfl⟩ : ∃ m, k = m + 1 := ⟨k - 1, by omega⟩
    rw [spec_GoodStore.l1, if_neg (by omega), List.drop_eq_nil_of_le (by omega), hrest k (by omega)]
    simp [dupR]
  | succ d ih =>
    intro k j hk hj
    obtain ⟨k, rfl⟩ : ∃ m, k = m + 1 := ⟨k - 1, by omega⟩
    rw [spec_GoodStore.l1, if_pos (by omega), if_pos (by omega), if_pos (by omega), w64 (n := (j : Int) + 1) (by omega) (by omega), show ((j : Int) + 1) = ((j + 1 : Nat) : Int) by omega, ih k (j + 1) (by omega) (by omega), List.drop_eq_getElem_cons (show j < T.length by omega), rd96_at (by omega)]
    unfold dupR
    rw [List.any_cons]
    by_cases hu : u > 0
    · rw [if_pos hu]
      by_cases he : (T[j]).f3 = u
      · rw [if_pos he]; simp [hu, he]
      · rw [if_neg he]
        have h2 : ((T[j]).f3 == u) = false := beq_eq_false_iff_ne.2 he
        rw [h2, Bool.false_or]
    · rw [if_neg hu]
      simp [hu]
theorem sj2 (b ck : Int) (l : List S96) (n : ByteArray) (s h u L : Int) (i : Nat) (hl : l.length ≤ 1048576) (hi : i ≤ l.length) (v R : Bool) (k0 : Nat) (hrest : ∀ k, k0 ≤ k → spec_GoodStore.l0 k l L (wrap64 ((i : Int) + 1)) b ck l = some R) (k : Nat) (hk : k0 + i + 1 < k) :
    spec_GoodStore.j2 k (i : Int) l L (i : Int) v b ck l n s h u = some (!v && (!dupR (l.take i) u && R)) := by
  obtain ⟨k, rfl⟩ : ∃ m, k = m + 1 := ⟨k - 1, by omega⟩
  rw [spec_GoodStore.j2]
  cases v with
  | true => rw [if_pos rfl]; rfl
  | false =>
    have hT : (l.take i).length = i := by rw [List.length_take]; omega
    rw [if_neg (by simp), if_pos (by omega), if_pos (by omega), show ((i : Int)).toNat = i by omega, Option.bind_some]
    have h1 := sl1_go b ck l (l.take i) n s h u L (i : Int) (by omega) R k0 hrest (l.take i).length k 0 (by omega) (by omega)
    rw [show ((0 : Nat) : Int) = 0 from rfl, List.drop_zero] at h1
    rw [h1]; rfl
theorem sstore_go (b ck : Int) (l : List S96) (hs : BP l) (h30 : l.length ≤ 30) (d : Nat) : ∀ (k i : Nat), 40 * d + 1100000 < k → i + d = l.length → spec_GoodStore.l0 k l (l.length : Int) (i : Int) b ck l = some (allR ck l d i && decide (wsum l l.length 0 0 ≤ b)) := by
  have hl := hs.1
  induction d with
  | zero =>
    intro k i hk hi
    obtain ⟨k, rfl⟩ : ∃ m, k = m + 1 := ⟨k - 1, by omega⟩
    rw [spec_GoodStore.l0, if_neg (by omega)]
    unfold spec_l21Sizes.f allR
    have h := ssum_go l hl l.length k 0 0 (by omega) (by omega)
    rw [show ((0 : Nat) : Int) = 0 from rfl] at h
    rw [h, Option.bind_some, Bool.true_and]
  | succ d ih =>
    intro k i hk hi
    obtain ⟨k, rfl⟩ : ∃ m, k = m + 1 := ⟨k - 1, by omega⟩
    have hm := hs.2 _ (rd96_mem (l := l) (i := (i : Int)) (by omega) (by omega))
    have hw : wrap64 ((i : Int) + 1) = ((i + 1 : Nat) : Int) := by rw [w64 (by omega) (by omega)]; omega
    have hj := fun v => sj2 b ck l (rd_T96 l i).f0 (rd_T96 l i).f1 (rd_T96 l i).f2 (rd_T96 l i).f3 (l.length : Int) i hl (by omega) v _ (40 * d + 1100001) (fun k hk => by rw [hw]; exact ih k (i + 1) (by omega) (by omega)) k (by omega)
    rw [spec_GoodStore.l0, if_pos (by omega), if_pos (by omega), if_pos (by omega), sname_eq _ hm k (by omega), Option.bind_some]
    simp only [l1In_eq, Option.bind_some, hj]
    have hn : some (allR ck l (d + 1) (i : Int) && decide (wsum l l.length 0 0 ≤ b)) = some (okR ck l (i : Int) && (allR ck l d ((i + 1 : Nat) : Int) && decide (wsum l l.length 0 0 ≤ b))) := by
      rw [← Bool.and_assoc]; rfl
    rw [hn]
    generalize (allR ck l d ((i + 1 : Nat) : Int) && decide (wsum l l.length 0 0 ≤ b)) = R
    unfold okR ltR
    rw [show ((i : Int)).toNat = i by omega]
    generalize GN (rd_T96 l (i : Int)).f0 = g
    generalize dupR (l.take i) (rd_T96 l (i : Int)).f3 = e
    generalize decide (1 ≤ (rd_T96 l (i : Int)).f1 ∧ (rd_T96 l (i : Int)).f1 ≤ 100000) = q1
    generalize decide (0 ≤ (rd_T96 l (i : Int)).f2 ∧ (rd_T96 l (i : Int)).f2 ≤ 1000) = q2
    generalize decide (0 ≤ (rd_T96 l (i : Int)).f3 ∧ (rd_T96 l (i : Int)).f3 ≤ ck) = q3
    by_cases hp : (i : Int) > 0
    · rw [w64 (n := (i : Int) - 1) (by omega) (by omega)]
      have a1 : 0 ≤ (i : Int) - 1 := by omega
      have a2 : (i : Int) - 1 < (l.length : Int) := by omega
      simp only [if_pos hp, if_pos a1, if_pos a2]
      generalize Op.bytesLess (rd_T96 l ((i : Int) - 1)).f0.toList (rd_T96 l (i : Int)).f0.toList = q4
      cases g <;> cases q1 <;> cases q2 <;> cases q3 <;> cases q4 <;> simp
    · simp only [if_neg hp]
      cases g <;> cases q1 <;> cases q2 <;> cases q3 <;> simp
theorem sstore_eq (b ck : Int) (l : List S96) (hs : BP l) (k : Nat) (hk : 3500000 ≤ k) : spec_GoodStore.f k b ck l = some (GS b ck l) := by
  have hl := hs.1
  have jt : spec_GoodStore.j0 k true b ck l = some false := by
    obtain ⟨k, rfl⟩ : ∃ m, k = m + 1 := ⟨k - 1, by omega⟩
    rw [spec_GoodStore.j0, if_pos rfl]
  unfold spec_GoodStore.f GS finR
  rw [l1In_eq, Option.bind_some]
  by_cases h1 : 1 ≤ b ∧ b ≤ 100000
  · rw [if_pos (decide_eq_true h1), l1In_eq, Option.bind_some]
    by_cases h2 : 0 ≤ ck ∧ ck ≤ 100000
    · rw [if_pos (decide_eq_true h2)]
      by_cases h3 : (l.length : Int) > 30
      · rw [decide_eq_true h3, jt]
        have h4 : ¬ (l.length : Int) ≤ 30 := by omega
        simp [h4]
      · rw [decide_eq_false h3]
        obtain ⟨k, rfl⟩ : ∃ m, k = m + 1 := ⟨k - 1, by omega⟩
        have h := sstore_go b ck l hs (by omega) l.length k 0 (by omega) (by omega)
        rw [show ((0 : Nat) : Int) = 0 from rfl] at h
        rw [spec_GoodStore.j0, if_neg (by simp), h]
        have h4 : (l.length : Int) ≤ 30 := by omega
        simp [h1, h2, h4]
    · rw [if_neg (by simpa using h2), jt]; simp [h2]
  · rw [if_neg (by simpa using h1), jt]; simp [h1]
theorem allR_ok (ck : Int) (l : List S96) (d : Nat) : ∀ (i : Nat), allR ck l d i = true → ∀ j : Nat, i ≤ j → j < i + d → okR ck l j = true := by
  induction d with
  | zero => intro i _ j h1 h2; omega
  | succ d ih =>
    intro i h j h1 h2
    unfold allR at h
    rw [Bool.and_eq_true] at h
    by_cases hij : j = i
    · subst hij; exact h.1
    · exact ih (i + 1) (by rw [show ((i + 1 : Nat) : Int) = (i : Int) + 1 by omega]; exact h.2) j (by omega) (by omega)
theorem gs_ok {b ck : Int} {l : List S96} (h : GS b ck l = true) (j : Nat) (hj : j < l.length) : okR ck l j = true := by
  unfold GS at h
  simp only [Bool.and_eq_true] at h
  exact allR_ok ck l l.length 0 h.2.1 j (by omega) (by omega)
theorem gs_len {b ck : Int} {l : List S96} (h : GS b ck l = true) : l.length ≤ 30 := by
  unfold GS finR at h
  simp only [Bool.and_eq_true, decide_eq_true_eq] at h
  omega
theorem gs_lt {b ck : Int} {l : List S96} (h : GS b ck l = true) : ∀ (m i j : Nat), m = j - i → i < j → j < l.length → Op.bytesLess (rd_T96 l i).f0.toList (rd_T96 l j).f0.toList = true := by
  have h0 : ∀ j : Nat, j < l.length → 0 < j → Op.bytesLess (rd_T96 l ((j : Int) - 1)).f0.toList (rd_T96 l j).f0.toList = true := by
    intro j hj hp
    have h1 := gs_ok h j hj
    unfold okR at h1
    simp only [Bool.and_eq_true] at h1
    have h2 := h1.2.2.2.2.1
    unfold ltR at h2
    rw [if_pos (by omega)] at h2
    exact h2
  intro m
  induction m with
  | zero => intro i j h1 h2; omega
  | succ m ih =>
    intro i j h1 h2 h3
    have h4 := h0 j h3 (by omega)
    by_cases hij : j = i + 1
    · subst hij
      rw [show (((i + 1 : Nat) : Int) - 1) = (i : Int) by omega] at h4
      exact h4
    · have h5 := ih i (j - 1) (by omega) (by omega) (by omega)
      rw [show ((j - 1 : Nat) : Int) = (j : Int) - 1 by omega] at h5
      exact bl_trans _ _ _ h5 h4
/-! ### Release -/
theorem srel_none (x : ByteArray) (b ck : Int) (l : List S96) (hl : l.length ≤ 1048576) (d : Nat) : ∀ (k i : Nat), d < k → i + d = l.length → (∀ m : Nat, i ≤ m → m < l.length → (rd_T96 l m).f0.toList ≠ x.toList ∨ ¬ (rd_T96 l m).f2 > 0) → spec_Release.l0 k x (l.length : Int) (i : Int) b ck l = some (b, ck, l, 5) := by
  induction d with
  | zero =>
    intro k i hk hi _
    obtain ⟨k, rfl⟩ : ∃ m, k = m + 1 := ⟨k - 1, by omega⟩
    rw [spec_Release.l0, if_neg (by omega)]
  | succ d ih =>
    intro k i hk hi h
    obtain ⟨k, rfl⟩ : ∃ m, k = m + 1 := ⟨k - 1, by omega⟩
    have h2 := ih k (i + 1) (by omega) (by omega) (fun m h1 h2 => h m (by omega) h2)
    rw [spec_Release.l0, if_pos (by omega), if_pos (by omega), if_pos (by omega), w64 (n := (i : Int) + 1) (by omega) (by omega), show ((i : Int) + 1) = ((i + 1 : Nat) : Int) by omega, h2]
    rcases h i (Nat.le_refl _) (by omega) with h3 | h3
    · rw [if_neg h3]
    · rw [if_neg h3]; split <;> rfl
theorem srel_at (x : ByteArray) (b ck : Int) (l : List S96) (hl : l.length ≤ 1048576) (j : Nat) (hj : j < l.length) (he : (rd_T96 l j).f0.toList = x.toList) (hh : (rd_T96 l j).f2 > 0) (d : Nat) : ∀ (k i : Nat), d < k → i + d = j → (∀ m : Nat, i ≤ m → m < j → (rd_T96 l m).f0.toList ≠ x.toList) →
    spec_Release.l0 k x (l.length : Int) (i : Int) b ck l = some (b, ck, l.set j (⟨(rd_T96 l j).f0, (rd_T96 l j).f1, wrap64 ((rd_T96 l j).f2 - 1), (rd_T96 l j).f3⟩ : S96), 0) := by
  induction d with
  | zero =>
    intro k i hk hi _
    obtain rfl : i = j := by omega
    obtain ⟨k, rfl⟩ : ∃ m, k = m + 1 := ⟨k - 1, by omega⟩
    rw [spec_Release.l0, if_pos (by omega), if_pos (by omega), if_pos (by omega), if_pos he, if_pos hh, show ((i : Int)).toNat = i by omega]
  | succ d ih =>
    intro k i hk hi h
    obtain ⟨k, rfl⟩ : ∃ m, k = m + 1 := ⟨k - 1, by omega⟩
    have h2 := ih k (i + 1) (by omega) (by omega) (fun m h1 h2 => h m (by omega) h2)
    rw [spec_Release.l0, if_pos (by omega), if_pos (by omega), if_pos (by omega), w64 (n := (i : Int) + 1) (by omega) (by omega), show ((i : Int) + 1) = ((i + 1 : Nat) : Int) by omega, h2, if_neg (h i (Nat.le_refl _) (by omega))]
theorem bp_set {l : List S96} (hs : BP l) (i : Nat) (v : S96) (hv : v.f0.size ≤ 1048576) : BP (l.set i v) := by
  refine ⟨by rw [List.length_set]; exact hs.1, fun e he => ?_⟩
  rcases List.mem_or_eq_of_mem_set he with h | rfl
  · exact hs.2 e h
  · exact hv
theorem bp_nil : BP [] := ⟨by show (0 : Nat) ≤ _; omega, fun _ h => by cases h⟩
theorem rel_all (b ck : Int) (l : List S96) (x : ByteArray) (hs : BP l) (k : Nat) (hk : 4000000 ≤ k) : ∃ a c r e, spec_Release.f k b ck l x = some (a, c, r, e) ∧ impl_Release.f k b ck l x = some (a, c, r, e) ∧ BP r := by
  have hl := hs.1
  unfold spec_Release.f impl_Release.f
  rw [sstore_eq b ck l hs k (by omega), istore_eq b ck l hs k (by omega), Option.bind_some, Option.bind_some]
  by_cases hg : GS b ck l = true
  · rw [if_pos hg, if_pos hg, sown_eq b ck l hs, iclone_eq b ck l hs, Option.bind_some, Option.bind_some]
    dsimp only
    have h30 := gs_len hg
    obtain ⟨t, f, h1, h2, h3⟩ := bs_go x l (by omega) (gs_lt hg) l.length k 0 l.length (by omega) (by omega) (Nat.le_refl _) (by omega) (fun m hm => by omega) (fun m hm hm2 => by omega)
    rw [show ((0 : Nat) : Int) = 0 from rfl] at h1
    unfold impl_Store_place.f slices_BinarySearchFunc_at110.f
    rw [h1, Option.bind_some, Option.bind_some]
    dsimp only
    cases f with
    | true =>
      obtain ⟨h4, h5⟩ := h2 rfl
      have hok := gs_ok hg t h4
      have hot : ∀ m : Nat, m < l.length → m ≠ t → (rd_T96 l m).f0.toList ≠ x.toList := by
        intro m hm hne e
        rcases Nat.lt_or_gt_of_ne hne with h6 | h6
        · have h7 := gs_lt hg (t - m) m t rfl h6 h4
          rw [e, h5, bl_irr] at h7
          cases h7
        · have h7 := gs_lt hg (m - t) t m rfl h6 hm
          rw [e, h5, bl_irr] at h7
          cases h7
      unfold okR at hok
      simp only [Bool.and_eq_true, decide_eq_true_eq] at hok
      have hf2 := hok.2.2.1
      rw [if_pos rfl, if_pos (by omega), if_pos (by omega)]
      by_cases hz : (rd_T96 l (t : Int)).f2 = 0
      · rw [if_pos hz]
        have h8 := srel_none x b ck l hl l.length k 0 (by omega) (by omega) (fun m _ hm => by
          by_cases hmt : m = t
          · subst hmt; right; omega
          · left; exact hot m hm hmt)
        rw [show ((0 : Nat) : Int) = 0 from rfl] at h8
        exact ⟨_, _, _, _, h8, rfl, hs⟩
      · rw [if_neg hz, if_pos (by omega), show ((t : Int)).toNat = t by omega]
        have h8 := srel_at x b ck l hl t h4 h5 (by omega) t k 0 (by omega) (by omega) (fun m _ hm => hot m (by omega) (by omega))
        rw [show ((0 : Nat) : Int) = 0 from rfl] at h8
        exact ⟨_, _, _, _, h8, rfl, bp_set hs _ _ (hs.2 (rd_T96 l (t : Int)) (rd96_mem (l := l) (i := (t : Int)) (by omega) (by omega)))⟩
    | false =>
      rw [if_neg (by simp)]
      have h8 := srel_none x b ck l hl l.length k 0 (by omega) (by omega) (fun m _ hm => .inl (h3 rfl m hm))
      rw [show ((0 : Nat) : Int) = 0 from rfl] at h8
      exact ⟨_, _, _, _, h8, rfl, hs⟩
  · rw [if_neg hg, if_neg hg]
    exact ⟨_, _, _, _, rfl, rfl, bp_nil⟩
theorem law_all (a b : Int) (l : List S138) (x : ByteArray) (hs : LenP l) : laws_FnExactRelease.f 5000000 a b l x = some true := by
  unfold laws_FnExactRelease.f
  by_cases hx : (x.size : Int) > 1048576
  · rw [if_pos hx]
  rw [if_neg hx]
  obtain ⟨t, ht, h2⟩ := szst_eq a b l hs 5000000 (by omega)
  rw [ht, Option.bind_some]
  by_cases hneg : t < 0
  · rw [if_pos hneg]
  · have hb := h2 hneg
    have hm := bp_map l hb
    rw [if_neg hneg, tost_eq a b l hb 5000000 (by omega), Option.bind_some]
    dsimp only
    generalize l.map cP = m at *
    obtain ⟨r1, r2, r3, r4, hsp, him, hr⟩ := rel_all a b m x hm 5000000 (by omega)
    rw [hsp, Option.bind_some, Option.bind_some]
    dsimp only
    rw [him, Option.bind_some]
    dsimp only
    rw [eqst_self r1 r2 r3 hr 5000000 (by omega), Option.bind_some, if_pos rfl, if_pos rfl, Option.bind_some]
    dsimp only
    rw [eqst_self a b m hm 5000000 (by omega), Option.bind_some, if_pos rfl]
    obtain ⟨c, ys, hc, hc0, _⟩ := stmark_tot a b m hm 5000000 (by omega)
    obtain ⟨e, zs, he, he0, hh⟩ := stmark_tot r1 r2 r3 hr 5000000 (by omega)
    rw [hc, Option.bind_some]
    dsimp only
    rw [if_neg (by omega), Option.bind_some, if_pos rfl, he, Option.bind_some]
    dsimp only
    rw [hh, Option.bind_some, if_neg (by omega), if_pos rfl, Option.bind_some]
    dsimp only
    rw [him, Option.bind_some]
    dsimp only
    rw [eqst_self r1 r2 r3 hr 5000000 (by omega), Option.bind_some, if_pos rfl, if_pos rfl, Option.bind_some, if_neg (by omega), if_pos rfl]
theorem law_pure : laws_FnExactRelease.Pure := fun a b l x _ _ hl _ => ⟨5000000, law_all a b l x ⟨hl.1, fun p hp => (hl.2 p hp).1⟩⟩

theorem FnExactRelease : laws_FnExactRelease.Pure := law_pure
end Go.Proofs.Ytjbkagmfkcoclaa.Pure
