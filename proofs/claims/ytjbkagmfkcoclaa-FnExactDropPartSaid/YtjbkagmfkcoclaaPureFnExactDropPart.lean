/-
  Taking a part off an entity: the spec looks the name up one by one, the program by halves in the sorted names; both take the same part away, and neither changes the world it was given.
-/
import Derived.Test.YtjbkagmfkcoclaaXFnExactDropPartx11
namespace Go.Proofs.Ytjbkagmfkcoclaa.Pure
open Go.RowKit Go.Proofs.Ytjbkagmfkcoclaa.XFnExactDropPart Go.Proofs.YtjbkagmfkcoclaaW.PrintWords Go.Proofs.YtjbkagmfkcoclaaW.PrintLast
set_option linter.unusedVariables false
set_option linter.unusedSimpArgs false
theorem w64 {n : Int} (h0 : -9223372036854775808 ≤ n) (h1 : n ≤ 9223372036854775807) : wrap64 n = n := by unfold wrap64; omega
theorem inRange_eq (a b c : Int) : impl_inRange.f a b c = some (decide (b ≤ a ∧ a ≤ c)) := by
  unfold impl_inRange.f
  by_cases h : b ≤ a
  · rw [if_pos h]; congr 1; rw [decide_eq_decide]; exact ⟨fun h2 => ⟨h, h2⟩, fun h2 => h2.2⟩
  · rw [if_neg h]; congr 1; symm; rw [decide_eq_false_iff_not]; exact fun h2 => h h2.1
theorem l1In_eq (a b c : Int) : spec_l1In.f a b c = some (decide (b ≤ a ∧ a ≤ c)) := by
  unfold spec_l1In.f
  by_cases h : b ≤ a
  · rw [if_pos h]; congr 1; rw [decide_eq_decide]; exact ⟨fun h2 => ⟨h, h2⟩, fun h2 => h2.2⟩
  · rw [if_neg (by omega)]; congr 1; symm; rw [decide_eq_false_iff_not]; exact fun h2 => h h2.1
/-! ### names -/
def isD (c : Int) : Bool := decide (48 ≤ c ∧ c ≤ 57)
def isL (c : Int) : Bool := decide ((97 ≤ c ∧ c ≤ 122) ∨ (65 ≤ c ∧ c ≤ 90))
theorem sdigit_eq (c : Int) : spec_l1Digit.f c = some (isD c) := by
  unfold spec_l1Digit.f isD
  by_cases h : 48 ≤ c
  · rw [if_pos h]; congr 1; rw [decide_eq_decide]; omega
  · rw [if_neg (by omega)]; congr 1; symm; rw [decide_eq_false_iff_not]; omega
theorem idigit_eq (c : Int) : impl_isDigit.f c = some (isD c) := by
  unfold impl_isDigit.f isD
  by_cases h : 48 ≤ c
  · rw [if_pos h]; congr 1; rw [decide_eq_decide]; omega
  · rw [if_neg (by omega)]; congr 1; symm; rw [decide_eq_false_iff_not]; omega
theorem sletter_eq (c : Int) : spec_l1Letter.f c = some (isL c || (c == 95)) := by
  unfold spec_l1Letter.f isL
  by_cases h95 : c = 95
  · subst h95; decide
  · have : (c == 95) = false := by simp [h95]
    rw [this, Bool.or_false]
    (repeat' split) <;> (congr 1; symm; first | (rw [decide_eq_true_eq]; omega) | (rw [decide_eq_false_iff_not]; omega))
theorem iletter_eq (c : Int) : impl_isLetter.f c = some (isL c) := by
  unfold impl_isLetter.f isL
  (repeat' split) <;> (congr 1; symm; first | (rw [decide_eq_true_eq]; omega) | (rw [decide_eq_false_iff_not]; omega) | (rw [decide_eq_decide]; omega))
def okc (c : Int) : Bool := (isL c || (c == 95)) || isD c
def okFrom (x : ByteArray) : Nat → Int → Bool
  | 0, _ => true
  | d + 1, i => okc (bt x i) && okFrom x d (i + 1)
theorem sname_go (x : ByteArray) (hx : x.size ≤ 1048576) (d : Nat) : ∀ (k : Nat) (i : Int), d < k → 0 ≤ i → i + d = x.size → spec_GoodName.l0 k x i = some (okFrom x d i) := by
  induction d with
  | zero =>
    intro k i hk h0 hi
    obtain ⟨k, rfl⟩ : ∃ m, k = m + 1 := ⟨k - 1, by omega⟩
    rw [spec_GoodName.l0, if_neg (by omega)]; rfl
  | succ d ih =>
    intro k i hk h0 hi
    obtain ⟨k, rfl⟩ : ∃ m, k = m + 1 := ⟨k - 1, by omega⟩
    rw [spec_GoodName.l0, if_pos (by omega), if_pos h0, sletter_eq, Option.bind_some, sdigit_eq, Option.bind_some, w64 (n := i + 1) (by omega) (by omega), ih k (i + 1) (by omega) (by omega) (by omega)]
    show _ = some (okc (bt x i) && okFrom x d (i + 1))
    unfold okc
    cases (isL (bt x i) || (bt x i == 95)) <;> cases isD (bt x i) <;> simp
theorem iname_go (x : ByteArray) (hx : x.size ≤ 1048576) (d : Nat) : ∀ (k : Nat) (i : Int), d < k → 1 ≤ i → i + d = x.size → impl_GoodName.l0 k x (x.size : Int) i = some (okFrom x d i && decide (1 ≤ (x.size : Int) ∧ (x.size : Int) ≤ 20)) := by
  induction d with
  | zero =>
    intro k i hk h0 hi
    obtain ⟨k, rfl⟩ : ∃ m, k = m + 1 := ⟨k - 1, by omega⟩
    rw [impl_GoodName.l0, if_neg (by omega), inRange_eq, Option.bind_some]; rfl
  | succ d ih =>
    intro k i hk h0 hi
    obtain ⟨k, rfl⟩ : ∃ m, k = m + 1 := ⟨k - 1, by omega⟩
    rw [impl_GoodName.l0, if_pos (by omega), if_pos (by omega), if_pos (by omega), iletter_eq, Option.bind_some, idigit_eq, Option.bind_some, w64 (n := i + 1) (by omega) (by omega), ih k (i + 1) (by omega) (by omega) (by omega), if_neg (show ¬ i = 0 by omega)]
    show _ = some ((okc (bt x i) && okFrom x d (i + 1)) && _)
    unfold okc
    by_cases h95 : bt x i = 95
    · rw [if_pos h95]; simp [h95]
    · rw [if_neg h95]
      have : (bt x i == 95) = false := by simp [h95]
      rw [this]
      cases isL (bt x i) <;> cases isD (bt x i) <;> simp
def GN (x : ByteArray) : Bool := decide (1 ≤ (x.size : Int) ∧ (x.size : Int) ≤ 20) && ((isL (bt x 0) || (bt x 0 == 95)) && okFrom x (x.size - 1) 1)
theorem sname_eq (x : ByteArray) (hx : x.size ≤ 1048576) (k : Nat) (hk : 1048600 ≤ k) : spec_GoodName.f k x = some (GN x) := by
  unfold spec_GoodName.f GN
  obtain ⟨k, rfl⟩ : ∃ m, k = m + 1 := ⟨k - 1, by omega⟩
  by_cases h0 : (x.size : Int) < 1
  · rw [if_pos h0, spec_GoodName.j0, if_pos rfl, decide_eq_false (by omega)]; rfl
  · rw [if_neg h0]
    by_cases h1 : (x.size : Int) > 20
    · rw [if_pos h1, spec_GoodName.j0, if_pos rfl, decide_eq_false (by omega)]; rfl
    · rw [if_neg h1, if_pos (by omega), sdigit_eq, Option.bind_some, spec_GoodName.j0, decide_eq_true (by omega), Bool.true_and]
      obtain ⟨d, hd⟩ : ∃ d, x.size = d + 1 := ⟨x.size - 1, by omega⟩
      rw [sname_go x hx (d + 1) k 0 (by omega) (by omega) (by omega)]
      rw [show x.size - 1 = d by omega]
      show (if isD (bt x 0) = true then _ else some (okc (bt x 0) && okFrom x d (0 + 1))) = _
      by_cases hD : isD (bt x 0) = true
      · have hD2 := hD
        unfold isD at hD2
        rw [decide_eq_true_eq] at hD2
        have hL : isL (bt x 0) = false := by unfold isL; rw [decide_eq_false_iff_not]; omega
        have h95 : (bt x 0 == 95) = false := by simp; omega
        rw [if_pos hD, hL, h95]; rfl
      · rw [if_neg hD]
        unfold okc
        have hD2 : isD (bt x 0) = false := by simpa using hD
        rw [hD2, Bool.or_false]; rfl
theorem iname_eq (x : ByteArray) (hx : x.size ≤ 1048576) (k : Nat) (hk : 1048600 ≤ k) : impl_GoodName.f k x = some (GN x) := by
  unfold impl_GoodName.f GN
  obtain ⟨k, rfl⟩ : ∃ m, k = m + 1 := ⟨k - 1, by omega⟩
  by_cases h0 : (x.size : Int) < 1
  · rw [impl_GoodName.l0, if_neg (by omega), inRange_eq, Option.bind_some, decide_eq_false (by omega)]; rfl
  · obtain ⟨d, hd⟩ : ∃ d, x.size = d + 1 := ⟨x.size - 1, by omega⟩
    rw [impl_GoodName.l0, if_pos (by omega), if_pos (by omega), if_pos (by omega), iletter_eq, Option.bind_some, if_pos (show (0 : Int) = 0 from rfl), w64 (n := 0 + 1) (by omega) (by omega), iname_go x hx d k (0 + 1) (by omega) (by omega) (by omega), show x.size - 1 = d by omega]
    by_cases h95 : bt x 0 = 95
    · rw [if_pos h95]; simp [h95, Bool.and_comm]
    · rw [if_neg h95]
      have : (bt x 0 == 95) = false := by simp [h95]
      rw [this]
      cases isL (bt x 0) <;> simp [Bool.and_comm]

/-! ### worlds: what came in, told -/
theorem rd159_mem {l : List S159} {i : Int} (h0 : 0 ≤ i) (h : i < l.length) : rd_T159 l i ∈ l := by
  unfold rd_T159
  rw [List.getD_eq_getElem?_getD, List.getElem?_eq_getElem (by omega)]
  exact List.getElem_mem _
theorem rd125_mem {l : List S125} {i : Int} (h0 : 0 ≤ i) (h : i < l.length) : rd_T125 l i ∈ l := by
  unfold rd_T125
  rw [List.getD_eq_getElem?_getD, List.getElem?_eq_getElem (by omega)]
  exact List.getElem_mem _
theorem rd91_mem {l : List S91} {i : Int} (h0 : 0 ≤ i) (h : i < l.length) : rd_T91 l i ∈ l := by
  unfold rd_T91
  rw [List.getD_eq_getElem?_getD, List.getElem?_eq_getElem (by omega)]
  exact List.getElem_mem _
theorem rd76_mem {l : List S76} {i : Int} (h0 : 0 ≤ i) (h : i < l.length) : rd_T76 l i ∈ l := by
  unfold rd_T76
  rw [List.getD_eq_getElem?_getD, List.getElem?_eq_getElem (by omega)]
  exact List.getElem_mem _
theorem rd76_at {l : List S76} {i : Nat} (h : i < l.length) : rd_T76 l (i : Int) = l[i] := by
  unfold rd_T76
  rw [List.getD_eq_getElem?_getD, show ((i : Int)).toNat = i by omega, List.getElem?_eq_getElem h]; rfl
theorem rd91_at {l : List S91} {i : Nat} (h : i < l.length) : rd_T91 l (i : Int) = l[i] := by
  unfold rd_T91
  rw [List.getD_eq_getElem?_getD, show ((i : Int)).toNat = i by omega, List.getElem?_eq_getElem h]; rfl
def cP (p : S159) : S91 := ⟨p.f0, p.f1, p.f2⟩
def cE (e : S125) : S76 := ⟨e.f0, e.f1.map cP⟩
def LenP (l : List S159) : Prop := l.length ≤ 9223372036854775807 ∧ ∀ p ∈ l, p.f0.size ≤ 9223372036854775807
theorem szp_go (l : List S159) (hs : LenP l) (hl : l.length ≤ 1048576) (d : Nat) : ∀ (k : Nat) (b i : Int), d < k → 0 ≤ i → i + d = l.length → 0 ≤ b → b ≤ 1048576 →
    ∃ t, laws_szPartS.l0 k l b i = some t ∧ t ≤ b ∧ (¬ t < 0 → ∀ j : Int, i ≤ j → j < l.length → ((rd_T159 l j).f0.size : Int) ≤ 1048576) := by
  induction d with
  | zero =>
    intro k b i hk h0 hi hb hb1
    obtain ⟨k, rfl⟩ : ∃ m, k = m + 1 := ⟨k - 1, by omega⟩
    exact ⟨b, by rw [laws_szPartS.l0, if_neg (by omega)], by omega, fun _ j h1 h2 => by omega⟩
  | succ d ih =>
    intro k b i hk h0 hi hb hb1
    obtain ⟨k, rfl⟩ : ∃ m, k = m + 1 := ⟨k - 1, by omega⟩
    have hz := hs.2 _ (rd159_mem (l := l) h0 (by omega))
    rw [laws_szPartS.l0, if_pos (by omega), if_pos h0]
    unfold laws_szPart.f
    rw [w64 (n := b - ((rd_T159 l i).f0.size : Int)) (by omega) (by omega)]
    by_cases hn : b - ((rd_T159 l i).f0.size : Int) < 0
    · rw [if_pos hn, Option.bind_some, if_pos (by omega)]
      exact ⟨-1, rfl, by omega, fun h => absurd (by omega) h⟩
    · rw [if_neg hn, Option.bind_some, if_neg hn, w64 (n := i + 1) (by omega) (by omega)]
      obtain ⟨t, ht, h1, h2⟩ := ih k (b - ((rd_T159 l i).f0.size : Int)) (i + 1) (by omega) (by omega) (by omega) (by omega) (by omega)
      refine ⟨t, ht, by omega, fun h j h3 h4 => ?_⟩
      by_cases hj : j = i
      · subst hj; omega
      · exact h2 h j (by omega) h4
def BndP (l : List S159) : Prop := l.length ≤ 1048576 ∧ ∀ p ∈ l, p.f0.size ≤ 1048576
theorem szp_eq (l : List S159) (hs : LenP l) (b : Int) (hb : 0 ≤ b) (hb1 : b ≤ 1048576) (k : Nat) (hk : 1048600 ≤ k) : ∃ t, laws_szPartS.f k l b = some t ∧ t ≤ b ∧ (¬ t < 0 → BndP l) := by
  unfold laws_szPartS.f
  have := hs.1
  rw [w64 (n := b - (l.length : Int)) (by omega) (by omega)]
  by_cases hn : b - (l.length : Int) < 0
  · rw [if_pos hn]
    exact ⟨-1, rfl, by omega, fun h => absurd (by omega) h⟩
  · rw [if_neg hn]
    obtain ⟨t, ht, h1, h2⟩ := szp_go l hs (by omega) l.length k (b - (l.length : Int)) 0 (by omega) (by omega) (by omega) (by omega) (by omega)
    refine ⟨t, ht, by omega, fun h => ⟨by omega, fun p hp => ?_⟩⟩
    obtain ⟨i, hi, rfl⟩ := List.getElem_of_mem hp
    have h3 := h2 h (i : Int) (by omega) (by omega)
    unfold rd_T159 at h3
    rw [List.getD_eq_getElem?_getD, List.getElem?_eq_getElem (by omega)] at h3
    have h4 : (((l[i]).f0.size : Int)) ≤ 1048576 := by simpa using h3
    omega
theorem sze_go (l : List S125) (hs : ∀ e ∈ l, LenP e.f1) (hl : l.length ≤ 1048576) (d : Nat) : ∀ (k : Nat) (b i : Int), d + 1048600 < k → 0 ≤ i → i + d = l.length → 0 ≤ b → b ≤ 1048576 →
    ∃ t, laws_szEntityS.l0 k l b i = some t ∧ t ≤ b ∧ (¬ t < 0 → ∀ j : Int, i ≤ j → j < l.length → BndP (rd_T125 l j).f1) := by
  induction d with
  | zero =>
    intro k b i hk h0 hi hb hb1
    obtain ⟨k, rfl⟩ : ∃ m, k = m + 1 := ⟨k - 1, by omega⟩
    exact ⟨b, by rw [laws_szEntityS.l0, if_neg (by omega)], by omega, fun _ j h1 h2 => by omega⟩
  | succ d ih =>
    intro k b i hk h0 hi hb hb1
    obtain ⟨k, rfl⟩ : ∃ m, k = m + 1 := ⟨k - 1, by omega⟩
    obtain ⟨u, hu, hu1, hu2⟩ := szp_eq (rd_T125 l i).f1 (hs _ (rd125_mem (l := l) h0 (by omega))) b hb hb1 k (by omega)
    rw [laws_szEntityS.l0, if_pos (by omega), if_pos h0]
    unfold laws_szEntity.f
    rw [hu, Option.bind_some]
    by_cases hn : u < 0
    · rw [if_pos hn, Option.bind_some, if_pos (by omega)]
      exact ⟨-1, rfl, by omega, fun h => absurd (by omega) h⟩
    · rw [if_neg hn, Option.bind_some, if_neg hn, w64 (n := i + 1) (by omega) (by omega)]
      obtain ⟨t, ht, h1, h2⟩ := ih k u (i + 1) (by omega) (by omega) (by omega) (by omega) (by omega)
      refine ⟨t, ht, by omega, fun h j h3 h4 => ?_⟩
      by_cases hj : j = i
      · subst hj; exact hu2 hn
      · exact h2 h j (by omega) h4
def LenE (l : List S125) : Prop := l.length ≤ 9223372036854775807 ∧ ∀ e ∈ l, LenP e.f1
def BndE (l : List S125) : Prop := l.length ≤ 1048576 ∧ ∀ e ∈ l, BndP e.f1
theorem szw_eq (a b : Int) (l : List S125) (hs : LenE l) (k : Nat) (hk : 2200000 ≤ k) : ∃ t, laws_szWorld.f k a b l 1048576 = some t ∧ (¬ t < 0 → BndE l) := by
  unfold laws_szWorld.f laws_szEntityS.f
  have := hs.1
  rw [w64 (n := 1048576 - (l.length : Int)) (by omega) (by omega)]
  by_cases hn : 1048576 - (l.length : Int) < 0
  · rw [if_pos hn, Option.bind_some, if_pos (by omega)]
    exact ⟨-1, rfl, fun h => absurd (by omega) h⟩
  · rw [if_neg hn]
    obtain ⟨t, ht, h1, h2⟩ := sze_go l hs.2 (by omega) l.length k (1048576 - (l.length : Int)) 0 (by omega) (by omega) (by omega) (by omega) (by omega)
    rw [ht, Option.bind_some]
    by_cases hneg : t < 0
    · rw [if_pos hneg]; exact ⟨-1, rfl, fun h => absurd (by omega) h⟩
    · rw [if_neg hneg]
      refine ⟨t, rfl, fun h => ⟨by omega, fun p hp => ?_⟩⟩
      obtain ⟨i, hi, rfl⟩ := List.getElem_of_mem hp
      have h3 := h2 h (i : Int) (by omega) (by omega)
      unfold rd_T125 at h3
      rw [List.getD_eq_getElem?_getD, List.getElem?_eq_getElem (by omega)] at h3
      simpa using h3
/-! ### copies -/
theorem top_go (l : List S159) (hl : l.length ≤ 1048576) (d : Nat) : ∀ (k : Nat) (ys : List S91) (i : Nat), d < k → i + d = l.length → ys.length = l.length → (∀ j, j < i → ys[j]? = (l.map cP)[j]?) → laws_toPartS.l0 k l ys (i : Int) = some (l.map cP) := by
  induction d with
  | zero =>
    intro k ys i hk hi hy h
    obtain ⟨k, rfl⟩ : ∃ m, k = m + 1 := ⟨k - 1, by omega⟩
    rw [laws_toPartS.l0, if_neg (by omega)]
    congr 1
    apply List.ext_getElem?
    intro j
    by_cases hj : j < i
    · exact h j hj
    · rw [List.getElem?_eq_none (by omega), List.getElem?_eq_none (by rw [List.length_map]; omega)]
  | succ d ih =>
    intro k ys i hk hi hy h
    obtain ⟨k, rfl⟩ : ∃ m, k = m + 1 := ⟨k - 1, by omega⟩
    rw [laws_toPartS.l0, if_pos (by omega), if_pos (by omega)]
    unfold laws_toPart.f
    rw [Option.bind_some, if_pos (by omega), w64 (n := (i : Int) + 1) (by omega) (by omega), show ((i : Int) + 1) = ((i + 1 : Nat) : Int) by omega, show ((i : Int)).toNat = i by omega]
    refine ih k _ (i + 1) (by omega) (by omega) (by rw [List.length_set]; exact hy) (fun j hj => ?_)
    by_cases hji : j = i
    · subst hji
      rw [List.getElem?_set_self (by omega), List.getElem?_map, List.getElem?_eq_getElem (by omega)]
      unfold rd_T159
      rw [List.getD_eq_getElem?_getD, show ((j : Int)).toNat = j by omega, List.getElem?_eq_getElem (by omega)]
      rfl
    · rw [List.getElem?_set_ne (by omega)]
      exact h j (by omega)
theorem top_eq (l : List S159) (hl : l.length ≤ 1048576) (k : Nat) (hk : 1048600 ≤ k) : laws_toPartS.f k l = some (l.map cP) := by
  unfold laws_toPartS.f
  rw [if_pos (by omega), if_pos (by omega)]
  exact top_go l hl l.length k _ 0 (by omega) (by omega) (by simp) (fun j hj => by omega)
theorem toe_go (l : List S125) (hb : BndE l) (d : Nat) : ∀ (k : Nat) (ys : List S76) (i : Nat), d + 1048600 < k → i + d = l.length → ys.length = l.length → (∀ j, j < i → ys[j]? = (l.map cE)[j]?) → laws_toEntityS.l0 k l ys (i : Int) = some (l.map cE) := by
  have hl := hb.1
  induction d with
  | zero =>
    intro k ys i hk hi hy h
    obtain ⟨k, rfl⟩ : ∃ m, k = m + 1 := ⟨k - 1, by omega⟩
    rw [laws_toEntityS.l0, if_neg (by omega)]
    congr 1
    apply List.ext_getElem?
    intro j
    by_cases hj : j < i
    · exact h j hj
    · rw [List.getElem?_eq_none (by omega), List.getElem?_eq_none (by rw [List.length_map]; omega)]
  | succ d ih =>
    intro k ys i hk hi hy h
    obtain ⟨k, rfl⟩ : ∃ m, k = m + 1 := ⟨k - 1, by omega⟩
    have hp := (hb.2 _ (rd125_mem (l := l) (i := (i : Int)) (by omega) (by omega))).1
    rw [laws_toEntityS.l0, if_pos (by omega), if_pos (by omega)]
    unfold laws_toEntity.f
    rw [top_eq _ hp k (by omega), Option.bind_some, Option.bind_some, if_pos (by omega), w64 (n := (i : Int) + 1) (by omega) (by omega), show ((i : Int) + 1) = ((i + 1 : Nat) : Int) by omega, show ((i : Int)).toNat = i by omega]
    refine ih k _ (i + 1) (by omega) (by omega) (by rw [List.length_set]; exact hy) (fun j hj => ?_)
    by_cases hji : j = i
    · subst hji
      rw [List.getElem?_set_self (by omega), List.getElem?_map, List.getElem?_eq_getElem (by omega)]
      unfold rd_T125
      rw [List.getD_eq_getElem?_getD, show ((j : Int)).toNat = j by omega, List.getElem?_eq_getElem (by omega)]
      rfl
    · rw [List.getElem?_set_ne (by omega)]
      exact h j (by omega)
theorem tow_eq (a b : Int) (l : List S125) (hb : BndE l) (k : Nat) (hk : 2200000 ≤ k) : laws_toWorld.f k a b l = some (a, b, l.map cE) := by
  unfold laws_toWorld.f laws_toEntityS.f
  have := hb.1
  have h := toe_go l hb l.length k (List.replicate ((l.length : Int) : Int).toNat z76) 0 (by omega) (by omega) (by simp) (fun j hj => by omega)
  rw [if_pos (by omega), if_pos (by omega), show laws_toEntityS.l0 k l (List.replicate ((l.length : Int) : Int).toNat z76) 0 = some (l.map cE) from h, Option.bind_some]
/-! ### worlds of the program's own -/
def BP (l : List S91) : Prop := l.length ≤ 1048576 ∧ ∀ p ∈ l, p.f0.size ≤ 1048576
def BE (l : List S76) : Prop := l.length ≤ 1048577 ∧ ∀ e ∈ l, BP e.f1
theorem be_map (l : List S125) (hb : BndE l) : BE (l.map cE) := by
  refine ⟨by rw [List.length_map]; have := hb.1; omega, fun e he => ?_⟩
  obtain ⟨q, hq, rfl⟩ := List.mem_map.1 he
  have h2 := hb.2 q hq
  refine ⟨by show (q.f1.map cP).length ≤ _; rw [List.length_map]; exact h2.1, fun p hp => ?_⟩
  obtain ⟨r, hr, rfl⟩ := List.mem_map.1 hp
  exact h2.2 r hr
def ltP (l : List S91) (i : Int) : Bool := if i > 0 then Op.bytesLess ((rd_T91 l (i - 1)).f0).toList ((rd_T91 l i).f0).toList else true
def allP (tk : Int) (l : List S91) : Nat → Int → Bool
  | 0, _ => true
  | d + 1, i => GN (rd_T91 l i).f0 && (ltP l i && (decide (0 ≤ (rd_T91 l i).f2 ∧ (rd_T91 l i).f2 ≤ tk) && allP tk l d (i + 1)))
def AP (tk : Int) (l : List S91) : Bool := allP tk l l.length 0 && decide ((l.length : Int) ≤ 12)
theorem iparts_go (tk : Int) (l : List S91) (hs : BP l) (d : Nat) : ∀ (k : Nat) (i : Int), d + 1048600 < k → 0 ≤ i → i + d = l.length → impl_areParts.l0 k l tk l (l.length : Int) i = some (allP tk l d i && decide ((l.length : Int) ≤ 12)) := by
  have hl := hs.1
  induction d with
  | zero =>
    intro k i hk h0 hi
    obtain ⟨k, rfl⟩ : ∃ m, k = m + 1 := ⟨k - 1, by omega⟩
    rw [impl_areParts.l0, if_neg (by omega)]; rfl
  | succ d ih =>
    intro k i hk h0 hi
    obtain ⟨k, rfl⟩ : ∃ m, k = m + 1 := ⟨k - 1, by omega⟩
    rw [impl_areParts.l0, if_pos (by omega), if_pos h0, if_pos (by omega), iname_eq _ (hs.2 _ (rd91_mem h0 (by omega))) k (by omega), Option.bind_some, w64 (n := i + 1) (by omega) (by omega), ih k (i + 1) (by omega) (by omega) (by omega), inRange_eq, Option.bind_some]
    show _ = some ((GN (rd_T91 l i).f0 && (ltP l i && (_ && allP tk l d (i + 1)))) && _)
    unfold ltP
    by_cases hi0 : i > 0
    · rw [if_pos hi0, w64 (n := i - 1) (by omega) (by omega), if_pos (show 0 ≤ i - 1 by omega), if_pos (show i - 1 < (l.length : Int) by omega), if_pos hi0]
      cases GN (rd_T91 l i).f0 <;> cases Op.bytesLess ((rd_T91 l (i - 1)).f0).toList ((rd_T91 l i).f0).toList <;> cases decide (0 ≤ (rd_T91 l i).f2 ∧ (rd_T91 l i).f2 ≤ tk) <;> simp
    · rw [if_neg hi0, if_neg hi0]
      cases GN (rd_T91 l i).f0 <;> cases decide (0 ≤ (rd_T91 l i).f2 ∧ (rd_T91 l i).f2 ≤ tk) <;> simp
theorem iparts_eq (tk : Int) (l : List S91) (hs : BP l) (k : Nat) (hk : 2200000 ≤ k) : impl_areParts.f k l tk = some (AP tk l) := by
  unfold impl_areParts.f AP
  have := hs.1
  exact iparts_go tk l hs l.length k 0 (by omega) (by omega) (by omega)
def ltE (l : List S76) (i : Int) : Bool := if i > 0 then decide ((rd_T76 l (i - 1)).f0 < (rd_T76 l i).f0) else true
def allE (m tk : Int) (l : List S76) : Nat → Int → Bool
  | 0, _ => true
  | d + 1, i => decide (1 ≤ (rd_T76 l i).f0 ∧ (rd_T76 l i).f0 ≤ m) && (ltE l i && (AP tk (rd_T76 l i).f1 && allE m tk l d (i + 1)))
def GW (nx tk : Int) (l : List S76) : Bool := (decide (1 ≤ nx ∧ nx ≤ 1000000) && (decide (0 ≤ tk ∧ tk ≤ 1000000) && decide ((l.length : Int) ≤ 60))) && allE (wrap64 (nx - 1)) tk l l.length 0
theorem iworld_go (nx tk : Int) (l : List S76) (hs : BE l) (d : Nat) : ∀ (k : Nat) (i : Int), d + 2300000 < k → 0 ≤ i → i + d = l.length →
    impl_GoodWorld.l0 k l (l.length : Int) i nx tk l = some ((decide (1 ≤ nx ∧ nx ≤ 1000000) && (decide (0 ≤ tk ∧ tk ≤ 1000000) && decide ((l.length : Int) ≤ 60))) && allE (wrap64 (nx - 1)) tk l d i) := by
  have hl := hs.1
  induction d with
  | zero =>
    intro k i hk h0 hi
    obtain ⟨k, rfl⟩ : ∃ m, k = m + 1 := ⟨k - 1, by omega⟩
    rw [impl_GoodWorld.l0, if_neg (by omega), inRange_eq, Option.bind_some, inRange_eq, Option.bind_some, allE, Bool.and_true]
    cases decide (1 ≤ nx ∧ nx ≤ 1000000) <;> cases decide (0 ≤ tk ∧ tk ≤ 1000000) <;> simp
  | succ d ih =>
    intro k i hk h0 hi
    obtain ⟨k, rfl⟩ : ∃ m, k = m + 1 := ⟨k - 1, by omega⟩
    rw [impl_GoodWorld.l0, if_pos (by omega), if_pos h0, if_pos (by omega), inRange_eq, Option.bind_some, w64 (n := i + 1) (by omega) (by omega), ih k (i + 1) (by omega) (by omega) (by omega), iparts_eq tk _ (hs.2 _ (rd76_mem h0 (by omega))) k (by omega), Option.bind_some]
    show _ = some (_ && (_ && (ltE l i && (AP tk (rd_T76 l i).f1 && allE (wrap64 (nx - 1)) tk l d (i + 1)))))
    unfold ltE
    by_cases hi0 : i > 0
    · rw [if_pos hi0, w64 (n := i - 1) (by omega) (by omega), if_pos (show 0 ≤ i - 1 by omega), if_pos (show i - 1 < (l.length : Int) by omega), if_pos hi0]
      by_cases hc : (rd_T76 l (i - 1)).f0 ≥ (rd_T76 l i).f0
      · rw [if_pos hc, decide_eq_false (show ¬ (rd_T76 l (i - 1)).f0 < (rd_T76 l i).f0 by omega)]
        cases decide (1 ≤ (rd_T76 l i).f0 ∧ (rd_T76 l i).f0 ≤ wrap64 (nx - 1)) <;> simp
      · rw [if_neg hc, decide_eq_true (show (rd_T76 l (i - 1)).f0 < (rd_T76 l i).f0 by omega)]
        cases decide (1 ≤ (rd_T76 l i).f0 ∧ (rd_T76 l i).f0 ≤ wrap64 (nx - 1)) <;> cases AP tk (rd_T76 l i).f1 <;> simp
    · rw [if_neg hi0, if_neg hi0]
      cases decide (1 ≤ (rd_T76 l i).f0 ∧ (rd_T76 l i).f0 ≤ wrap64 (nx - 1)) <;> cases AP tk (rd_T76 l i).f1 <;> simp
theorem iworld_eq (nx tk : Int) (l : List S76) (hs : BE l) (k : Nat) (hk : 3500000 ≤ k) : impl_GoodWorld.f k nx tk l = some (GW nx tk l) := by
  unfold impl_GoodWorld.f GW
  have := hs.1
  exact iworld_go nx tk l hs l.length k 0 (by omega) (by omega) (by omega)
/-- The reference's inner loop: it goes over the parts, and on to the next entity. -/
theorem sparts_go (nx tk : Int) (l : List S76) (x26 id : Int) (ps : List S91) (hs : BP ps) (R : Bool) (k0 : Nat) (hk0 : 1048600 ≤ k0) (hrest : ∀ k, k0 ≤ k → spec_GoodWorld.l0 k l (l.length : Int) (wrap64 (x26 + 1)) nx tk l = some R) (d : Nat) : ∀ (k : Nat) (i : Int), d + k0 < k → 0 ≤ i → i + d = ps.length →
    spec_GoodWorld.l1 k l (l.length : Int) x26 ps (ps.length : Int) i nx tk l id ps = some (allP tk ps d i && R) := by
  have hl := hs.1
  induction d with
  | zero =>
    intro k i hk h0 hi
    obtain ⟨k, rfl⟩ : ∃ m, k = m + 1 := ⟨k - 1, by omega⟩
    rw [spec_GoodWorld.l1, if_neg (by omega), hrest k (by omega)]; rfl
  | succ d ih =>
    intro k i hk h0 hi
    obtain ⟨k, rfl⟩ : ∃ m, k = m + 1 := ⟨k - 1, by omega⟩
    rw [spec_GoodWorld.l1, if_pos (by omega), if_pos h0, if_pos (by omega), sname_eq _ (hs.2 _ (rd91_mem h0 (by omega))) k (by omega), Option.bind_some, w64 (n := i + 1) (by omega) (by omega), ih k (i + 1) (by omega) (by omega) (by omega), l1In_eq, Option.bind_some]
    show _ = some ((GN (rd_T91 ps i).f0 && (ltP ps i && (_ && allP tk ps d (i + 1)))) && _)
    unfold ltP
    by_cases hi0 : i > 0
    · rw [if_pos hi0, w64 (n := i - 1) (by omega) (by omega), if_pos (show 0 ≤ i - 1 by omega), if_pos (show i - 1 < (ps.length : Int) by omega), if_pos hi0]
      cases GN (rd_T91 ps i).f0 <;> cases Op.bytesLess ((rd_T91 ps (i - 1)).f0).toList ((rd_T91 ps i).f0).toList <;> cases decide (0 ≤ (rd_T91 ps i).f2 ∧ (rd_T91 ps i).f2 ≤ tk) <;> simp
    · rw [if_neg hi0, if_neg hi0]
      cases GN (rd_T91 ps i).f0 <;> cases decide (0 ≤ (rd_T91 ps i).f2 ∧ (rd_T91 ps i).f2 ≤ tk) <;> simp
theorem sworld_go (nx tk : Int) (l : List S76) (hs : BE l) (d : Nat) : ∀ (k : Nat) (i : Int), 20 * d + 3300000 < k → d ≤ 60 → 0 ≤ i → i + d = l.length →
    spec_GoodWorld.l0 k l (l.length : Int) i nx tk l = some (allE (wrap64 (nx - 1)) tk l d i) := by
  have hl := hs.1
  induction d with
  | zero =>
    intro k i hk _ h0 hi
    obtain ⟨k, rfl⟩ : ∃ m, k = m + 1 := ⟨k - 1, by omega⟩
    rw [spec_GoodWorld.l0, if_neg (by omega)]; rfl
  | succ d ih =>
    intro k i hk hd h0 hi
    obtain ⟨k, rfl⟩ : ∃ m, k = m + 2 := ⟨k - 2, by omega⟩
    have hj2 : spec_GoodWorld.j2 (k + 1) l (l.length : Int) i true nx tk l (rd_T76 l i).f0 (rd_T76 l i).f1 = some false := by
      rw [spec_GoodWorld.j2, if_pos rfl]
    have hj3 : spec_GoodWorld.j2 (k + 1) l (l.length : Int) i (decide (((rd_T76 l i).f1.length : Int) > 12)) nx tk l (rd_T76 l i).f0 (rd_T76 l i).f1 = some (AP tk (rd_T76 l i).f1 && allE (wrap64 (nx - 1)) tk l d (i + 1)) := by
      by_cases h12 : ((rd_T76 l i).f1.length : Int) > 12
      · rw [decide_eq_true h12, spec_GoodWorld.j2, if_pos rfl]
        unfold AP
        rw [decide_eq_false (by omega)]; simp
      · rw [decide_eq_false h12, spec_GoodWorld.j2, if_neg (by decide)]
        unfold AP
        rw [decide_eq_true (show ((rd_T76 l i).f1.length : Int) ≤ 12 by omega), Bool.and_true]
        obtain ⟨k0, hk0⟩ : ∃ k0, k0 = 20 * d + 3300001 := ⟨_, rfl⟩
        exact sparts_go nx tk l i _ _ (hs.2 _ (rd76_mem h0 (by omega))) _ k0 (by omega) (fun k hk => by rw [w64 (n := i + 1) (by omega) (by omega)]; exact ih k (i + 1) (by omega) (by omega) (by omega) (by omega)) _ k 0 (by omega) (by omega) (by omega)
    rw [spec_GoodWorld.l0, if_pos (by omega), if_pos h0, if_pos (by omega), l1In_eq, Option.bind_some, hj2, hj3]
    show _ = some (_ && (ltE l i && (AP tk (rd_T76 l i).f1 && allE (wrap64 (nx - 1)) tk l d (i + 1))))
    unfold ltE
    by_cases hi0 : i > 0
    · rw [if_pos hi0, w64 (n := i - 1) (by omega) (by omega), if_pos (show 0 ≤ i - 1 by omega), if_pos (show i - 1 < (l.length : Int) by omega), if_pos hi0]
      by_cases hc : (rd_T76 l (i - 1)).f0 ≥ (rd_T76 l i).f0
      · rw [if_pos hc, decide_eq_false (show ¬ (rd_T76 l (i - 1)).f0 < (rd_T76 l i).f0 by omega)]
        cases decide (1 ≤ (rd_T76 l i).f0 ∧ (rd_T76 l i).f0 ≤ wrap64 (nx - 1)) <;> simp
      · rw [if_neg hc, decide_eq_true (show (rd_T76 l (i - 1)).f0 < (rd_T76 l i).f0 by omega)]
        cases decide (1 ≤ (rd_T76 l i).f0 ∧ (rd_T76 l i).f0 ≤ wrap64 (nx - 1)) <;> simp
    · rw [if_neg hi0, if_neg hi0]
      cases decide (1 ≤ (rd_T76 l i).f0 ∧ (rd_T76 l i).f0 ≤ wrap64 (nx - 1)) <;> simp

theorem sworld_eq (nx tk : Int) (l : List S76) (hs : BE l) (k : Nat) (hk : 3500000 ≤ k) : spec_GoodWorld.f k nx tk l = some (GW nx tk l) := by
  have hl := hs.1
  obtain ⟨k, rfl⟩ : ∃ m, k = m + 1 := ⟨k - 1, by omega⟩
  have hj : spec_GoodWorld.j0 (k + 1) true nx tk l = some false := by rw [spec_GoodWorld.j0, if_pos rfl]
  unfold spec_GoodWorld.f GW
  rw [l1In_eq, Option.bind_some, l1In_eq, Option.bind_some, hj]
  cases decide (1 ≤ nx ∧ nx ≤ 1000000)
  · simp
  · cases decide (0 ≤ tk ∧ tk ≤ 1000000)
    · simp
    · rw [if_pos rfl, if_pos rfl, spec_GoodWorld.j0]
      by_cases h60 : (l.length : Int) > 60
      · rw [decide_eq_true h60, if_pos rfl, decide_eq_false (by omega)]; simp
      · rw [decide_eq_false h60, if_neg (by decide), decide_eq_true (show (l.length : Int) ≤ 60 by omega), sworld_go nx tk l hs l.length k 0 (by omega) (by omega) (by omega) (by omega)]
        simp
theorem gw_len {nx tk : Int} {l : List S76} (h : GW nx tk l = true) : l.length ≤ 60 ∧ 1 ≤ nx ∧ nx ≤ 1000000 := by
  unfold GW at h
  simp only [Bool.and_eq_true, decide_eq_true_eq] at h
  omega
theorem sown_go (a b : Int) (l : List S76) (hs : BE l) (d : Nat) : ∀ (k : Nat) (i : Nat) (o : List S76), d < k → i + d = l.length → o = l.take i → spec_l3Own.l0 k o l (l.length : Int) (i : Int) a b l = some (a, b, l) := by
  have hl := hs.1
  induction d with
  | zero =>
    intro k i o hk hi ho
    obtain ⟨k, rfl⟩ : ∃ m, k = m + 1 := ⟨k - 1, by omega⟩
    rw [spec_l3Own.l0, if_neg (by omega), ho, List.take_of_length_le (by omega)]
  | succ d ih =>
    intro k i o hk hi ho
    obtain ⟨k, rfl⟩ : ∃ m, k = m + 1 := ⟨k - 1, by omega⟩
    have hp := (hs.2 _ (rd76_mem (l := l) (i := (i : Int)) (by omega) (by omega))).1
    have hol : o.length = i := by rw [ho, List.length_take]; omega
    rw [spec_l3Own.l0, if_pos (by omega), if_pos (by omega), if_pos (by omega), Option.bind_some, if_pos (by simp; omega), if_pos (by omega), w64 (n := (i : Int) + 1) (by omega) (by omega), show ((i : Int) + 1) = ((i + 1 : Nat) : Int) by omega, List.nil_append]
    refine ih k (i + 1) _ (by omega) (by omega) ?_
    rw [ho, rd76_at (by omega), List.take_succ_eq_append_getElem (by omega)]
theorem sown_eq (a b : Int) (l : List S76) (hs : BE l) (k : Nat) (hk : 1100000 ≤ k) : spec_l3Own.f k a b l = some (a, b, l) := by
  unfold spec_l3Own.f
  have := hs.1
  exact sown_go a b l hs l.length k 0 [] (by omega) (by omega) (by simp)
theorem iclone_go (a b : Int) (l : List S76) (hs : BE l) (d : Nat) : ∀ (k : Nat) (i : Nat) (o : List S76), d < k → i + d = l.length → o = l.take i → impl_World_clone.l0 k l (l.length : Int) (i : Int) a b o = some (a, b, l) := by
  have hl := hs.1
  induction d with
  | zero =>
    intro k i o hk hi ho
    obtain ⟨k, rfl⟩ : ∃ m, k = m + 1 := ⟨k - 1, by omega⟩
    rw [impl_World_clone.l0, if_neg (by omega), ho, List.take_of_length_le (by omega)]
  | succ d ih =>
    intro k i o hk hi ho
    obtain ⟨k, rfl⟩ : ∃ m, k = m + 1 := ⟨k - 1, by omega⟩
    have hp := (hs.2 _ (rd76_mem (l := l) (i := (i : Int)) (by omega) (by omega))).1
    have hol : o.length = i := by rw [ho, List.length_take]; omega
    rw [impl_World_clone.l0, if_pos (by omega), if_pos (by omega), if_pos (by omega)]
    unfold impl_Part_91.f
    rw [if_pos (by omega), Option.bind_some, if_pos (by omega), w64 (n := (i : Int) + 1) (by omega) (by omega), show ((i : Int) + 1) = ((i + 1 : Nat) : Int) by omega]
    refine ih k (i + 1) _ (by omega) (by omega) ?_
    rw [ho, rd76_at (by omega), List.take_succ_eq_append_getElem (by omega)]
theorem iclone_eq (a b : Int) (l : List S76) (hs : BE l) (k : Nat) (hk : 1100000 ≤ k) : impl_World_clone.f k a b l = some (a, b, l) := by
  unfold impl_World_clone.f
  have := hs.1
  exact iclone_go a b l hs l.length k 0 [] (by omega) (by omega) (by simp)
/-! ### eq -/
theorem eqp_go (l : List S91) (hl : l.length ≤ 1048576) (d : Nat) : ∀ (k : Nat) (i : Int), d < k → 0 ≤ i → i + d = l.length → laws_eqPartS.l0 k l l i = some true := by
  induction d with
  | zero =>
    intro k i hk h0 hi
    obtain ⟨k, rfl⟩ : ∃ m, k = m + 1 := ⟨k - 1, by omega⟩
    rw [laws_eqPartS.l0, if_neg (by omega)]
  | succ d ih =>
    intro k i hk h0 hi
    obtain ⟨k, rfl⟩ : ∃ m, k = m + 1 := ⟨k - 1, by omega⟩
    rw [laws_eqPartS.l0, if_pos (by omega), if_pos h0, if_pos (by omega)]
    unfold laws_eqPart.f
    rw [if_pos rfl, if_pos rfl, if_pos rfl, Option.bind_some, if_pos rfl, w64 (n := i + 1) (by omega) (by omega)]
    exact ih k (i + 1) (by omega) (by omega) (by omega)
theorem eqe_go (l : List S76) (hs : BE l) (d : Nat) : ∀ (k : Nat) (i : Int), d + 1048600 < k → 0 ≤ i → i + d = l.length → laws_eqEntityS.l0 k l l i = some true := by
  have hl := hs.1
  induction d with
  | zero =>
    intro k i hk h0 hi
    obtain ⟨k, rfl⟩ : ∃ m, k = m + 1 := ⟨k - 1, by omega⟩
    rw [laws_eqEntityS.l0, if_neg (by omega)]
  | succ d ih =>
    intro k i hk h0 hi
    obtain ⟨k, rfl⟩ : ∃ m, k = m + 1 := ⟨k - 1, by omega⟩
    have hp := (hs.2 _ (rd76_mem (l := l) (i := i) h0 (by omega))).1
    rw [laws_eqEntityS.l0, if_pos (by omega), if_pos h0, if_pos (by omega)]
    unfold laws_eqEntity.f laws_eqPartS.f
    rw [if_pos rfl, if_pos rfl, eqp_go _ hp (rd_T76 l i).f1.length k 0 (by omega) (by omega) (by omega), Option.bind_some, if_pos rfl, Option.bind_some, if_pos rfl, w64 (n := i + 1) (by omega) (by omega)]
    exact ih k (i + 1) (by omega) (by omega) (by omega)
theorem eqw_self (a b : Int) (l : List S76) (hs : BE l) (k : Nat) (hk : 2200000 ≤ k) : laws_eqWorld.f k a b l a b l = some true := by
  unfold laws_eqWorld.f laws_eqEntityS.f
  have := hs.1
  rw [if_pos rfl, if_pos rfl, if_pos rfl, eqe_go l hs l.length k 0 (by omega) (by omega) (by omega), Option.bind_some, if_pos rfl]
/-! ### marks -/
theorem text_go (d : Nat) : ∀ (c : Int) (t : ByteArray), 0 ≤ c → c < 10 ^ d → c ≤ 1000000000000000 → t.size ≤ 1000 - d → d ≤ 1000 → ∃ r, ∀ k, d < k → laws_markText.l0 k c t = some r := by
  induction d with
  | zero =>
    intro c t h0 h1 _ ht _
    refine ⟨(⟨#[109]⟩ : ByteArray) ++ t, fun k hk => ?_⟩
    obtain ⟨k, rfl⟩ : ∃ m, k = m + 1 := ⟨k - 1, by omega⟩
    rw [laws_markText.l0, if_neg (by simp at h1; omega), if_pos (by omega)]
  | succ d ih =>
    intro c t h0 h1 hb ht hd
    by_cases hc : c > 0
    · have hp : (10 : Int) ^ (d + 1) = 10 ^ d * 10 := Int.pow_succ _ _
      have hsz : (strOfNums [(wrap64 (48 + c.tmod 10)) % 256]).size = 1 := rfl
      have hdv : c.tdiv 10 = c / 10 := Int.tdiv_eq_ediv_of_nonneg h0
      obtain ⟨r, hr⟩ := ih (c / 10) (strOfNums [(wrap64 (48 + c.tmod 10)) % 256] ++ t) (by omega) (by omega) (by omega) (by rw [ByteArray.size_append, hsz]; omega) (by omega)
      refine ⟨r, fun k hk => ?_⟩
      obtain ⟨k, rfl⟩ : ∃ m, k = m + 1 := ⟨k - 1, by omega⟩
      rw [laws_markText.l0, if_pos hc, Option.bind_some, hsz, if_pos (by omega), hdv, w64 (n := c / 10) (by omega) (by omega)]
      exact hr k (by omega)
    · refine ⟨(⟨#[109]⟩ : ByteArray) ++ t, fun k hk => ?_⟩
      obtain ⟨k, rfl⟩ : ∃ m, k = m + 1 := ⟨k - 1, by omega⟩
      rw [laws_markText.l0, if_neg hc, if_pos (by omega)]
theorem text_tot (c : Int) (hb : c ≤ 1000000000000000) : ∃ r, ∀ k, 20 < k → laws_markText.f k c = some r := by
  by_cases h : c ≤ 0
  · exact ⟨(⟨#[109, 48]⟩ : ByteArray), fun k _ => by unfold laws_markText.f; rw [if_pos h]⟩
  · obtain ⟨r, hr⟩ := text_go 16 c (⟨#[]⟩ : ByteArray) (by omega) (by have : (10 : Int) ^ 16 = 10000000000000000 := by decide
                                                                      omega) hb (by show (0 : Nat) ≤ _; omega) (by omega)
    exact ⟨r, fun k hk => by unfold laws_markText.f; rw [if_neg h]; exact hr k (by omega)⟩
def HeldP (ys : List S91) (c : Int) (i d : Nat) : Prop := ∀ j, j < d → ∃ r, ys[i + j]? = some ⟨r, c + 3 * j + 1, c + 3 * j + 2⟩ ∧ ∀ k, 20 < k → laws_markText.f k (c + 3 * j) = some r
theorem set_rd91 (x : List S91) (i : Nat) (v : S91) (h : i < x.length) : rd_T91 (x.set i v) (i : Int) = v := by
  rw [rd91_at (by rw [List.length_set]; exact h), List.getElem_set_self]
theorem pmark_go (d : Nat) : ∀ (k : Nat) (xs : List S91) (c : Int) (i : Nat), d + 30 < k → i + d = xs.length → xs.length ≤ 1048576 → 0 ≤ c → c + 3 * d ≤ 900000000000000 →
    ∃ ys, laws_markPartS.l0 k xs c (i : Int) = some (c + 3 * d, ys) ∧ ys.length = xs.length ∧ (∀ j, j < i → ys[j]? = xs[j]?) ∧ HeldP ys c i d := by
  induction d with
  | zero =>
    intro k xs c i hk hi hl hc hc1
    obtain ⟨k, rfl⟩ : ∃ m, k = m + 1 := ⟨k - 1, by omega⟩
    exact ⟨xs, by rw [laws_markPartS.l0, if_neg (by omega)]; simp, rfl, fun _ _ => rfl, fun j hj => by omega⟩
  | succ d ih =>
    intro k xs c i hk hi hl hc hc1
    obtain ⟨k, rfl⟩ : ∃ m, k = m + 1 := ⟨k - 1, by omega⟩
    obtain ⟨r, hr⟩ := text_tot c (by omega)
    have hlt : i < xs.length := by omega
    obtain ⟨ys, h1, h2, h3, h4⟩ := ih k (xs.set i ⟨r, c + 1, c + 2⟩) (c + 3) (i + 1) (by omega) (by rw [List.length_set]; omega) (by rw [List.length_set]; omega) (by omega) (by omega)
    rw [laws_markPartS.l0, if_pos (by omega), hr k (by omega), Option.bind_some, if_pos (by omega), Option.bind_some, Option.bind_some, w64 (n := c + 1) (by omega) (by omega), w64 (n := c + 1 + 1) (by omega) (by omega), w64 (n := c + 1 + 1 + 1) (by omega) (by omega), w64 (n := (i : Int) + 1) (by omega) (by omega), show ((i : Int) + 1) = ((i + 1 : Nat) : Int) by omega, show ((i : Int)).toNat = i by omega]
    have e1 := set_rd91 xs i ⟨r, (rd_T91 xs (i : Int)).f1, (rd_T91 xs (i : Int)).f2⟩ hlt
    have e2 := set_rd91 xs i ⟨r, c + 1, (rd_T91 xs (i : Int)).f2⟩ hlt
    rw [e1]
    dsimp only
    simp only [List.set_set]
    rw [e2]
    dsimp only
    rw [show c + 1 + 1 = c + 2 by omega, show c + 2 + 1 = c + 3 by omega]
    refine ⟨ys, by rw [h1]; congr 2; omega, by rw [h2, List.length_set], fun j hj => ?_, fun j hj => ?_⟩
    · rw [h3 j (by omega), List.getElem?_set_ne (by omega)]
    · rcases Nat.eq_zero_or_pos j with h0 | h0
      · subst h0
        refine ⟨r, ?_, by simpa using hr⟩
        rw [Nat.add_zero, h3 i (by omega), List.getElem?_set_self (by omega)]; simp
      · obtain ⟨r2, g1, g2⟩ := h4 (j - 1) (by omega)
        refine ⟨r2, ?_, ?_⟩
        · rw [show i + j = i + 1 + (j - 1) by omega, g1, show c + 3 + 3 * ((j - 1 : Nat) : Int) + 1 = c + 3 * (j : Int) + 1 by omega, show c + 3 + 3 * ((j - 1 : Nat) : Int) + 2 = c + 3 * (j : Int) + 2 by omega]
        · rw [show c + 3 * (j : Int) = c + 3 + 3 * ((j - 1 : Nat) : Int) by omega]
          exact g2
theorem pheld_go (ys : List S91) (hl : ys.length ≤ 1048576) (d : Nat) : ∀ (k : Nat) (c : Int) (i : Nat), d + 30 < k → i + d = ys.length → 0 ≤ c → c + 3 * d ≤ 900000000000000 → HeldP ys c i d → laws_heldPartS.l0 k ys c (i : Int) = some (c + 3 * d) := by
  induction d with
  | zero =>
    intro k c i hk hi hc hc1 _
    obtain ⟨k, rfl⟩ : ∃ m, k = m + 1 := ⟨k - 1, by omega⟩
    rw [laws_heldPartS.l0, if_neg (by omega)]; simp
  | succ d ih =>
    intro k c i hk hi hc hc1 h
    obtain ⟨k, rfl⟩ : ∃ m, k = m + 1 := ⟨k - 1, by omega⟩
    obtain ⟨r, h1, h2⟩ := h 0 (by omega)
    have hr := h2 k (by omega)
    rw [show c + 3 * ((0 : Nat) : Int) = c by omega] at hr h1
    have hrd : rd_T91 ys (i : Int) = ⟨r, c + 1, c + 2⟩ := by
      unfold rd_T91
      rw [List.getD_eq_getElem?_getD, show ((i : Int)).toNat = i by omega]
      rw [Nat.add_zero] at h1
      rw [h1]; rfl
    rw [laws_heldPartS.l0, if_pos (by omega), if_pos (by omega), hr, Option.bind_some, hrd, if_pos rfl, w64 (n := c + 1) (by omega) (by omega), if_pos rfl, w64 (n := c + 1 + 1) (by omega) (by omega), if_pos (show c + 2 = c + 1 + 1 by omega), w64 (n := c + 1 + 1 + 1) (by omega) (by omega), w64 (n := (i : Int) + 1) (by omega) (by omega), show ((i : Int) + 1) = ((i + 1 : Nat) : Int) by omega, ih k (c + 1 + 1 + 1) (i + 1) (by omega) (by omega) (by omega) (by omega)]
    · congr 1; omega
    · intro j hj
      obtain ⟨r2, g1, g2⟩ := h (j + 1) (by omega)
      refine ⟨r2, ?_, ?_⟩
      · rw [show i + 1 + j = i + (j + 1) by omega, g1, show c + 3 * ((j + 1 : Nat) : Int) + 1 = c + 1 + 1 + 1 + 3 * (j : Int) + 1 by omega, show c + 3 * ((j + 1 : Nat) : Int) + 2 = c + 1 + 1 + 1 + 3 * (j : Int) + 2 by omega]
      · rw [show c + 1 + 1 + 1 + 3 * (j : Int) = c + 3 * ((j + 1 : Nat) : Int) by omega]
        exact g2
def HW (ys : List S76) : Nat → Nat → Int → Int → Prop
  | 0, _, c, e => e = c
  | d + 1, i, c, e => ∃ t : S76, ys[i]? = some t ∧ t.f0 = c ∧ t.f1.length ≤ 1048576 ∧ HeldP t.f1 (c + 1) 0 t.f1.length ∧ HW ys d (i + 1) (c + 1 + 3 * t.f1.length) e
theorem emark_go (d : Nat) : ∀ (k : Nat) (xs : List S76) (c : Int) (i : Nat), d + 1048700 < k → i + d = xs.length → xs.length ≤ 1048577 → (∀ j t, i ≤ j → xs[j]? = some t → t.f1.length ≤ 1048576) → 0 ≤ c → c + 3200000 * d ≤ 800000000000000 →
    ∃ e ys, laws_markEntityS.l0 k xs c (i : Int) = some (e, ys) ∧ ys.length = xs.length ∧ (∀ j, j < i → ys[j]? = xs[j]?) ∧ HW ys d i c e ∧ 0 ≤ e := by
  induction d with
  | zero =>
    intro k xs c i hk hi hl ht hc hc1
    obtain ⟨k, rfl⟩ : ∃ m, k = m + 1 := ⟨k - 1, by omega⟩
    exact ⟨c, xs, by rw [laws_markEntityS.l0, if_neg (by omega)], rfl, fun _ _ => rfl, rfl, hc⟩
  | succ d ih =>
    intro k xs c i hk hi hl ht hc hc1
    obtain ⟨k, rfl⟩ : ∃ m, k = m + 1 := ⟨k - 1, by omega⟩
    have hlt : i < xs.length := by omega
    obtain ⟨t, htt⟩ : ∃ t, xs[i]? = some t := ⟨xs[i], List.getElem?_eq_getElem hlt⟩
    have hrd : rd_T76 xs (i : Int) = t := by
      unfold rd_T76
      rw [List.getD_eq_getElem?_getD, show ((i : Int)).toNat = i by omega, htt]; rfl
    have hlen := ht i t (by omega) htt
    obtain ⟨ns, n1, n2, _, n4⟩ := pmark_go t.f1.length k t.f1 (c + 1) 0 (by omega) (by omega) (by omega) (by omega) (by omega)
    obtain ⟨e, ys, h1, h2, h3, h4, h5⟩ := ih k (xs.set i ⟨c, ns⟩) (c + 1 + 3 * t.f1.length) (i + 1) (by omega) (by rw [List.length_set]; omega) (by rw [List.length_set]; omega) (fun j u hj hu => by rw [List.getElem?_set_ne (by omega)] at hu; exact ht j u (by omega) hu) (by omega) (by omega)
    rw [laws_markEntityS.l0, if_pos (by omega), if_pos (by omega), hrd, w64 (n := c + 1) (by omega) (by omega)]
    unfold laws_markPartS.f
    replace n1 : laws_markPartS.l0 k t.f1 (c + 1) 0 = some (c + 1 + 3 * t.f1.length, ns) := n1
    rw [n1, Option.bind_some, w64 (n := (i : Int) + 1) (by omega) (by omega), show ((i : Int) + 1) = ((i + 1 : Nat) : Int) by omega, show ((i : Int)).toNat = i by omega]
    refine ⟨e, ys, h1, by rw [h2, List.length_set], fun j hj => by rw [h3 j (by omega), List.getElem?_set_ne (by omega)], ⟨⟨c, ns⟩, by rw [h3 i (by omega), List.getElem?_set_self hlt], rfl, by show ns.length ≤ _; omega, by show HeldP ns (c + 1) 0 ns.length; rw [n2]; exact n4, by show HW ys d (i + 1) (c + 1 + 3 * (ns.length : Int)) e; rw [n2]; exact h4⟩, h5⟩
theorem eheld_go (ys : List S76) (hl : ys.length ≤ 1048577) (d : Nat) : ∀ (k : Nat) (c e : Int) (i : Nat), d + 1048700 < k → i + d = ys.length → 0 ≤ c → c + 3200000 * d ≤ 800000000000000 → HW ys d i c e → laws_heldEntityS.l0 k ys c (i : Int) = some e := by
  induction d with
  | zero =>
    intro k c e i hk hi hc hc1 h
    obtain ⟨k, rfl⟩ : ∃ m, k = m + 1 := ⟨k - 1, by omega⟩
    rw [laws_heldEntityS.l0, if_neg (by omega)]
    rw [HW] at h; rw [h]
  | succ d ih =>
    intro k c e i hk hi hc hc1 h
    obtain ⟨k, rfl⟩ : ∃ m, k = m + 1 := ⟨k - 1, by omega⟩
    obtain ⟨t, q1, q2, q3, q4, q5⟩ := h
    have hrd : rd_T76 ys (i : Int) = t := by
      unfold rd_T76
      rw [List.getD_eq_getElem?_getD, show ((i : Int)).toNat = i by omega, q1]; rfl
    rw [laws_heldEntityS.l0, if_pos (by omega), if_pos (by omega), hrd, if_pos q2, w64 (n := c + 1) (by omega) (by omega)]
    unfold laws_heldPartS.f
    have q6 : laws_heldPartS.l0 k t.f1 (c + 1) 0 = some (c + 1 + 3 * t.f1.length) := pheld_go t.f1 (by omega) t.f1.length k (c + 1) 0 (by omega) (by omega) (by omega) (by omega) q4
    rw [q6, Option.bind_some, if_neg (by omega), w64 (n := (i : Int) + 1) (by omega) (by omega), show ((i : Int) + 1) = ((i + 1 : Nat) : Int) by omega]
    exact ih k _ e (i + 1) (by omega) (by omega) (by omega) (by omega) q5
theorem wmark_tot (a b : Int) (xs : List S76) (hs : BE xs) (k : Nat) (hk : 2200000 ≤ k) : ∃ c ys, laws_markWorld.f k a b xs 1 = some (c, ys) ∧ 0 ≤ c ∧ laws_heldWorld.f k a b ys 1 = some c := by
  have hl := hs.1
  obtain ⟨e, ys, h1, h2, _, h4, h5⟩ := emark_go xs.length k xs 1 0 (by omega) (by omega) hl (fun j t _ h => (hs.2 t (List.mem_of_getElem? h)).1) (by omega) (by omega)
  refine ⟨e, ys, h1, h5, ?_⟩
  unfold laws_heldWorld.f laws_heldEntityS.f
  have h6 : laws_heldEntityS.l0 k ys 1 0 = some e := eheld_go ys (by omega) xs.length k 1 e 0 (by omega) (by omega) (by omega) (by omega) h4
  rw [h6, Option.bind_some, if_neg (by omega)]

/-! ### Spawn -/
theorem be_gw {nx tk : Int} {l : List S76} (hs : BE l) (v : S76) (hv : v.f1 = []) (h : l.length ≤ 60) : BE (l ++ [v]) := by
  refine ⟨by rw [List.length_append]; show l.length + 1 ≤ _; omega, fun e he => ?_⟩
  rcases List.mem_append.1 he with h1 | h1
  · exact hs.2 e h1
  · rw [List.mem_singleton] at h1
    subst h1
    exact ⟨by rw [hv]; show (0 : Nat) ≤ _; omega, fun p hp => by rw [hv] at hp; cases hp⟩
theorem be_nil : BE [] := ⟨by show (0 : Nat) ≤ _; omega, fun _ h => by cases h⟩

/-! ### Despawn -/
theorem sat_go (id : Int) (l : List S76) (hl : l.length ≤ 1048577) (d : Nat) : ∀ (k : Nat) (i : Nat), d < k → i + d = l.length → spec_l3At.l0 k id l (l.length : Int) (i : Int) = some (placeFrom id (l.drop i) (i : Int)) := by
  induction d with
  | zero =>
    intro k i hk hi
    obtain ⟨k, rfl⟩ : ∃ m, k = m + 1 := ⟨k - 1, by omega⟩
    rw [spec_l3At.l0, if_neg (by omega), List.drop_eq_nil_of_le (by omega)]; rfl
  | succ d ih =>
    intro k i hk hi
    obtain ⟨k, rfl⟩ : ∃ m, k = m + 1 := ⟨k - 1, by omega⟩
    rw [spec_l3At.l0, if_pos (by omega), if_pos (by omega), if_pos (by omega), w64 (n := (i : Int) + 1) (by omega) (by omega), show ((i : Int) + 1) = ((i + 1 : Nat) : Int) by omega, ih k (i + 1) (by omega) (by omega), List.drop_eq_getElem_cons (show i < l.length by omega), rd76_at (by omega)]
    show _ = some (if (l[i]).f0 = id then (i : Int) else placeFrom id (l.drop (i + 1)) ((i : Int) + 1))
    by_cases h : (l[i]).f0 = id
    · rw [if_pos h, if_pos h]
    · rw [if_neg h, if_neg h]; rfl
theorem sat_eq (a b id : Int) (l : List S76) (hl : l.length ≤ 1048577) (k : Nat) (hk : 1100000 ≤ k) : spec_l3At.f k a b l id = some (placeFrom id l 0) := by
  unfold spec_l3At.f
  exact sat_go id l hl l.length k 0 (by omega) (by omega)
theorem place_rng (id : Int) : ∀ (l : List S76) (i : Int), placeFrom id l i = -1 ∨ (i ≤ placeFrom id l i ∧ placeFrom id l i < i + l.length)
  | [], _ => .inl rfl
  | e :: r, i => by
    unfold placeFrom
    by_cases h : e.f0 = id
    · rw [if_pos h]; exact .inr ⟨by omega, by show i < i + ((r.length + 1 : Nat) : Int); omega⟩
    · rw [if_neg h]
      rcases place_rng id r (i + 1) with h2 | h2
      · exact .inl h2
      · exact .inr ⟨by omega, by show _ < i + ((r.length + 1 : Nat) : Int); omega⟩

/-! ### DropPart: bytes' order -/
theorem cmp_neg : ∀ a b : List UInt8, Go.Lib.compareBytes a b < 0 ↔ Op.bytesLess a b = true
  | [], [] => by simp [Go.Lib.compareBytes, Op.bytesLess]
  | [], _ :: _ => by simp [Go.Lib.compareBytes, Op.bytesLess]
  | _ :: _, [] => by simp [Go.Lib.compareBytes, Op.bytesLess]
  | a :: x, b :: y => by
    have ih := cmp_neg x y
    unfold Go.Lib.compareBytes Op.bytesLess
    by_cases h : a < b
    · simp [h]
    · rw [if_neg h]
      by_cases h2 : b < a
      · rw [if_pos h2]
        have h3 : (a == b) = false := by
          rw [beq_eq_false_iff_ne]; intro e; subst e; exact h h2
        simp [h, h3]
      · rw [if_neg h2, ih]
        have h3 : a = b := by
          apply UInt8.toNat_inj.1
          have h4 : ¬ a.toNat < b.toNat := fun h5 => h (UInt8.lt_iff_toNat_lt.2 h5)
          have h6 : ¬ b.toNat < a.toNat := fun h5 => h2 (UInt8.lt_iff_toNat_lt.2 h5)
          omega
        simp [h, h3]
theorem cmp_zero : ∀ a b : List UInt8, Go.Lib.compareBytes a b = 0 ↔ a = b
  | [], [] => by simp [Go.Lib.compareBytes]
  | [], _ :: _ => by simp [Go.Lib.compareBytes]
  | _ :: _, [] => by simp [Go.Lib.compareBytes]
  | a :: x, b :: y => by
    have ih := cmp_zero x y
    unfold Go.Lib.compareBytes
    by_cases h : a < b
    · rw [if_pos h]
      constructor
      · intro h2; omega
      · intro h2
        injection h2 with h3 _
        subst h3
        exact absurd (UInt8.lt_iff_toNat_lt.1 h) (Nat.lt_irrefl _)
    · rw [if_neg h]
      by_cases h2 : b < a
      · rw [if_pos h2]
        constructor
        · intro h2; omega
        · intro h4
          injection h4 with h3 _
          subst h3
          exact absurd (UInt8.lt_iff_toNat_lt.1 h2) (Nat.lt_irrefl _)
      · rw [if_neg h2, ih]
        have h3 : a = b := by
          apply UInt8.toNat_inj.1
          have h4 : ¬ a.toNat < b.toNat := fun h5 => h (UInt8.lt_iff_toNat_lt.2 h5)
          have h6 : ¬ b.toNat < a.toNat := fun h5 => h2 (UInt8.lt_iff_toNat_lt.2 h5)
          omega
        simp [h3]
theorem bl_trans : ∀ a b c : List UInt8, Op.bytesLess a b = true → Op.bytesLess b c = true → Op.bytesLess a c = true
  | _, _, [], _, h => by simp [Op.bytesLess] at h
  | [], _, _ :: _, _, _ => rfl
  | _ :: _, [], _ :: _, h, _ => by simp [Op.bytesLess] at h
  | a :: x, b :: y, c :: z, h1, h2 => by
    have ih := bl_trans x y z
    unfold Op.bytesLess at h1 h2 ⊢
    simp only [Bool.or_eq_true, Bool.and_eq_true, decide_eq_true_eq, beq_iff_eq] at h1 h2 ⊢
    rcases h1 with h1 | ⟨rfl, h1⟩
    · rcases h2 with h2 | ⟨rfl, _⟩
      · exact .inl (UInt8.lt_iff_toNat_lt.2 (Nat.lt_trans (UInt8.lt_iff_toNat_lt.1 h1) (UInt8.lt_iff_toNat_lt.1 h2)))
      · exact .inl h1
    · rcases h2 with h2 | ⟨rfl, h2⟩
      · exact .inl h2
      · exact .inr ⟨rfl, ih h1 h2⟩
theorem bl_irr : ∀ a : List UInt8, Op.bytesLess a a = false
  | [] => rfl
  | a :: x => by
    have ih := bl_irr x
    unfold Op.bytesLess
    have : ¬ a < a := fun h => Nat.lt_irrefl _ (UInt8.lt_iff_toNat_lt.1 h)
    simp [ih, this]
/-! ### the parts of a good world are in order -/
theorem allP_lt (tk : Int) (l : List S91) (d : Nat) : ∀ (i : Nat), allP tk l d i = true → ∀ j : Nat, i ≤ j → j < i + d → 0 < j → Op.bytesLess (rd_T91 l ((j : Int) - 1)).f0.toList (rd_T91 l j).f0.toList = true := by
  induction d with
  | zero => intro i _ j h1 h2; omega
  | succ d ih =>
    intro i h j h1 h2 h3
    unfold allP at h
    simp only [Bool.and_eq_true] at h
    obtain ⟨_, h4, _, h5⟩ := h
    by_cases hij : j = i
    · subst hij
      unfold ltP at h4
      rw [if_pos (by omega)] at h4
      exact h4
    · exact ih (i + 1) (by rw [show ((i + 1 : Nat) : Int) = (i : Int) + 1 by omega]; exact h5) j (by omega) (by omega) h3
theorem ap_lt {tk : Int} {l : List S91} (h : AP tk l = true) : ∀ (m i j : Nat), m = j - i → i < j → j < l.length → Op.bytesLess (rd_T91 l i).f0.toList (rd_T91 l j).f0.toList = true := by
  unfold AP at h
  rw [Bool.and_eq_true] at h
  have h0 := allP_lt tk l l.length 0 h.1
  intro m
  induction m with
  | zero => intro i j h1 h2; omega
  | succ m ih =>
    intro i j h1 h2 h3
    have h4 := h0 j (by omega) (by omega) (by omega)
    by_cases hij : j = i + 1
    · subst hij
      rw [show (((i + 1 : Nat) : Int) - 1) = (i : Int) by omega] at h4
      exact h4
    · have h5 := ih i (j - 1) (by omega) (by omega) (by omega)
      rw [show ((j - 1 : Nat) : Int) = (j : Int) - 1 by omega] at h5
      exact bl_trans _ _ _ h5 h4
theorem allE_ap (m tk : Int) (l : List S76) (d : Nat) : ∀ (i : Nat), allE m tk l d i = true → ∀ j : Nat, i ≤ j → j < i + d → AP tk (rd_T76 l j).f1 = true := by
  induction d with
  | zero => intro i _ j h1 h2; omega
  | succ d ih =>
    intro i h j h1 h2
    unfold allE at h
    simp only [Bool.and_eq_true] at h
    obtain ⟨_, _, h4, h5⟩ := h
    by_cases hij : j = i
    · subst hij; exact h4
    · exact ih (i + 1) (by rw [show ((i + 1 : Nat) : Int) = (i : Int) + 1 by omega]; exact h5) j (by omega) (by omega)
theorem gw_ap {nx tk : Int} {l : List S76} (h : GW nx tk l = true) (j : Nat) (hj : j < l.length) : AP tk (rd_T76 l j).f1 = true := by
  unfold GW at h
  rw [Bool.and_eq_true] at h
  exact allE_ap _ tk l l.length 0 h.2 j (by omega) (by omega)
theorem ap_len {tk : Int} {l : List S91} (h : AP tk l = true) : l.length ≤ 12 := by
  unfold AP at h
  rw [Bool.and_eq_true, decide_eq_true_eq] at h
  omega
/-! ### one name among parts -/
def partFrom (x : ByteArray) : List S91 → Int → Int
  | [], _ => -1
  | p :: r, i => if p.f0.toList = x.toList then i else partFrom x r (i + 1)
theorem spart_go (x : ByteArray) (l : List S91) (hl : l.length ≤ 1048576) (d : Nat) : ∀ (k : Nat) (i : Nat), d < k → i + d = l.length → spec_l3Part.l0 k x l (l.length : Int) (i : Int) = some (partFrom x (l.drop i) (i : Int)) := by
  induction d with
  | zero =>
    intro k i hk hi
    obtain ⟨k, rfl⟩ : ∃ m, k = m + 1 := ⟨k - 1, by omega⟩
    rw [spec_l3Part.l0, if_neg (by omega), List.drop_eq_nil_of_le (by omega)]; rfl
  | succ d ih =>
    intro k i hk hi
    obtain ⟨k, rfl⟩ : ∃ m, k = m + 1 := ⟨k - 1, by omega⟩
    rw [spec_l3Part.l0, if_pos (by omega), if_pos (by omega), if_pos (by omega), w64 (n := (i : Int) + 1) (by omega) (by omega), show ((i : Int) + 1) = ((i + 1 : Nat) : Int) by omega, ih k (i + 1) (by omega) (by omega), List.drop_eq_getElem_cons (show i < l.length by omega), rd91_at (by omega)]
    show _ = some (if (l[i]).f0.toList = x.toList then (i : Int) else partFrom x (l.drop (i + 1)) ((i : Int) + 1))
    by_cases h : (l[i]).f0.toList = x.toList
    · rw [if_pos h, if_pos h]
    · rw [if_neg h, if_neg h]; rfl
theorem spart_eq (a : Int) (x : ByteArray) (l : List S91) (hl : l.length ≤ 1048576) (k : Nat) (hk : 1100000 ≤ k) : spec_l3Part.f k a l x = some (partFrom x l 0) := by
  unfold spec_l3Part.f
  exact spart_go x l hl l.length k 0 (by omega) (by omega)
theorem part_none (x : ByteArray) : ∀ (l : List S91) (i : Int), (∀ p ∈ l, p.f0.toList ≠ x.toList) → partFrom x l i = -1
  | [], _, _ => rfl
  | p :: r, i, h => by
    unfold partFrom
    rw [if_neg (h p (List.mem_cons_self ..))]
    exact part_none x r (i + 1) (fun q hq => h q (List.mem_cons_of_mem _ hq))
theorem part_at (x : ByteArray) : ∀ (l : List S91) (i : Int) (j : Nat) (hj : j < l.length), (l[j]).f0.toList = x.toList → (∀ (m : Nat) (hm : m < j), (l[m]'(by omega)).f0.toList ≠ x.toList) → partFrom x l i = i + j
  | [], _, _, hj, _, _ => by simp at hj
  | p :: r, i, 0, _, h, _ => by
    unfold partFrom
    rw [if_pos (by exact h)]; simp
  | p :: r, i, j + 1, hj, h, h2 => by
    unfold partFrom
    rw [if_neg (by exact h2 0 (by omega)), part_at x r (i + 1) j (by simpa using hj) (by exact h) (fun m hm => by exact h2 (m + 1) (by omega))]
    omega
theorem cmpstr_eq (a x : ByteArray) (b c : Int) : impl_Entity_place_1.f a b c x = some (Go.Lib.compareBytes a.data.toList x.data.toList) := by
  unfold impl_Entity_place_1.f strings_Compare.f bytealg_CompareString.f
  simp only [Option.bind_some]
theorem half_eq {i j : Nat} (h : i + j ≤ 2000000) : wrap64 ((IntKind.u64.wrap (wrap64 ((i : Int) + (j : Int)))) / 2) = (((i + j) / 2 : Nat) : Int) := by
  rw [w64 (n := (i : Int) + (j : Int)) (by omega) (by omega)]
  have h2 : IntKind.u64.wrap ((i : Int) + (j : Int)) = (i : Int) + (j : Int) := by
    unfold IntKind.wrap
    simp only [IntKind.bits, IntKind.signed]
    simp
    omega
  rw [h2, w64 (by omega) (by omega)]
  omega
theorem bs_go (x : ByteArray) (l : List S91) (hl : l.length ≤ 1000000)
    (hs : ∀ (m i j : Nat), m = j - i → i < j → j < l.length → Op.bytesLess (rd_T91 l i).f0.toList (rd_T91 l j).f0.toList = true) (d : Nat) :
    ∀ (k i j : Nat), d < k → i ≤ j → j ≤ l.length → j - i ≤ d → (∀ m : Nat, m < i → Op.bytesLess (rd_T91 l m).f0.toList x.toList = true) → (∀ m : Nat, j ≤ m → m < l.length → Op.bytesLess (rd_T91 l m).f0.toList x.toList = false) →
    ∃ (t : Nat) (b : Bool), slices_BinarySearchFunc_at101.l0 k l x (l.length : Int) (i : Int) (j : Int) = some ((t : Int), b) ∧ (b = true → t < l.length ∧ (rd_T91 l t).f0.toList = x.toList) ∧ (b = false → ∀ m : Nat, m < l.length → (rd_T91 l m).f0.toList ≠ x.toList) := by
  have stop : ∀ (k i : Nat), 0 < k → i ≤ l.length → (∀ m : Nat, m < i → Op.bytesLess (rd_T91 l m).f0.toList x.toList = true) → (∀ m : Nat, i ≤ m → m < l.length → Op.bytesLess (rd_T91 l m).f0.toList x.toList = false) →
      ∃ (t : Nat) (b : Bool), slices_BinarySearchFunc_at101.l0 k l x (l.length : Int) (i : Int) (i : Int) = some ((t : Int), b) ∧ (b = true → t < l.length ∧ (rd_T91 l t).f0.toList = x.toList) ∧ (b = false → ∀ m : Nat, m < l.length → (rd_T91 l m).f0.toList ≠ x.toList) := by
    intro k i hk hi h1 h2
    obtain ⟨k, rfl⟩ : ∃ m, k = m + 1 := ⟨k - 1, by omega⟩
    rw [slices_BinarySearchFunc_at101.l0, if_neg (by omega)]
    have low : ∀ m : Nat, m < i → (rd_T91 l m).f0.toList ≠ x.toList := by
      intro m hm e
      have h3 := h1 m hm
      rw [e, bl_irr] at h3
      cases h3
    by_cases hil : i < l.length
    · rw [if_pos (by omega), if_pos (by omega), if_pos (by omega), cmpstr_eq, Option.bind_some]
      refine ⟨i, _, rfl, fun hb => ⟨hil, ?_⟩, fun hb m hm => ?_⟩
      · rw [beq_iff_eq, cmp_zero] at hb
        rw [Lib.toList_data, Lib.toList_data]; exact hb
      · by_cases h3 : m < i
        · exact low m h3
        · by_cases h4 : m = i
          · subst h4
            rw [beq_eq_false_iff_ne] at hb
            intro e
            apply hb
            rw [cmp_zero, ← Lib.toList_data, ← Lib.toList_data]
            exact e
          · intro e
            have h5 := hs (m - i) i m rfl (by omega) hm
            rw [e, h2 i (Nat.le_refl _) hil] at h5
            cases h5
    · rw [if_neg (by omega)]
      exact ⟨i, false, rfl, fun hb => absurd hb (by simp), fun _ m hm => low m (by omega)⟩
  induction d with
  | zero =>
    intro k i j hk h1 h2 h3 h4 h5
    obtain rfl : i = j := by omega
    exact stop k i (by omega) h2 h4 h5
  | succ d ih =>
    intro k i j hk h1 h2 h3 h4 h5
    by_cases hij : i = j
    · subst hij
      exact stop k i (by omega) h2 h4 h5
    · obtain ⟨k, rfl⟩ : ∃ m, k = m + 1 := ⟨k - 1, by omega⟩
      rw [slices_BinarySearchFunc_at101.l0, if_pos (by omega), half_eq (by omega), if_pos (by omega), if_pos (by omega), cmpstr_eq, Option.bind_some]
      generalize hm : (i + j) / 2 = q at *
      have hq1 : i ≤ q := by omega
      have hq2 : q < j := by omega
      by_cases hc : Go.Lib.compareBytes (rd_T91 l (q : Int)).f0.data.toList x.data.toList < 0
      · rw [if_pos hc, w64 (n := (q : Int) + 1) (by omega) (by omega), show ((q : Int) + 1) = ((q + 1 : Nat) : Int) by omega]
        rw [cmp_neg, ← Lib.toList_data, ← Lib.toList_data] at hc
        refine ih k (q + 1) j (by omega) (by omega) h2 (by omega) (fun m hm2 => ?_) h5
        by_cases hmq : m = q
        · subst hmq; exact hc
        · exact bl_trans _ _ _ (hs (q - m) m q rfl (by omega) (by omega)) hc
      · rw [if_neg hc]
        rw [cmp_neg, ← Lib.toList_data, ← Lib.toList_data, Bool.not_eq_true] at hc
        refine ih k i q (by omega) hq1 (by omega) (by omega) h4 (fun m hm2 hm3 => ?_)
        by_cases hmq : m = q
        · subst hmq; exact hc
        · rw [← Bool.not_eq_true]
          intro h6
          have h7 := bl_trans _ _ _ (hs (m - q) q m rfl (by omega) hm3) h6
          rw [hc] at h7
          cases h7
theorem eplace_eq (tk a : Int) (x : ByteArray) (l : List S91) (h : AP tk l = true) (k : Nat) (hk : 1000 ≤ k) : ∃ (t : Int) (b : Bool), impl_Entity_place.f k a l x = some (t, b) ∧ (b = true → partFrom x l 0 = t ∧ 0 ≤ t ∧ t < l.length) ∧ (b = false → partFrom x l 0 = -1) := by
  have hl := ap_len h
  unfold impl_Entity_place.f slices_BinarySearchFunc_at101.f
  obtain ⟨t, b, h1, h2, h3⟩ := bs_go x l (by omega) (ap_lt h) l.length k 0 l.length (by omega) (by omega) (Nat.le_refl _) (by omega) (fun m hm => by omega) (fun m hm hm2 => by omega)
  rw [show ((0 : Nat) : Int) = 0 from rfl] at h1
  rw [h1, Option.bind_some]
  refine ⟨t, b, rfl, fun hb => ?_, fun hb => ?_⟩
  · obtain ⟨h4, h5⟩ := h2 hb
    rw [rd91_at h4] at h5
    refine ⟨?_, by omega, by omega⟩
    rw [part_at x l 0 t h4 h5 (fun m hm e => ?_)]
    · omega
    · have h6 := ap_lt h (t - m) m t rfl hm h4
      rw [rd91_at (by omega), rd91_at h4, e, h5, bl_irr] at h6
      cases h6
  · exact part_none x l 0 (fun p hp e => by
      obtain ⟨m, hm, rfl⟩ := List.getElem_of_mem hp
      have h4 := h3 hb m hm
      rw [rd91_at hm] at h4
      exact h4 e)

theorem bp_erase {l : List S91} (hs : BP l) (n : Nat) : BP (l.eraseIdx n) := by
  refine ⟨Nat.le_trans (List.length_eraseIdx_le _ _) hs.1, fun e he => hs.2 e (List.mem_of_mem_eraseIdx he)⟩
theorem be_set {l : List S76} (hs : BE l) (i : Nat) (v : S76) (hv : BP v.f1) : BE (l.set i v) := by
  refine ⟨by rw [List.length_set]; exact hs.1, fun e he => ?_⟩
  rcases List.mem_or_eq_of_mem_set he with h | rfl
  · exact hs.2 e h
  · exact hv
theorem dp_all (nx tk id : Int) (l : List S76) (x : ByteArray) (hs : BE l) (hx : x.size ≤ 1048576) (k : Nat) (hk : 4000000 ≤ k) : ∃ a b r c, spec_DropPart.f k nx tk l id x = some (a, b, r, c) ∧ impl_DropPart.f k nx tk l id x = some (a, b, r, c) ∧ BE r := by
  have hl := hs.1
  unfold spec_DropPart.f impl_DropPart.f impl_find.f
  rw [sworld_eq nx tk l hs k (by omega), iworld_eq nx tk l hs k (by omega), Option.bind_some, Option.bind_some]
  by_cases hg : GW nx tk l = true
  · rw [if_pos hg, if_pos hg, sown_eq nx tk l hs k (by omega), Option.bind_some]
    dsimp only
    unfold impl_World_place.f
    rw [if_pos (by omega), sname_eq x hx k (by omega), iname_eq x hx k (by omega), iclone_eq nx tk l hs k (by omega)]
    simp only [Option.bind_some]
    by_cases hn : GN x = true
    · rw [if_pos hn, if_pos hn, sat_eq nx tk id l hl k (by omega), Option.bind_some]
      rcases place_rng id l 0 with hp | ⟨h0, h1⟩
      · rw [hp, if_pos (by omega), if_pos (by omega), Option.bind_some]
        dsimp only
        rw [if_neg (by omega)]
        exact ⟨_, _, _, _, rfl, rfl, hs⟩
      · have n1 : ¬ placeFrom id l 0 < 0 := by omega
        have n5 : placeFrom id l 0 < (l.length : Int) := by omega
        generalize placeFrom id l 0 = p at *
        have hap : AP tk (rd_T76 l p).f1 = true := by
          have h2 := gw_ap hg p.toNat (by omega)
          rw [show ((p.toNat : Nat) : Int) = p by omega] at h2
          exact h2
        have hbp : BP (rd_T76 l p).f1 := hs.2 _ (rd76_mem h0 n5)
        have hpl := ap_len hap
        rw [if_neg n1, if_neg n1, if_pos h0, if_pos n5, spart_eq _ x _ hbp.1 k (by omega), Option.bind_some, Option.bind_some]
        dsimp only
        rw [if_pos rfl, if_pos h0, if_pos n5]
        obtain ⟨t, b, h2, h3, h4⟩ := eplace_eq tk ((rd_T76 l p).f0) x _ hap k (by omega)
        rw [h2, Option.bind_some]
        dsimp only
        cases b with
        | true =>
          obtain ⟨h5, h6, h7⟩ := h3 rfl
          rw [h5, if_neg (by omega), if_pos rfl]
          unfold spec_DropPart.out impl_DropPart.out
          rw [if_pos h7, if_pos (by omega), if_pos h6, if_pos h7]
          exact ⟨_, _, _, _, rfl, rfl, be_set hs _ _ (bp_erase hbp _)⟩
        | false =>
          rw [h4 rfl, if_pos (by omega), if_neg (by simp)]
          exact ⟨_, _, _, _, rfl, rfl, hs⟩
    · rw [if_neg hn, if_neg hn, Option.bind_some]
      dsimp only
      rw [if_neg (by omega)]
      exact ⟨_, _, _, _, rfl, rfl, hs⟩
  · rw [if_neg hg, if_neg hg, Option.bind_some]
    dsimp only
    rw [if_neg (by omega)]
    exact ⟨_, _, _, _, rfl, rfl, be_nil⟩
theorem law_all (a b id : Int) (l : List S125) (x : ByteArray) (hs : LenE l) : laws_FnExactDropPart.f 5000000 a b l id x = some true := by
  unfold laws_FnExactDropPart.f
  by_cases hx : (x.size : Int) > 1048576
  · rw [if_pos hx]
  rw [if_neg hx]
  obtain ⟨t, ht, h2⟩ := szw_eq a b l hs 5000000 (by omega)
  rw [ht, Option.bind_some]
  by_cases hneg : t < 0
  · rw [if_pos hneg]
  · have hb := h2 hneg
    have hm := be_map l hb
    rw [if_neg hneg, tow_eq a b l hb 5000000 (by omega), Option.bind_some]
    dsimp only
    generalize l.map cE = m at *
    obtain ⟨r1, r2, r3, r4, hsp, him, hr⟩ := dp_all a b id m x hm (by omega) 5000000 (by omega)
    rw [hsp, Option.bind_some, Option.bind_some]
    dsimp only
    rw [him, Option.bind_some]
    dsimp only
    rw [eqw_self r1 r2 r3 hr 5000000 (by omega), Option.bind_some, if_pos rfl, if_pos rfl, Option.bind_some]
    dsimp only
    rw [eqw_self a b m hm 5000000 (by omega), Option.bind_some, if_pos rfl]
    obtain ⟨c, ys, hc, hc0, _⟩ := wmark_tot a b m hm 5000000 (by omega)
    obtain ⟨e, zs, he, he0, hh⟩ := wmark_tot r1 r2 r3 hr 5000000 (by omega)
    rw [hc, Option.bind_some]
    dsimp only
    rw [if_neg (by omega), Option.bind_some, if_pos rfl, he, Option.bind_some]
    dsimp only
    rw [hh, Option.bind_some, if_neg (by omega), if_pos rfl, Option.bind_some]
    dsimp only
    rw [him, Option.bind_some]
    dsimp only
    rw [eqw_self r1 r2 r3 hr 5000000 (by omega), Option.bind_some, if_pos rfl, if_pos rfl, Option.bind_some, if_neg (by omega), if_pos rfl]
theorem law_pure : laws_FnExactDropPart.Pure := fun a b l id x _ _ hl _ _ => ⟨5000000, law_all a b id l x ⟨hl.1, fun e he => ⟨(hl.2 e he).2.1, fun p hp => ((hl.2 e he).2.2 p hp).1⟩⟩⟩

theorem FnExactDropPart : laws_FnExactDropPart.Pure := law_pure
end Go.Proofs.Ytjbkagmfkcoclaa.Pure
