/-
  A percentile: the spec puts each number in its place among those before it, the program sorts them all; both rows are the one sorted row.
-/
import Derived.Test.YtefhhbllmbgfmaaXFnExactPercentilex2
namespace Go.Proofs.Ytefhhbllmbgfmaa.Pure
open Go.RowKit Go.Proofs.Ytefhhbllmbgfmaa.XFnExactPercentile Go.Proofs.YtefhhbllmbgfmaaW.PrintWords Go.Proofs.YtefhhbllmbgfmaaW.PrintLast
set_option linter.unusedVariables false
set_option linter.unusedSimpArgs false
theorem w64 {n : Int} (h0 : -9223372036854775808 ≤ n) (h1 : n ≤ 9223372036854775807) : wrap64 n = n := by unfold wrap64; omega
theorem inRange_eq (a b c : Int) : impl_inRange.f a b c = some (decide (b ≤ a ∧ a ≤ c)) := by
  unfold impl_inRange.f
  by_cases h : b ≤ a
  · rw [if_pos h]; simp [h]
  · rw [if_neg h]; simp [h]
theorem l1In_eq (a b c : Int) : spec_l1In.f a b c = some (decide (b ≤ a ∧ a ≤ c)) := by
  unfold spec_l1In.f
  by_cases h : a ≥ b
  · rw [if_pos h]; simp [show b ≤ a from h]
  · rw [if_neg h]; simp [show ¬ b ≤ a from h]
theorem rd_at {l : List Int} {i : Nat} (h : i < l.length) : rd l (i : Int) = l[i] := by
  unfold rd
  rw [List.getD_eq_getElem?_getD, show ((i : Int)).toNat = i by omega, List.getElem?_eq_getElem h]; rfl
/-! ### sorted rows -/
def Srt (l : List Int) : Prop := l.Pairwise (fun a b : Int => a ≤ b)
theorem srt_srt (l : List Int) : Srt (impl_Percentile.srt l) := by
  refine (List.pairwise_mergeSort (le := fun x y : Int => decide (x ≤ y)) (fun a b c h1 h2 => ?_) (fun a b => ?_) l).imp (fun h => of_decide_eq_true h)
  · simp only [decide_eq_true_eq] at *; omega
  · simp only [Bool.or_eq_true, decide_eq_true_eq]; omega
theorem srt_perm (l : List Int) : (impl_Percentile.srt l).Perm l := List.mergeSort_perm l _
theorem srt_uniq {a b : List Int} (ha : Srt a) (hb : Srt b) (h : a.Perm b) : a = b :=
  List.Perm.eq_of_pairwise (le := fun a b : Int => a ≤ b) (fun a b _ _ h1 h2 => by omega) ha hb h
theorem srt_at {s : List Int} (hs : Srt s) {i j : Nat} (h : i ≤ j) (hj : j < s.length) : rd s i ≤ rd s j := by
  rw [rd_at (by omega), rd_at hj]
  rcases Nat.lt_or_eq_of_le h with h2 | rfl
  · exact (List.pairwise_iff_getElem.1 hs) i j (by omega) hj h2
  · exact Int.le_refl _
def posn (s : List Int) (x : Int) : Nat → Nat
  | 0 => 0
  | j + 1 => if rd s (j : Int) > x then posn s x j else j + 1
theorem posn_spec (s : List Int) (x : Int) : ∀ j : Nat, posn s x j ≤ j ∧ (∀ m : Nat, posn s x j ≤ m → m < j → rd s (m : Int) > x) ∧ (0 < posn s x j → rd s ((posn s x j - 1 : Nat) : Int) ≤ x)
  | 0 => ⟨Nat.le_refl _, fun m h1 h2 => by omega, fun h => by simp [posn] at h⟩
  | j + 1 => by
    obtain ⟨h1, h2, h3⟩ := posn_spec s x j
    unfold posn
    by_cases h : rd s (j : Int) > x
    · rw [if_pos h]
      refine ⟨by omega, fun m h4 h5 => ?_, h3⟩
      by_cases hm : m = j
      · subst hm; exact h
      · exact h2 m h4 (by omega)
    · rw [if_neg h]
      exact ⟨Nat.le_refl _, fun m h4 h5 => by omega, fun _ => by rw [Nat.add_sub_cancel]; omega⟩
def ins (s : List Int) (x : Int) : List Int := s.take (posn s x s.length) ++ [x] ++ s.drop (posn s x s.length)
theorem ins_perm (s : List Int) (x : Int) : (ins s x).Perm (s ++ [x]) := by
  unfold ins
  have h : (s.take (posn s x s.length) ++ [x] ++ s.drop (posn s x s.length)).Perm (s.take (posn s x s.length) ++ (s.drop (posn s x s.length) ++ [x])) := by
    rw [List.append_assoc]
    exact List.Perm.append_left _ List.perm_append_comm
  refine h.trans ?_
  rw [← List.append_assoc, List.take_append_drop]
theorem ins_srt {s : List Int} (hs : Srt s) (x : Int) : Srt (ins s x) := by
  obtain ⟨h1, h2, h3⟩ := posn_spec s x s.length
  unfold ins
  generalize posn s x s.length = p at *
  have ht : ∀ a ∈ s.take p, a ≤ x := by
    intro a ha
    obtain ⟨m, hm, rfl⟩ := List.getElem_of_mem ha
    rw [List.length_take] at hm
    rw [List.getElem_take]
    have h4 := srt_at hs (i := m) (j := p - 1) (by omega) (by omega)
    have h5 := h3 (by omega)
    rw [rd_at (by omega)] at h4
    omega
  have hd : ∀ a ∈ s.drop p, x ≤ a := by
    intro a ha
    obtain ⟨m, hm, rfl⟩ := List.getElem_of_mem ha
    rw [List.length_drop] at hm
    rw [List.getElem_drop]
    have h5 := h2 (p + m) (by omega) (by omega)
    rw [rd_at (by omega)] at h5
    omega
  have hsd : Srt (s.take p ++ s.drop p) := by rw [List.take_append_drop]; exact hs
  obtain ⟨q1, q2, q3⟩ := List.pairwise_append.1 hsd
  unfold Srt
  rw [List.append_assoc]
  refine List.pairwise_append.2 ⟨q1, List.pairwise_append.2 ⟨List.pairwise_singleton _ _, q2, fun a ha b hb => ?_⟩, fun a ha b hb => ?_⟩
  · obtain rfl := List.mem_singleton.1 ha
    exact hd b hb
  · rcases List.mem_append.1 hb with h | h
    · obtain rfl := List.mem_singleton.1 h
      exact ht a ha
    · exact q3 a ha b h
theorem ins_step (l : List Int) (i : Nat) (h : i < l.length) : ins (impl_Percentile.srt (l.take i)) (rd l (i : Int)) = impl_Percentile.srt (l.take (i + 1)) := by
  refine srt_uniq (ins_srt (srt_srt _) _) (srt_srt _) ?_
  refine (ins_perm _ _).trans (List.Perm.trans ?_ (srt_perm _).symm)
  rw [List.take_add_one, List.getElem?_eq_getElem h, rd_at h]
  exact (srt_perm _).append_right _
/-! ### the reference -/
theorem l1_go (p x : Int) (s l : List Int) (L i : Int) (hs : s.length ≤ 1000000) (R : Option (Int × Bool)) (k0 : Nat) : ∀ (j k : Nat), k0 + j < k → j ≤ s.length →
    (∀ k, k0 ≤ k → spec_Percentile.l0 k p (s.take (posn s x j) ++ [x] ++ s.drop (posn s x j)) l L (wrap64 (i + 1)) = R) → spec_Percentile.l1 k p s x (j : Int) l L i = R
  | 0, k, hk, hj, h => by
    obtain ⟨k, rfl⟩ : ∃ m, k = m + 1 := ⟨k - 1, by omega⟩
    have h2 := h k (by omega)
    rw [show posn s x 0 = 0 from rfl] at h2
    rw [spec_Percentile.l1, if_neg (by omega), if_pos (by omega), if_pos (by omega), Option.bind_some, if_pos (by simp), Option.bind_some, if_pos (by simp), Option.bind_some, Option.bind_some, if_pos (by simp; omega)]
    exact h2
  | j + 1, k, hk, hj, h => by
    obtain ⟨k, rfl⟩ : ∃ m, k = m + 1 := ⟨k - 1, by omega⟩
    have e1 : wrap64 (((j + 1 : Nat) : Int) - 1) = (j : Int) := by rw [w64 (by omega) (by omega)]; omega
    rw [spec_Percentile.l1, if_pos (by omega), e1, if_pos (by omega), if_pos (by omega)]
    by_cases hx : rd s (j : Int) > x
    · rw [if_pos hx]
      exact l1_go p x s l L i hs R k0 j k (by omega) (by omega) (fun k hk => by have h2 := h k hk; rw [show posn s x (j + 1) = posn s x j by rw [posn, if_pos hx]] at h2; exact h2)
    · have h2 := h k (by omega)
      rw [show posn s x (j + 1) = j + 1 by rw [posn, if_neg hx]] at h2
      rw [if_neg hx, if_pos (by omega), if_pos (by omega), show (((j + 1 : Nat) : Int)).toNat = j + 1 by omega, Option.bind_some, if_pos (by simp [List.length_take]; omega), Option.bind_some, if_pos (by simp [List.length_take]; omega), Option.bind_some, Option.bind_some, if_pos (by simp [List.length_take, List.length_drop]; omega)]
      exact h2
def inL (x : Int) : Bool := decide (-1000000000 ≤ x ∧ x ≤ 1000000000)
def ix (p : Int) (n : Nat) : Int := wrap64 (Int.tdiv (wrap64 ((wrap64 (p * (wrap64 ((n : Int) - 1)))) + 999)) 1000)
theorem ix_ok (p : Int) (n : Nat) (h0 : 0 ≤ p) (h1 : p ≤ 1000) (h2 : 1 ≤ n) (h3 : n ≤ 200) : 0 ≤ ix p n ∧ ix p n < n := by
  have hm0 : 0 ≤ p * ((n : Int) - 1) := Int.mul_nonneg h0 (by omega)
  have hm1 : p * ((n : Int) - 1) ≤ 1000 * ((n : Int) - 1) := Int.mul_le_mul_of_nonneg_right h1 (by omega)
  unfold ix
  rw [w64 (n := (n : Int) - 1) (by omega) (by omega), w64 (n := p * ((n : Int) - 1)) (by omega) (by omega), w64 (n := p * ((n : Int) - 1) + 999) (by omega) (by omega), Int.tdiv_eq_ediv_of_nonneg (by omega), w64 (by omega) (by omega)]
  omega
theorem l0_go (p : Int) (l : List Int) (hl : l.length ≤ 200) (h1 : 1 ≤ l.length) (hp0 : 0 ≤ p) (hp1 : p ≤ 1000) (d : Nat) : ∀ (k i : Nat), 300 * d < k → i + d = l.length →
    spec_Percentile.l0 k p (impl_Percentile.srt (l.take i)) l (l.length : Int) (i : Int) = some (if (l.drop i).all inL = true then (rd (impl_Percentile.srt l) (ix p l.length), true) else (0, false)) := by
  induction d with
  | zero =>
    intro k i hk hi
    obtain ⟨k, rfl⟩ : ∃ m, k = m + 1 := ⟨k - 1, by omega⟩
    have hsl : (impl_Percentile.srt l).length = l.length := List.length_mergeSort l
    obtain ⟨q0, q1⟩ := ix_ok p l.length hp0 hp1 h1 hl
    rw [spec_Percentile.l0, if_neg (by omega), List.take_of_length_le (by omega), hsl, List.drop_eq_nil_of_le (by omega)]
    show (if 0 ≤ ix p l.length then (if ix p l.length < (l.length : Int) then some (rd (impl_Percentile.srt l) (ix p l.length), true) else none) else none) = _
    rw [if_pos q0, if_pos q1]; rfl
  | succ d ih =>
    intro k i hk hi
    obtain ⟨k, rfl⟩ : ∃ m, k = m + 1 := ⟨k - 1, by omega⟩
    have hsl : (impl_Percentile.srt (l.take i)).length = i := by unfold impl_Percentile.srt; rw [List.length_mergeSort, List.length_take]; omega
    rw [spec_Percentile.l0, if_pos (by omega), if_pos (by omega), if_pos (by omega), l1In_eq, Option.bind_some, List.drop_eq_getElem_cons (show i < l.length by omega), List.all_cons, ← rd_at (show i < l.length by omega)]
    by_cases hx : -1000000000 ≤ rd l (i : Int) ∧ rd l (i : Int) ≤ 1000000000
    · rw [if_pos (decide_eq_true hx), show inL (rd l (i : Int)) = true from decide_eq_true hx, Bool.true_and]
      refine l1_go p (rd l (i : Int)) (impl_Percentile.srt (l.take i)) l (l.length : Int) (i : Int) (by omega) _ (300 * d + 1) _ k (by omega) (by omega) (fun k hk => ?_)
      have h2 := ins_step l i (by omega)
      unfold ins at h2
      rw [h2, w64 (n := (i : Int) + 1) (by omega) (by omega), show ((i : Int) + 1) = ((i + 1 : Nat) : Int) by omega]
      exact ih k (i + 1) (by omega) (by omega)
    · rw [if_neg (by simpa using hx), show inL (rd l (i : Int)) = false from decide_eq_false hx]; rfl
def res (p : Int) (l : List Int) : Int × Bool := if (1 ≤ (l.length : Int) ∧ (l.length : Int) ≤ 200) ∧ (0 ≤ p ∧ p ≤ 1000) ∧ l.all inL = true then (rd (impl_Percentile.srt l) (ix p l.length), true) else (0, false)
theorem spec_eq (p : Int) (l : List Int) (k : Nat) (hk : 100000 ≤ k) : spec_Percentile.f k l p = some (res p l) := by
  have jt : spec_Percentile.j0 k l p true = some (0, false) := by
    obtain ⟨k, rfl⟩ : ∃ m, k = m + 1 := ⟨k - 1, by omega⟩
    rw [spec_Percentile.j0, if_pos rfl]
  unfold spec_Percentile.f res
  by_cases h1 : (l.length : Int) < 1
  · rw [if_pos h1, jt, if_neg (by omega)]
  · rw [if_neg h1]
    by_cases h2 : (l.length : Int) > 200
    · rw [if_pos h2, jt, if_neg (by omega)]
    · rw [if_neg h2, l1In_eq, Option.bind_some]
      by_cases h3 : 0 ≤ p ∧ p ≤ 1000
      · rw [decide_eq_true h3]
        obtain ⟨k, rfl⟩ : ∃ m, k = m + 1 := ⟨k - 1, by omega⟩
        have h := l0_go p l (by omega) (by omega) h3.1 h3.2 l.length k 0 (by omega) (by omega)
        rw [show impl_Percentile.srt (l.take 0) = [] from by rw [List.take_zero]; simp [impl_Percentile.srt], show ((0 : Nat) : Int) = 0 from rfl, List.drop_zero] at h
        rw [show (!true) = false from rfl, spec_Percentile.j0, if_neg (by simp), h]
        by_cases h4 : l.all inL = true
        · rw [if_pos h4, if_pos ⟨by omega, h3, h4⟩]
        · rw [if_neg h4, if_neg (fun h5 => h4 h5.2.2)]
      · rw [decide_eq_false h3, show (!false) = true from rfl, jt, if_neg (fun h5 => h3 h5.2.1)]
/-! ### the program -/
theorem idx_go (l : List Int) (hl : l.length ≤ 1048576) (d : Nat) : ∀ (k i : Nat), d < k → i + d = l.length → ∃ r, slices_IndexFunc_at56.l0 k l (l.length : Int) (i : Int) = some r ∧ decide (r ≥ 0) = !(l.drop i).all inL := by
  induction d with
  | zero =>
    intro k i hk hi
    obtain ⟨k, rfl⟩ : ∃ m, k = m + 1 := ⟨k - 1, by omega⟩
    refine ⟨-1, by rw [slices_IndexFunc_at56.l0, if_neg (by omega)], ?_⟩
    rw [List.drop_eq_nil_of_le (by omega)]; rfl
  | succ d ih =>
    intro k i hk hi
    obtain ⟨k, rfl⟩ : ∃ m, k = m + 1 := ⟨k - 1, by omega⟩
    rw [slices_IndexFunc_at56.l0, if_pos (by omega), if_pos (by omega), if_pos (by omega)]
    unfold impl_Percentile_1.f
    rw [inRange_eq, Option.bind_some, Option.bind_some, List.drop_eq_getElem_cons (show i < l.length by omega), List.all_cons, ← rd_at (show i < l.length by omega)]
    by_cases hx : -1000000000 ≤ rd l (i : Int) ∧ rd l (i : Int) ≤ 1000000000
    · rw [decide_eq_true hx, if_neg (by simp), show inL (rd l (i : Int)) = true from decide_eq_true hx, Bool.true_and, w64 (n := (i : Int) + 1) (by omega) (by omega), show ((i : Int) + 1) = ((i + 1 : Nat) : Int) by omega]
      exact ih k (i + 1) (by omega) (by omega)
    · rw [decide_eq_false hx, if_pos (by simp), show inL (rd l (i : Int)) = false from decide_eq_false hx]
      exact ⟨i, rfl, by simp⟩
theorem cont_eq (l : List Int) (hl : l.length ≤ 1048576) (k : Nat) (hk : 1048600 ≤ k) : slices_ContainsFunc_at56.f k l = some (!l.all inL) := by
  unfold slices_ContainsFunc_at56.f slices_IndexFunc_at56.f
  obtain ⟨r, h1, h2⟩ := idx_go l hl l.length k 0 (by omega) (by omega)
  rw [show ((0 : Nat) : Int) = 0 from rfl] at h1
  rw [h1, Option.bind_some, h2, List.drop_zero]
theorem impl_eq (p : Int) (l : List Int) (hl : l.length ≤ 1048576) (k : Nat) (hk : 1048600 ≤ k) : impl_Percentile.f k l p = some (res p l) := by
  unfold impl_Percentile.f res
  rw [inRange_eq, Option.bind_some]
  by_cases h1 : 1 ≤ (l.length : Int) ∧ (l.length : Int) ≤ 200
  · rw [if_pos (decide_eq_true h1), inRange_eq, Option.bind_some]
    by_cases h3 : 0 ≤ p ∧ p ≤ 1000
    · rw [if_pos (decide_eq_true h3), cont_eq l hl k hk, Option.bind_some]
      by_cases h4 : l.all inL = true
      · obtain ⟨q0, q1⟩ := ix_ok p l.length h3.1 h3.2 (by omega) (by omega)
        have hc : (1 ≤ (l.length : Int) ∧ (l.length : Int) ≤ 200) ∧ (0 ≤ p ∧ p ≤ 1000) ∧ true = true := ⟨h1, h3, rfl⟩
        rw [h4, if_neg (by simp), if_pos hc]
        show (if 0 ≤ ix p l.length then (if ix p l.length < (l.length : Int) then some (rd (impl_Percentile.srt l) (ix p l.length), true) else none) else none) = _
        rw [if_pos q0, if_pos q1]
      · rw [Bool.eq_false_iff.2 h4, if_pos (by simp), if_neg (fun h5 => by have h6 := h5.2.2; cases h6)]
    · rw [if_neg (by simpa using h3), if_neg (fun h5 => h3 h5.2.1)]
  · rw [if_neg (by simpa using h1), if_neg (fun h5 => h1 h5.1)]
/-! ### the law -/
theorem toi_go (l : List Int) (hl : l.length ≤ 1048576) (d : Nat) : ∀ (k : Nat) (ys : List Int) (i : Nat), d < k → i + d = l.length → ys.length = l.length → (∀ j, j < i → ys[j]? = l[j]?) → laws_toIntS.l0 k l ys (i : Int) = some l := by
  induction d with
  | zero =>
    intro k ys i hk hi hy h
    obtain ⟨k, rfl⟩ : ∃ m, k = m + 1 := ⟨k - 1, by omega⟩
    rw [laws_toIntS.l0, if_neg (by omega)]
    congr 1
    apply List.ext_getElem?
    intro j
    by_cases hj : j < i
    · exact h j hj
    · rw [List.getElem?_eq_none (by omega), List.getElem?_eq_none (by omega)]
  | succ d ih =>
    intro k ys i hk hi hy h
    obtain ⟨k, rfl⟩ : ∃ m, k = m + 1 := ⟨k - 1, by omega⟩
    rw [laws_toIntS.l0, if_pos (by omega), if_pos (by omega), if_pos (by omega), w64 (n := (i : Int) + 1) (by omega) (by omega), show ((i : Int) + 1) = ((i + 1 : Nat) : Int) by omega, show ((i : Int)).toNat = i by omega]
    refine ih k _ (i + 1) (by omega) (by omega) (by rw [List.length_set]; exact hy) (fun j hj => ?_)
    by_cases hji : j = i
    · subst hji
      rw [List.getElem?_set_self (by omega), List.getElem?_eq_getElem (by omega), rd_at (by omega)]
    · rw [List.getElem?_set_ne (by omega)]
      exact h j (by omega)
theorem toi_eq (l : List Int) (hl : l.length ≤ 1048576) (k : Nat) (hk : 1048600 ≤ k) : laws_toIntS.f k l = some l := by
  unfold laws_toIntS.f
  rw [if_pos (by omega), if_pos (by omega)]
  exact toi_go l hl l.length k _ 0 (by omega) (by omega) (by simp) (fun j hj => by omega)
theorem eqi_go (l : List Int) (hl : l.length ≤ 1048576) (d : Nat) : ∀ (k i : Nat), d < k → i + d = l.length → laws_eqIntS.l0 k l l (i : Int) = some true := by
  induction d with
  | zero =>
    intro k i hk hi
    obtain ⟨k, rfl⟩ : ∃ m, k = m + 1 := ⟨k - 1, by omega⟩
    rw [laws_eqIntS.l0, if_neg (by omega)]
  | succ d ih =>
    intro k i hk hi
    obtain ⟨k, rfl⟩ : ∃ m, k = m + 1 := ⟨k - 1, by omega⟩
    rw [laws_eqIntS.l0, if_pos (by omega), if_pos (by omega), if_pos (by omega), if_pos rfl, w64 (n := (i : Int) + 1) (by omega) (by omega), show ((i : Int) + 1) = ((i + 1 : Nat) : Int) by omega]
    exact ih k (i + 1) (by omega) (by omega)
theorem eqi_self (l : List Int) (hl : l.length ≤ 1048576) (k : Nat) (hk : 1048600 ≤ k) : laws_eqIntS.f k l l = some true := by
  unfold laws_eqIntS.f
  rw [if_pos rfl]
  exact eqi_go l hl l.length k 0 (by omega) (by omega)
theorem law_all (l : List Int) (p : Int) : laws_FnExactPercentile.f 2000000 l p = some true := by
  unfold laws_FnExactPercentile.f
  by_cases hx : (l.length : Int) > 1048576
  · rw [if_pos hx]
  · have hl : l.length ≤ 1048576 := by omega
    rw [if_neg hx, toi_eq l hl 2000000 (by omega), Option.bind_some, spec_eq p l 2000000 (by omega), Option.bind_some, Option.bind_some, impl_eq p l hl 2000000 (by omega), Option.bind_some, if_pos rfl, if_neg (by simp), Option.bind_some, eqi_self l hl 2000000 (by omega), Option.bind_some, if_pos rfl]
theorem law_pure : laws_FnExactPercentile.Pure := fun l p _ _ _ _ => ⟨2000000, law_all l p⟩

theorem FnExactPercentile : laws_FnExactPercentile.Pure := law_pure
end Go.Proofs.Ytefhhbllmbgfmaa.Pure
