/-
  The law of the painted boxes, in plain numbers.
-/
import Derived.Test.YtnebjoanfknmeaaXFnExactPaintBoxx6
namespace Go.Proofs.Ytnebjoanfknmeaa.Pure
open Go.RowKit Go.Proofs.Ytnebjoanfknmeaa.XFnExactPaintBox Go.Proofs.YtnebjoanfknmeaaW.PrintWords Go.Proofs.YtnebjoanfknmeaaW.PrintLast
set_option linter.unusedVariables false
set_option linter.unusedSimpArgs false
theorem w64 {n : Int} (h0 : -9223372036854775808 ≤ n) (h1 : n ≤ 9223372036854775807) : wrap64 n = n := by unfold wrap64; omega
theorem rd_nat (xs : List Int) (i : Nat) : rd xs (i : Int) = xs.getD i 0 := by simp [rd]
/-! ### lists of numbers: copied, compared, marked -/
theorem toIntS_go (l : List Int) (hl : l.length ≤ 1048576) (d : Nat) : ∀ (k : Nat) (ys : List Int) (i : Nat), d < k → i + d = l.length → ys.length = l.length → (∀ j, j < i → ys[j]? = l[j]?) → laws_toIntS.l0 k l ys (i : Int) = some l := by
  induction d with
  | zero =>
    intro k ys i hk hi hy hp
    obtain ⟨k, rfl⟩ : ∃ m, k = m + 1 := ⟨k - 1, by omega⟩
    simp only [laws_toIntS.l0]
    rw [if_neg (by omega)]
    congr 1
    apply List.ext_getElem?
    intro j
    by_cases hj : j < i
    · exact hp j hj
    · rw [List.getElem?_eq_none (by omega), List.getElem?_eq_none (by omega)]
  | succ d ih =>
    intro k ys i hk hi hy hp
    obtain ⟨k, rfl⟩ : ∃ m, k = m + 1 := ⟨k - 1, by omega⟩
    simp only [laws_toIntS.l0]
    rw [if_pos (by omega), if_pos (by omega), if_pos (by omega), w64 (by omega) (by omega)]
    have := ih k (ys.set i (rd l (i : Int))) (i + 1) (by omega) (by omega) (by simpa using hy) (by
      intro j hj
      by_cases hji : j = i
      · subst hji
        rw [List.getElem?_set_self (by omega), List.getElem?_eq_getElem (by omega), rd_nat, List.getD_eq_getElem?_getD, List.getElem?_eq_getElem (by omega)]
        rfl
      · rw [List.getElem?_set_ne (by omega)]
        exact hp j (by omega))
    simpa using this
theorem toIntS_eq (l : List Int) (hl : l.length ≤ 1048576) (k : Nat) (hk : l.length < k) : laws_toIntS.f k l = some l := by
  unfold laws_toIntS.f
  rw [if_pos (by omega), if_pos (by omega)]
  exact toIntS_go l hl l.length k _ 0 hk (by omega) (by simp) (fun j hj => by omega)
theorem eqIntS_go (l : List Int) (hl : l.length ≤ 1048576) (d : Nat) : ∀ (k : Nat) (i : Nat), d < k → i + d = l.length → laws_eqIntS.l0 k l l (i : Int) = some true := by
  induction d with
  | zero =>
    intro k i hk hi
    obtain ⟨k, rfl⟩ : ∃ m, k = m + 1 := ⟨k - 1, by omega⟩
    simp only [laws_eqIntS.l0]
    rw [if_neg (by omega)]
  | succ d ih =>
    intro k i hk hi
    obtain ⟨k, rfl⟩ : ∃ m, k = m + 1 := ⟨k - 1, by omega⟩
    simp only [laws_eqIntS.l0]
    rw [if_pos (by omega), if_pos (by omega), if_pos (by omega), if_pos trivial, w64 (by omega) (by omega)]
    simpa using ih k (i + 1) (by omega) (by omega)
theorem eqIntS_self (l : List Int) (hl : l.length ≤ 1048576) (k : Nat) (hk : l.length < k) : laws_eqIntS.f k l l = some true := by
  unfold laws_eqIntS.f
  rw [if_pos rfl]
  exact eqIntS_go l hl l.length k 0 hk (by omega)
/-- The marks: c, c + 1, .. -/
def marks (c : Int) : Nat → List Int
  | 0 => []
  | n + 1 => c :: marks (c + 1) n
theorem marks_length (n : Nat) : ∀ c, (marks c n).length = n := by
  induction n with
  | zero => intro c; rfl
  | succ n ih => intro c; simp [marks, ih]
theorem markIntS_go (d : Nat) : ∀ (k : Nat) (xs : List Int) (c : Int) (i : Nat), d < k → i + d = xs.length → xs.length ≤ 1048576 → 0 ≤ c → c + d ≤ 4611686018427387904 → laws_markIntS.l0 k xs c (i : Int) = some (c + d, xs.take i ++ marks c d) := by
  induction d with
  | zero =>
    intro k xs c i hk hi hl h0 h1
    obtain ⟨k, rfl⟩ : ∃ m, k = m + 1 := ⟨k - 1, by omega⟩
    simp only [laws_markIntS.l0]
    rw [if_neg (by omega), List.take_of_length_le (by omega)]
    simp [marks]
  | succ d ih =>
    intro k xs c i hk hi hl h0 h1
    obtain ⟨k, rfl⟩ : ∃ m, k = m + 1 := ⟨k - 1, by omega⟩
    simp only [laws_markIntS.l0]
    rw [if_pos (by omega), if_pos (by omega), w64 (n := c + 1) (by omega) (by omega), w64 (n := (i : Int) + 1) (by omega) (by omega)]
    have := ih k (xs.set i c) (c + 1) (i + 1) (by omega) (by simp; omega) (by simpa using hl) (by omega) (by omega)
    simp only [Int.toNat_natCast]
    rw [show ((i : Int) + 1) = ((i + 1 : Nat) : Int) by omega, this]
    have e : List.take (i + 1) (xs.set i c) = xs.take i ++ [c] := by
      rw [List.take_succ_eq_append_getElem (by simp; omega), List.take_set_of_le (by omega)]
      simp
    rw [e, List.append_assoc]
    congr 2
    omega
theorem markIntS_eq (xs : List Int) (hl : xs.length ≤ 1048576) (k : Nat) (hk : xs.length < k) (c : Int) (h0 : 0 ≤ c) (h1 : c ≤ 1152921504606846976) : laws_markIntS.f k xs c = some (c + xs.length, marks c xs.length) := by
  unfold laws_markIntS.f
  have := markIntS_go xs.length k xs c 0 hk (by omega) hl h0 (by omega)
  simpa using this
theorem marks_get (n : Nat) : ∀ (c : Int) (i : Nat), i < n → (marks c n)[i]? = some (c + i) := by
  induction n with
  | zero => intro c i h; omega
  | succ n ih =>
    intro c i h
    cases i with
    | zero => simp [marks]
    | succ i => simp only [marks, List.getElem?_cons_succ]; rw [ih (c + 1) i (by omega)]; congr 1; omega
theorem heldIntS_go (n : Nat) (c : Int) (h0 : 0 ≤ c) (h1 : c + n ≤ 4611686018427387904) (hn : n ≤ 1048576) (d : Nat) : ∀ (k : Nat) (i : Nat), d < k → i + d = n → laws_heldIntS.l0 k (marks c n) (c + i) (i : Int) = some (c + n) := by
  induction d with
  | zero =>
    intro k i hk hi
    obtain ⟨k, rfl⟩ : ∃ m, k = m + 1 := ⟨k - 1, by omega⟩
    simp only [laws_heldIntS.l0]
    rw [if_neg (by rw [marks_length]; omega)]
    congr 1; omega
  | succ d ih =>
    intro k i hk hi
    obtain ⟨k, rfl⟩ : ∃ m, k = m + 1 := ⟨k - 1, by omega⟩
    simp only [laws_heldIntS.l0]
    have e : rd (marks c n) (i : Int) = c + i := by
      rw [rd_nat, List.getD_eq_getElem?_getD, marks_get n c i (by omega)]
      rfl
    rw [if_pos (by rw [marks_length]; omega), if_pos (by omega), if_pos e, w64 (n := c + i + 1) (by omega) (by omega), w64 (n := (i : Int) + 1) (by omega) (by omega)]
    have := ih k (i + 1) (by omega) (by omega)
    rw [show c + (i : Int) + 1 = c + ((i + 1 : Nat) : Int) by omega]
    simpa using this
theorem heldIntS_eq (n : Nat) (c : Int) (h0 : 0 ≤ c) (h1 : c ≤ 1152921504606846976) (hn : n ≤ 1048576) (k : Nat) (hk : n < k) : laws_heldIntS.f k (marks c n) c = some (c + n) := by
  unfold laws_heldIntS.f
  have := heldIntS_go n c h0 (by omega) hn n k 0 hk (by omega)
  simpa using this
/-! ### sheets -/
theorem inRange_eq (a b c : Int) : impl_inRange.f a b c = some (decide (b ≤ a ∧ a ≤ c)) := by
  unfold impl_inRange.f
  split
  · rename_i h; simp [h]
  · rename_i h; simp [h]
theorem l1In_eq (a b c : Int) : spec_l1In.f a b c = some (decide (b ≤ a ∧ a ≤ c)) := by
  unfold spec_l1In.f
  split
  · rename_i h; simp [show b ≤ a from h]
  · rename_i h; simp [show ¬ b ≤ a from h]
theorem toSheet_eq (w h : Int) (l : List Int) (hl : l.length ≤ 1048576) (k : Nat) (hk : l.length < k) : laws_toSheet.f k w h l = some (w, h, l) := by
  unfold laws_toSheet.f
  rw [toIntS_eq l hl k hk]; rfl
theorem eqSheet_self (w h : Int) (l : List Int) (hl : l.length ≤ 1048576) (k : Nat) (hk : l.length < k) : laws_eqSheet.f k w h l w h l = some true := by
  unfold laws_eqSheet.f
  rw [if_pos rfl, if_pos rfl, eqIntS_self l hl k hk]; rfl
theorem markSheet_eq (w h : Int) (l : List Int) (hl : l.length ≤ 1048576) (k : Nat) (hk : l.length < k) : laws_markSheet.f k w h l 1 = some ((1 : Int) + l.length, marks 1 l.length) := by
  unfold laws_markSheet.f
  rw [markIntS_eq l hl k hk 1 (by omega) (by omega)]; rfl
theorem heldSheet_eq (w h : Int) (n : Nat) (hn : n ≤ 1048576) (k : Nat) (hk : n < k) : laws_heldSheet.f k w h (marks 1 n) 1 = some ((1 : Int) + n) := by
  unfold laws_heldSheet.f
  rw [heldIntS_eq n 1 (by omega) (by omega) hn k hk, Option.bind_some, if_neg (by omega)]
theorem szSheet_eq (w h : Int) (l : List Int) (hl : l.length ≤ 9223372036854775807) : ∃ t, laws_szSheet.f w h l 1048576 = some t ∧ (¬ t < 0 → l.length ≤ 1048576) := by
  unfold laws_szSheet.f laws_szIntS.f
  rw [w64 (n := 1048576 - (l.length : Int)) (by omega) (by omega)]
  split
  · exact ⟨-1, by simp, fun h => by omega⟩
  · rename_i hc
    rw [Option.bind_some, if_neg hc]
    exact ⟨_, rfl, fun _ => by omega⟩
/-- Are these pixels of a good sheet? -/
def GoodS (w h : Int) (l : List Int) : Prop := (1 ≤ w ∧ w ≤ 24) ∧ (1 ≤ h ∧ h ≤ 24) ∧ (l.length : Int) = w * h ∧ ∀ x ∈ l, 0 ≤ x ∧ x ≤ 16777215
theorem side_le {w h : Int} (hw : 1 ≤ w ∧ w ≤ 24) (hh : 1 ≤ h ∧ h ≤ 24) : 1 ≤ w * h ∧ w * h ≤ 576 := by
  have h1 := Int.mul_le_mul_of_nonneg_right hw.2 (show 0 ≤ h by omega)
  have h2 := Int.mul_le_mul_of_nonneg_right hw.1 (show 0 ≤ h by omega)
  omega
theorem rd_mem {l : List Int} {i : Nat} (h : i < l.length) : rd l (i : Int) ∈ l := by
  rw [rd_nat, List.getD_eq_getElem?_getD, List.getElem?_eq_getElem h]
  exact List.getElem_mem h
theorem sgood_go (l : List Int) (hl : l.length ≤ 1048576) (d : Nat) : ∀ (k : Nat) (i : Nat), d < k → i + d = l.length →
    spec_GoodSheet.l0 k l (l.length : Int) (i : Int) = some (decide (∀ x ∈ l.drop i, 0 ≤ x ∧ x ≤ 16777215)) := by
  induction d with
  | zero =>
    intro k i hk hi
    obtain ⟨k, rfl⟩ : ∃ m, k = m + 1 := ⟨k - 1, by omega⟩
    simp only [spec_GoodSheet.l0]
    rw [if_neg (by omega), List.drop_of_length_le (by omega)]
    simp
  | succ d ih =>
    intro k i hk hi
    obtain ⟨k, rfl⟩ : ∃ m, k = m + 1 := ⟨k - 1, by omega⟩
    simp only [spec_GoodSheet.l0]
    rw [if_pos (by omega), if_pos (by omega), if_pos (by omega)]
    unfold spec_l20Color.f
    rw [l1In_eq, Option.bind_some, Option.bind_some, List.drop_eq_getElem_cons (by omega)]
    have e : rd l (i : Int) = l[i] := by rw [rd_nat, List.getD_eq_getElem?_getD, List.getElem?_eq_getElem (by omega)]; rfl
    rw [e]
    by_cases hx : 0 ≤ l[i] ∧ l[i] ≤ 16777215
    · rw [decide_eq_true hx, if_pos rfl, w64 (by omega) (by omega)]
      have := ih k (i + 1) (by omega) (by omega)
      rw [show ((i : Int) + 1) = ((i + 1 : Nat) : Int) by omega, this]
      congr 1
      rw [decide_eq_decide]
      constructor
      · intro h x hm
        rcases List.mem_cons.1 hm with rfl | hm
        · exact hx
        · exact h x hm
      · intro h x hm
        exact h x (List.mem_cons_of_mem _ hm)
    · rw [decide_eq_false hx, if_neg (by decide)]
      congr 1
      symm
      rw [decide_eq_false_iff_not]
      intro h
      exact hx (h _ List.mem_cons_self)
theorem sgood_bad (k : Nat) (hk : 1 ≤ k) (w h : Int) (l : List Int) : spec_GoodSheet.j0 k true w h l = some false := by
  obtain ⟨k, rfl⟩ : ∃ m, k = m + 1 := ⟨k - 1, by omega⟩
  simp [spec_GoodSheet.j0]
instance (w h : Int) (l : List Int) : Decidable (GoodS w h l) := by unfold GoodS; exact inferInstance
theorem sgood_eq (w h : Int) (l : List Int) (hl : l.length ≤ 1048576) (k : Nat) (hk : l.length + 1 < k) : spec_GoodSheet.f k w h l = some (decide (GoodS w h l)) := by
  unfold spec_GoodSheet.f
  rw [l1In_eq, Option.bind_some]
  by_cases h1 : 1 ≤ w ∧ w ≤ 24
  · rw [decide_eq_true h1, if_pos rfl, l1In_eq, Option.bind_some]
    by_cases h2 : 1 ≤ h ∧ h ≤ 24
    · rw [decide_eq_true h2, if_pos rfl]
      have hs := side_le h1 h2
      rw [w64 (by omega) (by omega)]
      obtain ⟨k, rfl⟩ : ∃ m, k = m + 1 := ⟨k - 1, by omega⟩
      simp only [spec_GoodSheet.j0]
      by_cases h3 : (l.length : Int) = w * h
      · rw [if_neg (by simp [h3])]
        have := sgood_go l hl l.length k 0 (by omega) (by omega)
        rw [show ((0 : Nat) : Int) = 0 from rfl] at this
        rw [this]
        congr 1
        rw [decide_eq_decide]
        simp only [List.drop_zero, GoodS]
        exact ⟨fun h4 => ⟨h1, h2, h3, h4⟩, fun h4 => h4.2.2.2⟩
      · rw [if_pos (by simpa using h3)]
        congr 1
        symm
        rw [decide_eq_false_iff_not]
        exact fun h4 => h3 h4.2.2.1
    · rw [decide_eq_false h2, if_neg (by decide), sgood_bad k (by omega)]
      congr 1
      symm
      rw [decide_eq_false_iff_not]
      exact fun h4 => h2 h4.2.1
  · rw [decide_eq_false h1, if_neg (by decide), sgood_bad k (by omega)]
    congr 1
    symm
    rw [decide_eq_false_iff_not]
    exact fun h4 => h1 h4.1
theorem igood_go (l : List Int) (hl : l.length ≤ 1048576) (d : Nat) : ∀ (k : Nat) (i : Nat), d < k → i + d = l.length →
    ∃ r, slices_IndexFunc_at104.l0 k l (l.length : Int) (i : Int) = some r ∧ (r ≥ 0 ↔ ¬ ∀ x ∈ l.drop i, 0 ≤ x ∧ x ≤ 16777215) := by
  induction d with
  | zero =>
    intro k i hk hi
    obtain ⟨k, rfl⟩ : ∃ m, k = m + 1 := ⟨k - 1, by omega⟩
    simp only [slices_IndexFunc_at104.l0]
    rw [if_neg (by omega), List.drop_of_length_le (by omega)]
    exact ⟨-1, rfl, by simp⟩
  | succ d ih =>
    intro k i hk hi
    obtain ⟨k, rfl⟩ : ∃ m, k = m + 1 := ⟨k - 1, by omega⟩
    simp only [slices_IndexFunc_at104.l0]
    rw [if_pos (by omega), if_pos (by omega), if_pos (by omega)]
    unfold impl_GoodSheet_1.f impl_isColor.f
    rw [inRange_eq, Option.bind_some, Option.bind_some, Option.bind_some, List.drop_eq_getElem_cons (by omega)]
    have e : rd l (i : Int) = l[i] := by rw [rd_nat, List.getD_eq_getElem?_getD, List.getElem?_eq_getElem (by omega)]; rfl
    rw [e]
    by_cases hx : 0 ≤ l[i] ∧ l[i] ≤ 16777215
    · rw [decide_eq_true hx, if_neg (by decide), w64 (by omega) (by omega)]
      obtain ⟨r, hr, hri⟩ := ih k (i + 1) (by omega) (by omega)
      refine ⟨r, by rw [show ((i : Int) + 1) = ((i + 1 : Nat) : Int) by omega, hr], ?_⟩
      refine hri.trans (not_congr ?_)
      constructor
      · intro h x hm
        rcases List.mem_cons.1 hm with rfl | hm
        · exact hx
        · exact h x hm
      · intro h x hm
        exact h x (List.mem_cons_of_mem _ hm)
    · rw [decide_eq_false hx, if_pos (by decide)]
      refine ⟨_, rfl, ?_⟩
      constructor
      · intro _ h
        exact hx (h _ List.mem_cons_self)
      · intro _; omega
theorem igood_eq (w h : Int) (l : List Int) (hl : l.length ≤ 1048576) (k : Nat) (hk : l.length + 1 < k) : impl_GoodSheet.f k w h l = some (decide (GoodS w h l)) := by
  unfold impl_GoodSheet.f
  rw [inRange_eq, Option.bind_some]
  by_cases h1 : 1 ≤ w ∧ w ≤ 24
  · rw [decide_eq_true h1, if_pos rfl, inRange_eq, Option.bind_some]
    by_cases h2 : 1 ≤ h ∧ h ≤ 24
    · rw [decide_eq_true h2, if_pos rfl]
      have hs := side_le h1 h2
      rw [w64 (by omega) (by omega)]
      by_cases h3 : (l.length : Int) = w * h
      · rw [if_pos h3]
        unfold slices_ContainsFunc_at104.f slices_IndexFunc_at104.f
        obtain ⟨r, hr, hri⟩ := igood_go l hl l.length k 0 (by omega) (by omega)
        rw [show ((0 : Nat) : Int) = 0 from rfl] at hr
        rw [hr, Option.bind_some, Option.bind_some]
        congr 1
        rw [← decide_not, decide_eq_decide, hri, Classical.not_not, List.drop_zero]
        exact ⟨fun h4 => ⟨h1, h2, h3, h4⟩, fun h4 => h4.2.2.2⟩
      · rw [if_neg h3]
        congr 1
        symm
        rw [decide_eq_false_iff_not]
        exact fun h4 => h3 h4.2.2.1
    · rw [decide_eq_false h2, if_neg (by decide)]
      congr 1
      symm
      rw [decide_eq_false_iff_not]
      exact fun h4 => h2 h4.2.1
  · rw [decide_eq_false h1, if_neg (by decide)]
    congr 1
    symm
    rw [decide_eq_false_iff_not]
    exact fun h4 => h1 h4.1
/-- A pixel is painted, where it is on the sheet. -/
def PT (w h : Int) (l : List Int) (x y c : Int) : List Int := if (0 ≤ x ∧ x ≤ w - 1) ∧ (0 ≤ y ∧ y ≤ h - 1) then l.set (y * w + x).toNat c else l
theorem PT_length (w h : Int) (l : List Int) (x y c : Int) : (PT w h l x y c).length = l.length := by
  unfold PT; split <;> simp
theorem place_lt {w h x y : Int} (hw : 1 ≤ w ∧ w ≤ 24) (hh : 1 ≤ h ∧ h ≤ 24) (hx : 0 ≤ x ∧ x ≤ w - 1) (hy : 0 ≤ y ∧ y ≤ h - 1) : 0 ≤ y * w ∧ y * w + x < w * h := by
  have h1 := Int.mul_nonneg hy.1 (show 0 ≤ w by omega)
  have h2 := Int.mul_le_mul_of_nonneg_right hy.2 (show 0 ≤ w by omega)
  rw [Int.sub_mul, Int.one_mul, Int.mul_comm h w] at h2
  omega
theorem sput_eq (w h : Int) (l : List Int) (hw : 1 ≤ w ∧ w ≤ 24) (hh : 1 ≤ h ∧ h ≤ 24) (hl : (l.length : Int) = w * h) (x y c : Int) : spec_l20Put.f w h l x y c = some (PT w h l x y c) := by
  unfold spec_l20Put.f PT
  have hs := side_le hw hh
  rw [w64 (n := w - 1) (by omega) (by omega), w64 (n := h - 1) (by omega) (by omega), l1In_eq, Option.bind_some]
  by_cases hx : 0 ≤ x ∧ x ≤ w - 1
  · rw [decide_eq_true hx, if_pos rfl, l1In_eq, Option.bind_some]
    by_cases hy : 0 ≤ y ∧ y ≤ h - 1
    · have hp := place_lt hw hh hx hy
      rw [decide_eq_true hy, if_pos rfl, w64 (n := y * w) (by omega) (by omega), w64 (n := y * w + x) (by omega) (by omega), if_pos (by omega), if_pos (by omega), if_pos ⟨hx, hy⟩]
    · rw [decide_eq_false hy, if_neg (by decide), if_neg (fun h => hy h.2)]
  · rw [decide_eq_false hx, if_neg (by decide), if_neg (fun h => hx h.1)]
theorem iput_eq (w h : Int) (l : List Int) (hw : 1 ≤ w ∧ w ≤ 24) (hh : 1 ≤ h ∧ h ≤ 24) (hl : (l.length : Int) = w * h) (x y c : Int) : impl_Sheet_paint.f w h l x y c = some (PT w h l x y c) := by
  unfold impl_Sheet_paint.f PT
  have hs := side_le hw hh
  rw [w64 (n := w - 1) (by omega) (by omega), w64 (n := h - 1) (by omega) (by omega), inRange_eq, Option.bind_some]
  by_cases hx : 0 ≤ x ∧ x ≤ w - 1
  · rw [decide_eq_true hx, if_pos rfl, inRange_eq, Option.bind_some]
    by_cases hy : 0 ≤ y ∧ y ≤ h - 1
    · have hp := place_lt hw hh hx hy
      rw [decide_eq_true hy, if_pos rfl, w64 (n := y * w) (by omega) (by omega), w64 (n := y * w + x) (by omega) (by omega), if_pos (by omega), if_pos (by omega), if_pos ⟨hx, hy⟩]
    · rw [decide_eq_false hy, if_neg (by decide), if_neg (fun h => hy h.2)]
  · rw [decide_eq_false hx, if_neg (by decide), if_neg (fun h => hx h.1)]

/-! ### boxes -/
def row (w h c y : Int) : Nat → Int → List Int → List Int
  | 0, _, l => l
  | d + 1, x, l => row w h c y d (x + 1) (PT w h l x y c)
theorem row_length (w h c y : Int) (d : Nat) : ∀ x l, (row w h c y d x l).length = l.length := by
  induction d with
  | zero => intro x l; rfl
  | succ d ih => intro x l; rw [row, ih, PT_length]
def cols (w h c : Int) (D : Nat) (X0 : Int) : Nat → Int → List Int → List Int
  | 0, _, l => l
  | e + 1, y, l => cols w h c D X0 e (y + 1) (row w h c y D X0 l)
theorem cols_length (w h c : Int) (D : Nat) (X0 : Int) (e : Nat) : ∀ y l, (cols w h c D X0 e y l).length = l.length := by
  induction e with
  | zero => intro y l; rfl
  | succ d ih => intro y l; rw [cols, ih, row_length]
def Boxy (b0 b1 b2 b3 : Int) : Prop := (-10000 ≤ b0 ∧ b0 ≤ 10000) ∧ (-10000 ≤ b1 ∧ b1 ≤ 10000) ∧ (0 ≤ b2 ∧ b2 ≤ 10000) ∧ (0 ≤ b3 ∧ b3 ≤ 10000)
/-- A row of the spec's loop. -/
theorem srow (w h : Int) (hw : 1 ≤ w ∧ w ≤ 24) (hh : 1 ≤ h ∧ h ≤ 24) (c b0 b1 b2 b3 y X0 X1 : Int) (hb : Boxy b0 b1 b2 b3) (hy : 0 ≤ y ∧ y < h) (hX1 : X1 ≤ w) (hX : ∀ x, 0 ≤ x → x < w → ((b0 ≤ x ∧ x ≤ b0 + b2 - 1) ↔ (X0 ≤ x ∧ x < X1))) (d : Nat) :
    ∀ (x : Int) (l : List Int), 0 ≤ x → x + d = w → (l.length : Int) = w * h → ∀ k, spec_PaintBox.l1 (k + (d + 1)) c y x w h l b0 b1 b2 b3 =
      spec_PaintBox.l0 k c (y + 1) w h (if b1 ≤ y ∧ y ≤ b1 + b3 - 1 then (if x ≤ X0 then row w h c y (X1 - X0).toNat X0 l else row w h c y (X1 - x).toNat x l) else l) b0 b1 b2 b3 := by
  obtain ⟨q0, q1, q2, q3⟩ := hb
  induction d with
  | zero =>
    intro x l h0 hd hl k
    rw [spec_PaintBox.l1, if_neg (by omega), w64 (n := y + 1) (by omega) (by omega)]
    congr 1
    split
    · split
      · rw [show (X1 - X0).toNat = 0 by omega]; rfl
      · rw [show (X1 - x).toNat = 0 by omega]; rfl
    · rfl
  | succ d ih =>
    intro x l h0 hd hl k
    have ihx := fun l' hl' => ih (x + 1) l' (by omega) (by omega) hl' k
    rw [show k + (d + 1 + 1) = (k + (d + 1)) + 1 by omega, spec_PaintBox.l1, if_pos (by omega), w64 (n := x + 1) (by omega) (by omega), w64 (n := b0 + b2) (by omega) (by omega), w64 (n := b0 + b2 - 1) (by omega) (by omega), w64 (n := b1 + b3) (by omega) (by omega), w64 (n := b1 + b3 - 1) (by omega) (by omega), l1In_eq, Option.bind_some]
    have hXx := hX x h0 (by omega)
    by_cases hin : b0 ≤ x ∧ x ≤ b0 + b2 - 1
    · have hx2 := hXx.1 hin
      rw [decide_eq_true hin, if_pos rfl, l1In_eq, Option.bind_some]
      by_cases hyin : b1 ≤ y ∧ y ≤ b1 + b3 - 1
      · rw [decide_eq_true hyin, if_pos rfl, sput_eq w h l hw hh hl, Option.bind_some, ihx _ (by rw [PT_length]; exact hl), if_pos hyin, if_pos hyin, if_neg (by omega)]
        have hr : row w h c y (X1 - x).toNat x l = row w h c y (X1 - (x + 1)).toNat (x + 1) (PT w h l x y c) := by
          rw [show (X1 - x).toNat = (X1 - (x + 1)).toNat + 1 by omega]; rfl
        by_cases hx0 : x ≤ X0
        · have : X0 = x := by omega
          subst this
          rw [if_pos (by omega), hr]
        · rw [if_neg hx0, hr]
      · rw [decide_eq_false hyin, if_neg (by decide), ihx _ hl, if_neg hyin, if_neg hyin]
    · have hx2 : ¬ (X0 ≤ x ∧ x < X1) := fun h => hin (hXx.2 h)
      rw [decide_eq_false hin, if_neg (by decide), ihx _ hl]
      congr 1
      split
      · by_cases hx0 : x ≤ X0
        · rw [if_pos hx0]
          by_cases hx1 : x + 1 ≤ X0
          · rw [if_pos hx1]
          · rw [if_neg hx1, show (X1 - (x + 1)).toNat = 0 by omega, show (X1 - X0).toNat = 0 by omega]; rfl
        · rw [if_neg hx0, if_neg (by omega), show (X1 - (x + 1)).toNat = 0 by omega, show (X1 - x).toNat = 0 by omega]; rfl
      · rfl
/-- The spec's rows. -/
theorem scols (w h : Int) (hw : 1 ≤ w ∧ w ≤ 24) (hh : 1 ≤ h ∧ h ≤ 24) (c b0 b1 b2 b3 X0 X1 Y0 Y1 : Int) (hb : Boxy b0 b1 b2 b3) (hX0 : 0 ≤ X0) (hX1 : X1 ≤ w) (hX : ∀ x, 0 ≤ x → x < w → ((b0 ≤ x ∧ x ≤ b0 + b2 - 1) ↔ (X0 ≤ x ∧ x < X1)))
    (hY1 : Y1 ≤ h) (hY : ∀ x, 0 ≤ x → x < h → ((b1 ≤ x ∧ x ≤ b1 + b3 - 1) ↔ (Y0 ≤ x ∧ x < Y1))) (e : Nat) :
    ∀ (y : Int) (l : List Int), 0 ≤ y → y + e = h → (l.length : Int) = w * h → ∀ k, e * (w.toNat + 2) < k → spec_PaintBox.l0 k c y w h l b0 b1 b2 b3 =
      some (w, h, (if y ≤ Y0 then cols w h c (X1 - X0).toNat X0 (Y1 - Y0).toNat Y0 l else cols w h c (X1 - X0).toNat X0 (Y1 - y).toNat y l), true) := by
  induction e with
  | zero =>
    intro y l h0 he hl k hk
    obtain ⟨k, rfl⟩ : ∃ m, k = m + 1 := ⟨k - 1, by omega⟩
    rw [spec_PaintBox.l0, if_neg (by omega)]
    split
    · rw [show (Y1 - Y0).toNat = 0 by omega]; rfl
    · rw [show (Y1 - y).toNat = 0 by omega]; rfl
  | succ e ih =>
    intro y l h0 he hl k hk
    rw [Nat.add_mul, Nat.one_mul] at hk
    obtain ⟨k, rfl⟩ : ∃ m, k = m + (w.toNat + 1) + 1 := ⟨k - (w.toNat + 2), by omega⟩
    rw [spec_PaintBox.l0, if_pos (by omega), srow w h hw hh c b0 b1 b2 b3 y X0 X1 hb ⟨h0, by omega⟩ hX1 hX w.toNat 0 l (by omega) (by omega) hl, if_pos hX0]
    have hYy := hY y h0 (by omega)
    by_cases hin : b1 ≤ y ∧ y ≤ b1 + b3 - 1
    · have h2 := hYy.1 hin
      rw [if_pos hin, ih (y + 1) _ (by omega) (by omega) (by rw [row_length]; exact hl) k (by omega), if_neg (by omega)]
      have hr : cols w h c (X1 - X0).toNat X0 (Y1 - y).toNat y l = cols w h c (X1 - X0).toNat X0 (Y1 - (y + 1)).toNat (y + 1) (row w h c y (X1 - X0).toNat X0 l) := by
        rw [show (Y1 - y).toNat = (Y1 - (y + 1)).toNat + 1 by omega]; rfl
      by_cases hy0 : y ≤ Y0
      · have : Y0 = y := by omega
        subst this
        rw [if_pos (by omega), hr]
      · rw [if_neg hy0, hr]
    · have h2 : ¬ (Y0 ≤ y ∧ y < Y1) := fun h => hin (hYy.2 h)
      rw [if_neg hin, ih (y + 1) _ (by omega) (by omega) hl k (by omega)]
      by_cases hy0 : y ≤ Y0
      · rw [if_pos hy0]
        by_cases hy1 : y + 1 ≤ Y0
        · rw [if_pos hy1]
        · rw [if_neg hy1, show (Y1 - (y + 1)).toNat = 0 by omega, show (Y1 - Y0).toNat = 0 by omega]; rfl
      · rw [if_neg hy0, if_neg (by omega), show (Y1 - (y + 1)).toNat = 0 by omega, show (Y1 - y).toNat = 0 by omega]; rfl
/-- A row of the code's loop. -/
theorem irow (w h : Int) (hw : 1 ≤ w ∧ w ≤ 24) (hh : 1 ≤ h ∧ h ≤ 24) (c b0 b1 b2 b3 y : Int) (w0 h0 : Int) (l0 : List Int) (X1 : Int) (hb : Boxy b0 b1 b2 b3) (hy : -30000 ≤ y ∧ y < 30000) (hX1 : X1 = mn (b0 + b2) w0) (hw0 : w0 ≤ 24) (d : Nat) :
    ∀ (x : Int) (l : List Int), 0 ≤ x → x ≤ 10000 → (X1 - x).toNat = d → (l.length : Int) = w * h → ∀ k, impl_PaintBox.l1 (k + (d + 1)) c y x w0 h0 l0 b0 b1 b2 b3 w h l =
      impl_PaintBox.l0 k c (y + 1) w0 h0 l0 b0 b1 b2 b3 w h (row w h c y d x l) := by
  obtain ⟨q0, q1, q2, q3⟩ := hb
  have hX24 : X1 ≤ 24 := by rw [hX1]; unfold mn; split <;> omega
  induction d with
  | zero =>
    intro x l h1 h2 hd hl k
    rw [impl_PaintBox.l1, w64 (n := b0 + b2) (by omega) (by omega), ← hX1, if_neg (by omega), w64 (n := y + 1) (by omega) (by omega)]; rfl
  | succ d ih =>
    intro x l h1 h2 hd hl k
    rw [show k + (d + 1 + 1) = (k + (d + 1)) + 1 by omega, impl_PaintBox.l1, w64 (n := b0 + b2) (by omega) (by omega), ← hX1, if_pos (by omega), iput_eq w h l hw hh hl, Option.bind_some, w64 (n := x + 1) (by omega) (by omega), ih (x + 1) _ (by omega) (by omega) (by omega) (by rw [PT_length]; exact hl)]
    rfl
theorem icols (w h : Int) (hw : 1 ≤ w ∧ w ≤ 24) (hh : 1 ≤ h ∧ h ≤ 24) (c b0 b1 b2 b3 : Int) (l0 : List Int) (X0 X1 Y1 : Int) (hb : Boxy b0 b1 b2 b3) (hX0 : X0 = mx b0 0) (hX1 : X1 = mn (b0 + b2) w) (hY1 : Y1 = mn (b1 + b3) h) (e : Nat) :
    ∀ (y : Int) (l : List Int), 0 ≤ y → y ≤ 10000 → (Y1 - y).toNat = e → (l.length : Int) = w * h → ∀ k, e * (w.toNat + 2) < k → impl_PaintBox.l0 k c y w h l0 b0 b1 b2 b3 w h l = some (w, h, cols w h c (X1 - X0).toNat X0 e y l, true) := by
  have hq := hb
  obtain ⟨q0, q1, q2, q3⟩ := hq
  have hX24 : X1 ≤ w := by rw [hX1]; unfold mn; split <;> omega
  have hY24 : Y1 ≤ h := by rw [hY1]; unfold mn; split <;> omega
  have hX00 : 0 ≤ X0 ∧ X0 ≤ 10000 := by rw [hX0]; unfold mx; constructor <;> (split <;> omega)
  induction e with
  | zero =>
    intro y l h1 h2 hd hl k hk
    obtain ⟨k, rfl⟩ : ∃ m, k = m + 1 := ⟨k - 1, by omega⟩
    rw [impl_PaintBox.l0, w64 (n := b1 + b3) (by omega) (by omega), ← hY1, if_neg (by omega)]; rfl
  | succ e ih =>
    intro y l h1 h2 hd hl k hk
    rw [Nat.add_mul, Nat.one_mul] at hk
    obtain ⟨k, rfl⟩ : ∃ m, k = m + ((X1 - X0).toNat + 1) + 1 := ⟨k - ((X1 - X0).toNat + 2), by omega⟩
    rw [impl_PaintBox.l0, w64 (n := b1 + b3) (by omega) (by omega), ← hY1, if_pos (by omega), ← hX0, irow w h hw hh c b0 b1 b2 b3 y w h l0 X1 hb (by omega) hX1 (by omega) (X1 - X0).toNat X0 l (by omega) (by omega) rfl hl k, ih (y + 1) _ (by omega) (by omega) (by omega) (by rw [row_length]; exact hl) k (by omega)]
    rfl
instance (b0 b1 b2 b3 : Int) : Decidable (Boxy b0 b1 b2 b3) := by unfold Boxy; exact inferInstance
theorem sbox_eq (b0 b1 b2 b3 : Int) : spec_l20Box.f b0 b1 b2 b3 = some (decide (Boxy b0 b1 b2 b3)) := by
  unfold spec_l20Box.f Boxy
  rw [l1In_eq, l1In_eq, l1In_eq, l1In_eq, Option.bind_some, Option.bind_some, Option.bind_some, Option.bind_some]
  by_cases h0 : -10000 ≤ b0 ∧ b0 ≤ 10000 <;> by_cases h1 : -10000 ≤ b1 ∧ b1 ≤ 10000 <;> by_cases h2 : 0 ≤ b2 ∧ b2 ≤ 10000 <;> by_cases h3 : 0 ≤ b3 ∧ b3 ≤ 10000 <;> simp [h0, h1, h2, h3]
theorem isRoom_eq (x : Int) : impl_isRoom.f x = some (decide (-10000 ≤ x ∧ x ≤ 10000)) := by
  unfold impl_isRoom.f
  rw [inRange_eq]; rfl
theorem ibox_eq (b0 b1 b2 b3 : Int) : impl_isBox.f b0 b1 b2 b3 = some (decide (Boxy b0 b1 b2 b3)) := by
  unfold impl_isBox.f Boxy
  rw [isRoom_eq, isRoom_eq, inRange_eq, inRange_eq, Option.bind_some, Option.bind_some, Option.bind_some, Option.bind_some]
  by_cases h0 : -10000 ≤ b0 ∧ b0 ≤ 10000 <;> by_cases h1 : -10000 ≤ b1 ∧ b1 ≤ 10000 <;> by_cases h2 : 0 ≤ b2 ∧ b2 ≤ 10000 <;> by_cases h3 : 0 ≤ b3 ∧ b3 ≤ 10000 <;> simp [h0, h1, h2, h3]
theorem icolor_eq (x : Int) : impl_isColor.f x = some (decide (0 ≤ x ∧ x ≤ 16777215)) := by
  unfold impl_isColor.f
  rw [inRange_eq]; rfl
theorem scolor_eq (x : Int) : spec_l20Color.f x = some (decide (0 ≤ x ∧ x ≤ 16777215)) := by
  unfold spec_l20Color.f
  rw [l1In_eq]; rfl
theorem ibad (k : Nat) (hk : 1 ≤ k) (c w h : Int) (l : List Int) (b0 b1 b2 b3 : Int) : impl_PaintBox.j0 k c true w h l b0 b1 b2 b3 = some (0, 0, [], false) := by
  obtain ⟨k, rfl⟩ : ∃ m, k = m + 1 := ⟨k - 1, by omega⟩
  simp [impl_PaintBox.j0]
theorem sbad (k : Nat) (hk : 1 ≤ k) (c w h : Int) (l : List Int) (b0 b1 b2 b3 : Int) : spec_PaintBox.j0 k c true w h l b0 b1 b2 b3 = some (0, 0, [], false) := by
  obtain ⟨k, rfl⟩ : ∃ m, k = m + 1 := ⟨k - 1, by omega⟩
  simp [spec_PaintBox.j0]
theorem box_all (w h : Int) (l : List Int) (hl : l.length ≤ 1048576) (b0 b1 b2 b3 c : Int) (k : Nat) (hk : 1048600 ≤ k) :
    ∃ a b r o, spec_PaintBox.f k w h l b0 b1 b2 b3 c = some (a, b, r, o) ∧ impl_PaintBox.f k w h l b0 b1 b2 b3 c = some (a, b, r, o) ∧ r.length ≤ 1048576 := by
  unfold spec_PaintBox.f impl_PaintBox.f
  rw [sgood_eq w h l hl k (by omega), igood_eq w h l hl k (by omega), Option.bind_some, Option.bind_some]
  have bad : ∀ (x y : Option (Int × Int × List Int × Bool)), x = some (0, 0, [], false) → y = some (0, 0, [], false) → ∃ a b r o, x = some (a, b, r, o) ∧ y = some (a, b, r, o) ∧ r.length ≤ 1048576 := fun x y hx hy => ⟨_, _, _, _, hx, hy, by simp⟩
  by_cases hg : GoodS w h l
  · rw [decide_eq_true hg, if_pos rfl, if_pos rfl, sbox_eq, ibox_eq, Option.bind_some, Option.bind_some]
    by_cases hb : Boxy b0 b1 b2 b3
    · rw [decide_eq_true hb, if_pos rfl, if_pos rfl, scolor_eq, icolor_eq, Option.bind_some, Option.bind_some]
      by_cases hc : 0 ≤ c ∧ c ≤ 16777215
      · rw [decide_eq_true hc]
        obtain ⟨hw, hh, hlen, _⟩ := hg
        obtain ⟨k, rfl⟩ : ∃ m, k = m + 1 := ⟨k - 1, by omega⟩
        have hq := hb
        obtain ⟨q0, q1, q2, q3⟩ := hq
        have hmx : 0 ≤ mx b1 0 ∧ mx b1 0 ≤ 10000 := by unfold mx; constructor <;> (split <;> omega)
        have h576 : h.toNat * (w.toNat + 2) ≤ 24 * 26 := Nat.mul_le_mul (by omega) (by omega)
        have hY24 : mn (b1 + b3) h ≤ h := by unfold mn; split <;> omega
        have h577 : (mn (b1 + b3) h - mx b1 0).toNat * (w.toNat + 2) ≤ 24 * 26 := Nat.mul_le_mul (by omega) (by omega)
        refine ⟨w, h, cols w h c (mn (b0 + b2) w - mx b0 0).toNat (mx b0 0) (mn (b1 + b3) h - mx b1 0).toNat (mx b1 0) l, true, ?_, ?_, by rw [cols_length]; exact hl⟩
        · rw [spec_PaintBox.j0, if_neg (by decide), Option.bind_some, if_pos (by simp; omega), List.nil_append]
          rw [scols w h hw hh c b0 b1 b2 b3 (mx b0 0) (mn (b0 + b2) w) (mx b1 0) (mn (b1 + b3) h) hb (by unfold mx; split <;> omega) (by unfold mn; split <;> omega)
            (fun x h0 h1 => by unfold mx mn; constructor <;> intro h2 <;> (repeat' split) <;> constructor <;> (repeat' split at h2) <;> omega) hY24
            (fun x h0 h1 => by unfold mx mn; constructor <;> intro h2 <;> (repeat' split) <;> constructor <;> (repeat' split at h2) <;> omega) h.toNat 0 l (by omega) (by omega) hlen k (by omega), if_pos hmx.1]
        · rw [impl_PaintBox.j0, if_neg (by decide)]
          unfold impl_Sheet_clone.f slices_Clone_int_int.f
          rw [if_pos (by omega), Option.bind_some, Option.bind_some]
          dsimp only
          exact icols w h hw hh c b0 b1 b2 b3 l (mx b0 0) (mn (b0 + b2) w) (mn (b1 + b3) h) hb rfl rfl rfl _ (mx b1 0) l hmx.1 hmx.2 rfl hlen k (by omega)
      · rw [decide_eq_false hc]
        exact bad _ _ (sbad k (by omega) _ _ _ _ _ _ _ _) (ibad k (by omega) _ _ _ _ _ _ _ _)
    · rw [decide_eq_false hb, if_neg (by decide), if_neg (by decide)]
      exact bad _ _ (sbad k (by omega) _ _ _ _ _ _ _ _) (ibad k (by omega) _ _ _ _ _ _ _ _)
  · rw [decide_eq_false hg, if_neg (by decide), if_neg (by decide)]
    exact bad _ _ (sbad k (by omega) _ _ _ _ _ _ _ _) (ibad k (by omega) _ _ _ _ _ _ _ _)
theorem law_all (w h : Int) (l : List Int) (hl : l.length ≤ 9223372036854775807) (b0 b1 b2 b3 c : Int) : laws_FnExactPaintBox.f 2000000 w h l b0 b1 b2 b3 c = some true := by
  unfold laws_FnExactPaintBox.f
  obtain ⟨t, ht, hlt⟩ := szSheet_eq w h l hl
  rw [ht, Option.bind_some]
  by_cases hneg : t < 0
  · rw [if_pos hneg]
  · have hl' := hlt hneg
    have hp : laws_toPlaced.f b0 b1 b2 b3 = some (b0, b1, b2, b3) := rfl
    obtain ⟨a, b, r, o, hs, hi, hr⟩ := box_all w h l hl' b0 b1 b2 b3 c 2000000 (by omega)
    rw [if_neg hneg, toSheet_eq w h l hl' 2000000 (by omega), hp, Option.bind_some, Option.bind_some]
    dsimp only
    rw [hs, Option.bind_some, Option.bind_some, Option.bind_some]
    dsimp only
    rw [hi, Option.bind_some]
    dsimp only
    rw [eqSheet_self a b r hr 2000000 (by omega), Option.bind_some, if_pos rfl, if_neg (by simp), Option.bind_some]
    dsimp only
    rw [eqSheet_self w h l hl' 2000000 (by omega), Option.bind_some, if_pos rfl, markSheet_eq w h l hl' 2000000 (by omega), Option.bind_some]
    dsimp only
    rw [if_neg (by omega), Option.bind_some, if_pos rfl, markSheet_eq a b r hr 2000000 (by omega)]
    try rw [if_neg (by simp)]
    rw [Option.bind_some]
    dsimp only
    rw [heldSheet_eq a b r.length hr 2000000 (by omega), Option.bind_some, if_neg (by omega), if_pos rfl, Option.bind_some, Option.bind_some]
    dsimp only
    rw [hi, Option.bind_some]
    dsimp only
    rw [eqSheet_self a b r hr 2000000 (by omega), Option.bind_some, if_pos rfl, if_neg (by simp), Option.bind_some, if_neg (by omega), if_pos rfl]
theorem law_pure : laws_FnExactPaintBox.Pure := fun w h l b0 b1 b2 b3 c _ _ hl _ _ _ _ _ => ⟨2000000, law_all w h l hl.1 b0 b1 b2 b3 c⟩

theorem FnExactPaintBox : laws_FnExactPaintBox.Pure := law_pure
end Go.Proofs.Ytnebjoanfknmeaa.Pure
