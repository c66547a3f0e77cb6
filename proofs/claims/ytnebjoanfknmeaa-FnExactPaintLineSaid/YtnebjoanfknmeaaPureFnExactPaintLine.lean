/-
  FnExactPaintLine: for every sheet, line and color the program's PaintLine answers what the reference's answers, shares no memory with what came in, and answers the same again. No condition.
-/
import Derived.Test.YtnebjoanfknmeaaXFnExactPaintLinex6
namespace Go.Proofs.Ytnebjoanfknmeaa.Pure
open Go.RowKit Go.Proofs.Ytnebjoanfknmeaa.XFnExactPaintLine Go.Proofs.YtnebjoanfknmeaaW.PrintWords Go.Proofs.YtnebjoanfknmeaaW.PrintLast
set_option linter.unusedVariables false
set_option linter.unusedSimpArgs false
theorem w64 {n : Int} (h0 : -9223372036854775808 ≤ n) (h1 : n ≤ 9223372036854775807) : wrap64 n = n := by unfold wrap64; omega
theorem rd_nat (xs : List Int) (i : Nat) : rd xs (i : Int) = xs.getD i 0 := by simp [rd]
/-! ### lists of numbers: copied, compared, marked -/
theorem toIntS_go (l : List Int) (hl : l.length ≤ 1048576) (d : Nat) : ∀ (k : Nat) (ys : List Int) (i : Nat), d < k → i + d = l.length → ys.length = l.length → (∀ j, j < i → ys[j]? = l[j]?) → laws_toIntS.l0 k l ys (i : Int) = some l := by
  induction d with
  | zero =>
    intro k ys i hk hi hy hp
    obtain ⟨k, rfl⟩ : ∃ m, k = m + 1 := ⟨k - 1, by omega⟩
    simp only [laws_toIntS.l0]
    rw [if_neg (by omega)]
    congr 1
    apply List.ext_getElem?
    intro j
    by_cases hj : j < i
    · exact hp j hj
    · rw [List.getElem?_eq_none (by omega), List.getElem?_eq_none (by omega)]
  | succ d ih =>
    intro k ys i hk hi hy hp
    obtain ⟨k, rfl⟩ : ∃ m, k = m + 1 := ⟨k - 1, by omega⟩
    simp only [laws_toIntS.l0]
    rw [if_pos (by omega), if_pos (by omega), if_pos (by omega), w64 (by omega) (by omega)]
    have := ih k (ys.set i (rd l (i : Int))) (i + 1) (by omega) (by omega) (by simpa using hy) (by
      intro j hj
      by_cases hji : j = i
      · subst hji
        rw [List.getElem?_set_self (by omega), List.getElem?_eq_getElem (by omega), rd_nat, List.getD_eq_getElem?_getD, List.getElem?_eq_getElem (by omega)]
        rfl
      · rw [List.getElem?_set_ne (by omega)]
        exact hp j (by omega))
    simpa using this
theorem toIntS_eq (l : List Int) (hl : l.length ≤ 1048576) (k : Nat) (hk : l.length < k) : laws_toIntS.f k l = some l := by
  unfold laws_toIntS.f
  rw [if_pos (by omega), if_pos (by omega)]
  exact toIntS_go l hl l.length k _ 0 hk (by omega) (by simp) (fun j hj => by omega)
theorem eqIntS_go (l : List Int) (hl : l.length ≤ 1048576) (d : Nat) : ∀ (k : Nat) (i : Nat), d < k → i + d = l.length → laws_eqIntS.l0 k l l (i : Int) = some true := by
  induction d with
  | zero =>
    intro k i hk hi
    obtain ⟨k, rfl⟩ : ∃ m, k = m + 1 := ⟨k - 1, by omega⟩
    simp only [laws_eqIntS.l0]
    rw [if_neg (by omega)]
  | succ d ih =>
    intro k i hk hi
    obtain ⟨k, rfl⟩ : ∃ m, k = m + 1 := ⟨k - 1, by omega⟩
    simp only [laws_eqIntS.l0]
    rw [if_pos (by omega), if_pos (by omega), if_pos (by omega), if_pos trivial, w64 (by omega) (by omega)]
    simpa using ih k (i + 1) (by omega) (by omega)
theorem eqIntS_self (l : List Int) (hl : l.length ≤ 1048576) (k : Nat) (hk : l.length < k) : laws_eqIntS.f k l l = some true := by
  unfold laws_eqIntS.f
  rw [if_pos rfl]
  exact eqIntS_go l hl l.length k 0 hk (by omega)
/-- The marks: c, c + 1, .. -/
def marks (c : Int) : Nat → List Int
  | 0 => []
  | n + 1 => c :: marks (c + 1) n
theorem marks_length (n : Nat) : ∀ c, (marks c n).length = n := by
  induction n with
  | zero => intro c; rfl
  | succ n ih => intro c; simp [marks, ih]
theorem markIntS_go (d : Nat) : ∀ (k : Nat) (xs : List Int) (c : Int) (i : Nat), d < k → i + d = xs.length → xs.length ≤ 1048576 → 0 ≤ c → c + d ≤ 4611686018427387904 → laws_markIntS.l0 k xs c (i : Int) = some (c + d, xs.take i ++ marks c d) := by
  induction d with
  | zero =>
    intro k xs c i hk hi hl h0 h1
    obtain ⟨k, rfl⟩ : ∃ m, k = m + 1 := ⟨k - 1, by omega⟩
    simp only [laws_markIntS.l0]
    rw [if_neg (by omega), List.take_of_length_le (by omega)]
    simp [marks]
  | succ d ih =>
    intro k xs c i hk hi hl h0 h1
    obtain ⟨k, rfl⟩ : ∃ m, k = m + 1 := ⟨k - 1, by omega⟩
    simp only [laws_markIntS.l0]
    rw [if_pos (by omega), if_pos (by omega), w64 (n := c + 1) (by omega) (by omega), w64 (n := (i : Int) + 1) (by omega) (by omega)]
    have := ih k (xs.set i c) (c + 1) (i + 1) (by omega) (by simp; omega) (by simpa using hl) (by omega) (by omega)
    simp only [Int.toNat_natCast]
    rw [show ((i : Int) + 1) = ((i + 1 : Nat) : Int) by omega, this]
    have e : List.take (i + 1) (xs.set i c) = xs.take i ++ [c] := by
      rw [List.take_succ_eq_append_getElem (by simp; omega), List.take_set_of_le (by omega)]
      simp
    rw [e, List.append_assoc]
    congr 2
    omega
theorem markIntS_eq (xs : List Int) (hl : xs.length ≤ 1048576) (k : Nat) (hk : xs.length < k) (c : Int) (h0 : 0 ≤ c) (h1 : c ≤ 1152921504606846976) : laws_markIntS.f k xs c = some (c + xs.length, marks c xs.length) := by
  unfold laws_markIntS.f
  have := markIntS_go xs.length k xs c 0 hk (by omega) hl h0 (by omega)
  simpa using this
theorem marks_get (n : Nat) : ∀ (c : Int) (i : Nat), i < n → (marks c n)[i]? = some (c + i) := by
  induction n with
  | zero => intro c i h; omega
  | succ n ih =>
    intro c i h
    cases i with
    | zero => simp [marks]
    | succ i => simp only [marks, List.getElem?_cons_succ]; rw [ih (c + 1) i (by omega)]; congr 1; omega
theorem heldIntS_go (n : Nat) (c : Int) (h0 : 0 ≤ c) (h1 : c + n ≤ 4611686018427387904) (hn : n ≤ 1048576) (d : Nat) : ∀ (k : Nat) (i : Nat), d < k → i + d = n → laws_heldIntS.l0 k (marks c n) (c + i) (i : Int) = some (c + n) := by
  induction d with
  | zero =>
    intro k i hk hi
    obtain ⟨k, rfl⟩ : ∃ m, k = m + 1 := ⟨k - 1, by omega⟩
    simp only [laws_heldIntS.l0]
    rw [if_neg (by rw [marks_length]; omega)]
    congr 1; omega
  | succ d ih =>
    intro k i hk hi
    obtain ⟨k, rfl⟩ : ∃ m, k = m + 1 := ⟨k - 1, by omega⟩
    simp only [laws_heldIntS.l0]
    have e : rd (marks c n) (i : Int) = c + i := by
      rw [rd_nat, List.getD_eq_getElem?_getD, marks_get n c i (by omega)]
      rfl
    rw [if_pos (by rw [marks_length]; omega), if_pos (by omega), if_pos e, w64 (n := c + i + 1) (by omega) (by omega), w64 (n := (i : Int) + 1) (by omega) (by omega)]
    have := ih k (i + 1) (by omega) (by omega)
    rw [show c + (i : Int) + 1 = c + ((i + 1 : Nat) : Int) by omega]
    simpa using this
theorem heldIntS_eq (n : Nat) (c : Int) (h0 : 0 ≤ c) (h1 : c ≤ 1152921504606846976) (hn : n ≤ 1048576) (k : Nat) (hk : n < k) : laws_heldIntS.f k (marks c n) c = some (c + n) := by
  unfold laws_heldIntS.f
  have := heldIntS_go n c h0 (by omega) hn n k 0 hk (by omega)
  simpa using this
/-! ### sheets -/
theorem inRange_eq (a b c : Int) : impl_inRange.f a b c = some (decide (b ≤ a ∧ a ≤ c)) := by
  unfold impl_inRange.f
  split
  · rename_i h; simp [h]
  · rename_i h; simp [h]
theorem l1In_eq (a b c : Int) : spec_l1In.f a b c = some (decide (b ≤ a ∧ a ≤ c)) := by
  unfold spec_l1In.f
  split
  · rename_i h; simp [show b ≤ a from h]
  · rename_i h; simp [show ¬ b ≤ a from h]
theorem toSheet_eq (w h : Int) (l : List Int) (hl : l.length ≤ 1048576) (k : Nat) (hk : l.length < k) : laws_toSheet.f k w h l = some (w, h, l) := by
  unfold laws_toSheet.f
  rw [toIntS_eq l hl k hk]; rfl
theorem eqSheet_self (w h : Int) (l : List Int) (hl : l.length ≤ 1048576) (k : Nat) (hk : l.length < k) : laws_eqSheet.f k w h l w h l = some true := by
  unfold laws_eqSheet.f
  rw [if_pos rfl, if_pos rfl, eqIntS_self l hl k hk]; rfl
theorem markSheet_eq (w h : Int) (l : List Int) (hl : l.length ≤ 1048576) (k : Nat) (hk : l.length < k) : laws_markSheet.f k w h l 1 = some ((1 : Int) + l.length, marks 1 l.length) := by
  unfold laws_markSheet.f
  rw [markIntS_eq l hl k hk 1 (by omega) (by omega)]; rfl
theorem heldSheet_eq (w h : Int) (n : Nat) (hn : n ≤ 1048576) (k : Nat) (hk : n < k) : laws_heldSheet.f k w h (marks 1 n) 1 = some ((1 : Int) + n) := by
  unfold laws_heldSheet.f
  rw [heldIntS_eq n 1 (by omega) (by omega) hn k hk, Option.bind_some, if_neg (by omega)]
theorem szSheet_eq (w h : Int) (l : List Int) (hl : l.length ≤ 9223372036854775807) : ∃ t, laws_szSheet.f w h l 1048576 = some t ∧ (¬ t < 0 → l.length ≤ 1048576) := by
  unfold laws_szSheet.f laws_szIntS.f
  rw [w64 (n := 1048576 - (l.length : Int)) (by omega) (by omega)]
  split
  · exact ⟨-1, by simp, fun h => by omega⟩
  · rename_i hc
    rw [Option.bind_some, if_neg hc]
    exact ⟨_, rfl, fun _ => by omega⟩
/-- Are these pixels of a good sheet? -/
def GoodS (w h : Int) (l : List Int) : Prop := (1 ≤ w ∧ w ≤ 24) ∧ (1 ≤ h ∧ h ≤ 24) ∧ (l.length : Int) = w * h ∧ ∀ x ∈ l, 0 ≤ x ∧ x ≤ 16777215
theorem side_le {w h : Int} (hw : 1 ≤ w ∧ w ≤ 24) (hh : 1 ≤ h ∧ h ≤ 24) : 1 ≤ w * h ∧ w * h ≤ 576 := by
  have h1 := Int.mul_le_mul_of_nonneg_right hw.2 (show 0 ≤ h by omega)
  have h2 := Int.mul_le_mul_of_nonneg_right hw.1 (show 0 ≤ h by omega)
  omega
theorem rd_mem {l : List Int} {i : Nat} (h : i < l.length) : rd l (i : Int) ∈ l := by
  rw [rd_nat, List.getD_eq_getElem?_getD, List.getElem?_eq_getElem h]
  exact List.getElem_mem h
theorem sgood_go (l : List Int) (hl : l.length ≤ 1048576) (d : Nat) : ∀ (k : Nat) (i : Nat), d < k → i + d = l.length →
    spec_GoodSheet.l0 k l (l.length : Int) (i : Int) = some (decide (∀ x ∈ l.drop i, 0 ≤ x ∧ x ≤ 16777215)) := by
  induction d with
  | zero =>
    intro k i hk hi
    obtain ⟨k, rfl⟩ : ∃ m, k = m + 1 := ⟨k - 1, by omega⟩
    simp only [spec_GoodSheet.l0]
    rw [if_neg (by omega), List.drop_of_length_le (by omega)]
    simp
  | succ d ih =>
    intro k i hk hi
    obtain ⟨k, rfl⟩ : ∃ m, k = m + 1 := ⟨k - 1, by omega⟩
    simp only [spec_GoodSheet.l0]
    rw [if_pos (by omega), if_pos (by omega), if_pos (by omega)]
    unfold spec_l20Color.f
    rw [l1In_eq, Option.bind_some, Option.bind_some, List.drop_eq_getElem_cons (by omega)]
    have e : rd l (i : Int) = l[i] := by rw [rd_nat, List.getD_eq_getElem?_getD, List.getElem?_eq_getElem (by omega)]; rfl
    rw [e]
    by_cases hx : 0 ≤ l[i] ∧ l[i] ≤ 16777215
    · rw [decide_eq_true hx, if_pos rfl, w64 (by omega) (by omega)]
      have := ih k (i + 1) (by omega) (by omega)
      rw [show ((i : Int) + 1) = ((i + 1 : Nat) : Int) by omega, this]
      congr 1
      rw [decide_eq_decide]
      constructor
      · intro h x hm
        rcases List.mem_cons.1 hm with rfl | hm
        · exact hx
        · exact h x hm
      · intro h x hm
        exact h x (List.mem_cons_of_mem _ hm)
    · rw [decide_eq_false hx, if_neg (by decide)]
      congr 1
      symm
      rw [decide_eq_false_iff_not]
      intro h
      exact hx (h _ List.mem_cons_self)
theorem sgood_bad (k : Nat) (hk : 1 ≤ k) (w h : Int) (l : List Int) : spec_GoodSheet.j0 k true w h l = some false := by
  obtain ⟨k, rfl⟩ : ∃ m, k = m + 1 := ⟨k - 1, by omega⟩
  simp [spec_GoodSheet.j0]
instance (w h : Int) (l : List Int) : Decidable (GoodS w h l) := by unfold GoodS; exact inferInstance
theorem sgood_eq (w h : Int) (l : List Int) (hl : l.length ≤ 1048576) (k : Nat) (hk : l.length + 1 < k) : spec_GoodSheet.f k w h l = some (decide (GoodS w h l)) := by
  unfold spec_GoodSheet.f
  rw [l1In_eq, Option.bind_some]
  by_cases h1 : 1 ≤ w ∧ w ≤ 24
  · rw [decide_eq_true h1, if_pos rfl, l1In_eq, Option.bind_some]
    by_cases h2 : 1 ≤ h ∧ h ≤ 24
    · rw [decide_eq_true h2, if_pos rfl]
      have hs := side_le h1 h2
      rw [w64 (by omega) (by omega)]
      obtain ⟨k, rfl⟩ : ∃ m, k = m + 1 := ⟨k - 1, by omega⟩
      simp only [spec_GoodSheet.j0]
      by_cases h3 : (l.length : Int) = w * h
      · rw [if_neg (by simp [h3])]
        have := sgood_go l hl l.length k 0 (by omega) (by omega)
        rw [show ((0 : Nat) : Int) = 0 from rfl] at this
        rw [this]
        congr 1
        rw [decide_eq_decide]
        simp only [List.drop_zero, GoodS]
        exact ⟨fun h4 => ⟨h1, h2, h3, h4⟩, fun h4 => h4.2.2.2⟩
      · rw [if_pos (by simpa using h3)]
        congr 1
        symm
        rw [decide_eq_false_iff_not]
        exact fun h4 => h3 h4.2.2.1
    · rw [decide_eq_false h2, if_neg (by decide), sgood_bad k (by omega)]
      congr 1
      symm
      rw [decide_eq_false_iff_not]
      exact fun h4 => h2 h4.2.1
  · rw [decide_eq_false h1, if_neg (by decide), sgood_bad k (by omega)]
    congr 1
    symm
    rw [decide_eq_false_iff_not]
    exact fun h4 => h1 h4.1
theorem igood_go (l : List Int) (hl : l.length ≤ 1048576) (d : Nat) : ∀ (k : Nat) (i : Nat), d < k → i + d = l.length →
    ∃ r, slices_IndexFunc_at104.l0 k l (l.length : Int) (i : Int) = some r ∧ (r ≥ 0 ↔ ¬ ∀ x ∈ l.drop i, 0 ≤ x ∧ x ≤ 16777215) := by
  induction d with
  | zero =>
    intro k i hk hi
    obtain ⟨k, rfl⟩ : ∃ m, k = m + 1 := ⟨k - 1, by omega⟩
    simp only [slices_IndexFunc_at104.l0]
    rw [if_neg (by omega), List.drop_of_length_le (by omega)]
    exact ⟨-1, rfl, by simp⟩
  | succ d ih =>
    intro k i hk hi
    obtain ⟨k, rfl⟩ : ∃ m, k = m + 1 := ⟨k - 1, by omega⟩
    simp only [slices_IndexFunc_at104.l0]
    rw [if_pos (by omega), if_pos (by omega), if_pos (by omega)]
    unfold impl_GoodSheet_1.f impl_isColor.f
    rw [inRange_eq, Option.bind_some, Option.bind_some, Option.bind_some, List.drop_eq_getElem_cons (by omega)]
    have e : rd l (i : Int) = l[i] := by rw [rd_nat, List.getD_eq_getElem?_getD, List.getElem?_eq_getElem (by omega)]; rfl
    rw [e]
    by_cases hx : 0 ≤ l[i] ∧ l[i] ≤ 16777215
    · rw [decide_eq_true hx, if_neg (by decide), w64 (by omega) (by omega)]
      obtain ⟨r, hr, hri⟩ := ih k (i + 1) (by omega) (by omega)
      refine ⟨r, by rw [show ((i : Int) + 1) = ((i + 1 : Nat) : Int) by omega, hr], ?_⟩
      refine hri.trans (not_congr ?_)
      constructor
      · intro h x hm
        rcases List.mem_cons.1 hm with rfl | hm
        · exact hx
        · exact h x hm
      · intro h x hm
        exact h x (List.mem_cons_of_mem _ hm)
    · rw [decide_eq_false hx, if_pos (by decide)]
      refine ⟨_, rfl, ?_⟩
      constructor
      · intro _ h
        exact hx (h _ List.mem_cons_self)
      · intro _; omega
theorem igood_eq (w h : Int) (l : List Int) (hl : l.length ≤ 1048576) (k : Nat) (hk : l.length + 1 < k) : impl_GoodSheet.f k w h l = some (decide (GoodS w h l)) := by
  unfold impl_GoodSheet.f
  rw [inRange_eq, Option.bind_some]
  by_cases h1 : 1 ≤ w ∧ w ≤ 24
  · rw [decide_eq_true h1, if_pos rfl, inRange_eq, Option.bind_some]
    by_cases h2 : 1 ≤ h ∧ h ≤ 24
    · rw [decide_eq_true h2, if_pos rfl]
      have hs := side_le h1 h2
      rw [w64 (by omega) (by omega)]
      by_cases h3 : (l.length : Int) = w * h
      · rw [if_pos h3]
        unfold slices_ContainsFunc_at104.f slices_IndexFunc_at104.f
        obtain ⟨r, hr, hri⟩ := igood_go l hl l.length k 0 (by omega) (by omega)
        rw [show ((0 : Nat) : Int) = 0 from rfl] at hr
        rw [hr, Option.bind_some, Option.bind_some]
        congr 1
        rw [← decide_not, decide_eq_decide, hri, Classical.not_not, List.drop_zero]
        exact ⟨fun h4 => ⟨h1, h2, h3, h4⟩, fun h4 => h4.2.2.2⟩
      · rw [if_neg h3]
        congr 1
        symm
        rw [decide_eq_false_iff_not]
        exact fun h4 => h3 h4.2.2.1
    · rw [decide_eq_false h2, if_neg (by decide)]
      congr 1
      symm
      rw [decide_eq_false_iff_not]
      exact fun h4 => h2 h4.2.1
  · rw [decide_eq_false h1, if_neg (by decide)]
    congr 1
    symm
    rw [decide_eq_false_iff_not]
    exact fun h4 => h1 h4.1
/-- A pixel is painted, where it is on the sheet. -/
def PT (w h : Int) (l : List Int) (x y c : Int) : List Int := if (0 ≤ x ∧ x ≤ w - 1) ∧ (0 ≤ y ∧ y ≤ h - 1) then l.set (y * w + x).toNat c else l
theorem PT_length (w h : Int) (l : List Int) (x y c : Int) : (PT w h l x y c).length = l.length := by
  unfold PT; split <;> simp
theorem place_lt {w h x y : Int} (hw : 1 ≤ w ∧ w ≤ 24) (hh : 1 ≤ h ∧ h ≤ 24) (hx : 0 ≤ x ∧ x ≤ w - 1) (hy : 0 ≤ y ∧ y ≤ h - 1) : 0 ≤ y * w ∧ y * w + x < w * h := by
  have h1 := Int.mul_nonneg hy.1 (show 0 ≤ w by omega)
  have h2 := Int.mul_le_mul_of_nonneg_right hy.2 (show 0 ≤ w by omega)
  rw [Int.sub_mul, Int.one_mul, Int.mul_comm h w] at h2
  omega
theorem sput_eq (w h : Int) (l : List Int) (hw : 1 ≤ w ∧ w ≤ 24) (hh : 1 ≤ h ∧ h ≤ 24) (hl : (l.length : Int) = w * h) (x y c : Int) : spec_l20Put.f w h l x y c = some (PT w h l x y c) := by
  unfold spec_l20Put.f PT
  have hs := side_le hw hh
  rw [w64 (n := w - 1) (by omega) (by omega), w64 (n := h - 1) (by omega) (by omega), l1In_eq, Option.bind_some]
  by_cases hx : 0 ≤ x ∧ x ≤ w - 1
  · rw [decide_eq_true hx, if_pos rfl, l1In_eq, Option.bind_some]
    by_cases hy : 0 ≤ y ∧ y ≤ h - 1
    · have hp := place_lt hw hh hx hy
      rw [decide_eq_true hy, if_pos rfl, w64 (n := y * w) (by omega) (by omega), w64 (n := y * w + x) (by omega) (by omega), if_pos (by omega), if_pos (by omega), if_pos ⟨hx, hy⟩]
    · rw [decide_eq_false hy, if_neg (by decide), if_neg (fun h => hy h.2)]
  · rw [decide_eq_false hx, if_neg (by decide), if_neg (fun h => hx h.1)]
theorem iput_eq (w h : Int) (l : List Int) (hw : 1 ≤ w ∧ w ≤ 24) (hh : 1 ≤ h ∧ h ≤ 24) (hl : (l.length : Int) = w * h) (x y c : Int) : impl_Sheet_paint.f w h l x y c = some (PT w h l x y c) := by
  unfold impl_Sheet_paint.f PT
  have hs := side_le hw hh
  rw [w64 (n := w - 1) (by omega) (by omega), w64 (n := h - 1) (by omega) (by omega), inRange_eq, Option.bind_some]
  by_cases hx : 0 ≤ x ∧ x ≤ w - 1
  · rw [decide_eq_true hx, if_pos rfl, inRange_eq, Option.bind_some]
    by_cases hy : 0 ≤ y ∧ y ≤ h - 1
    · have hp := place_lt hw hh hx hy
      rw [decide_eq_true hy, if_pos rfl, w64 (n := y * w) (by omega) (by omega), w64 (n := y * w + x) (by omega) (by omega), if_pos (by omega), if_pos (by omega), if_pos ⟨hx, hy⟩]
    · rw [decide_eq_false hy, if_neg (by decide), if_neg (fun h => hy h.2)]
  · rw [decide_eq_false hx, if_neg (by decide), if_neg (fun h => hx h.1)]

/-! ### lines -/
theorem idiv_eq' {x y q : Int} (hy : 0 < y) (h0 : q * y ≤ x) (h1 : x < (q + 1) * y) : x / y = q := by
  have a := (Int.le_ediv_iff_mul_le hy).2 h0
  have b := (Int.ediv_lt_iff_lt_mul hy).2 h1
  omega
theorem mul_succ' (q y : Int) : (q + 1) * y = q * y + y := by rw [Int.add_mul, Int.one_mul]
theorem down_eq (x y : Int) (hy : 0 < y) (h0 : -9223372036854775808 < x) (h1 : x ≤ 9223372036854775807) : impl_down.f x y = some (x / y) := by
  unfold impl_down.f
  rw [if_neg (by omega)]
  by_cases hx : 0 ≤ x
  · have e2 : 0 ≤ x / y := Int.ediv_nonneg hx (by omega)
    have e3 : x / y ≤ x := Int.ediv_le_self _ hx
    rw [Int.tdiv_eq_ediv_of_nonneg hx, Int.tmod_eq_emod_of_nonneg hx, if_neg (by have := Int.emod_nonneg x (show y ≠ 0 by omega); omega), w64 (by omega) (by omega)]
  · obtain ⟨z, rfl⟩ : ∃ z, x = -z := ⟨-x, by omega⟩
    rw [Int.neg_tdiv, Int.neg_tmod, Int.tdiv_eq_ediv_of_nonneg (by omega), Int.tmod_eq_emod_of_nonneg (by omega)]
    have e2 : 0 ≤ z / y := Int.ediv_nonneg (by omega) (by omega)
    have e3 : z / y ≤ z := Int.ediv_le_self _ (by omega)
    have e4 := Int.mul_ediv_add_emod z y
    have e5 := Int.emod_nonneg z (show y ≠ 0 by omega)
    have e6 := Int.emod_lt_of_pos z hy
    rw [w64 (n := -(z / y)) (by omega) (by omega)]
    rw [Int.mul_comm] at e4
    split
    · rw [w64 (by omega) (by omega)]
      congr 1
      refine (idiv_eq' hy ?_ ?_).symm
      · rw [show -(z / y) - 1 = -(z / y + 1) by omega, Int.neg_mul, mul_succ']; omega
      · rw [show -(z / y) - 1 + 1 = -(z / y) by omega, Int.neg_mul]; omega
    · congr 1
      refine (idiv_eq' hy ?_ ?_).symm
      · rw [Int.neg_mul]; omega
      · rw [mul_succ', Int.neg_mul]; omega
theorem sdown_eq (x y : Int) (hy : 0 < y) (h0 : -9223372036854775808 < x) (h1 : x ≤ 9223372036854775807) : spec_l1Down.f x y = some (x / y) := by
  rw [← down_eq x y hy h0 h1]
  unfold spec_l1Down.f impl_down.f
  rw [if_neg (show ¬ y = 0 by omega), if_neg (show ¬ y = 0 by omega)]
  by_cases hz : Int.tmod x y = 0
  · rw [if_pos hz, if_neg (show ¬ Int.tmod x y < 0 by omega)]
  · rw [if_neg hz]
    by_cases hx : x < 0
    · have h3 : Int.tmod x y ≤ 0 := by
        obtain ⟨z, rfl⟩ : ∃ z, x = -z := ⟨-x, by omega⟩
        rw [Int.neg_tmod, Int.tmod_eq_emod_of_nonneg (by omega)]
        have := Int.emod_nonneg z (show y ≠ 0 by omega)
        omega
      rw [decide_eq_true hx, decide_eq_false (show ¬ y < 0 by omega), if_pos (by decide), if_pos (by omega)]
    · have h3 : 0 ≤ Int.tmod x y := by
        rw [Int.tmod_eq_emod_of_nonneg (by omega)]
        exact Int.emod_nonneg x (show y ≠ 0 by omega)
      rw [decide_eq_false hx, decide_eq_false (show ¬ y < 0 by omega), if_neg (by decide), if_neg (by omega)]
theorem mul_abs {a d A B : Int} (h0 : 0 ≤ a) (h1 : a ≤ A) (h2 : -B ≤ d) (h3 : d ≤ B) : -(A * B) ≤ a * d ∧ a * d ≤ A * B := by
  have hB : 0 ≤ B := by omega
  have h4 := Int.mul_le_mul_of_nonneg_left h3 h0
  have h5 := Int.mul_le_mul_of_nonneg_left h2 h0
  have h6 := Int.mul_le_mul_of_nonneg_right h1 hB
  rw [Int.mul_neg] at h5
  omega
def Room (x : Int) : Prop := -10000 ≤ x ∧ x ≤ 10000
instance (x : Int) : Decidable (Room x) := by unfold Room; exact inferInstance
/-- What stands before the division of a place on a line. -/
theorem slope (x0 x1 n k : Int) (h0 : Room x0) (h1 : Room x1) (hn : 0 < n) (hn1 : n ≤ 20000) (hk : 0 ≤ k) (hk1 : k ≤ 20000) :
    wrap64 ((wrap64 ((wrap64 (2 * k)) * (wrap64 (x1 - x0)))) + n) = 2 * k * (x1 - x0) + n ∧ wrap64 (2 * n) = 2 * n ∧ -900000000 ≤ 2 * k * (x1 - x0) + n ∧ 2 * k * (x1 - x0) + n ≤ 900000000 := by
  obtain ⟨a0, a1⟩ := h0
  obtain ⟨b0, b1⟩ := h1
  have hm := mul_abs (a := 2 * k) (d := x1 - x0) (A := 40000) (B := 20000) (by omega) (by omega) (by omega) (by omega)
  rw [w64 (n := 2 * k) (by omega) (by omega), w64 (n := x1 - x0) (by omega) (by omega), w64 (n := 2 * k * (x1 - x0)) (by omega) (by omega), w64 (n := 2 * k * (x1 - x0) + n) (by omega) (by omega), w64 (n := 2 * n) (by omega) (by omega)]
  omega
/-- The line's pixels from the k-th on. -/
theorem lines_go (w h : Int) (hw : 1 ≤ w ∧ w ≤ 24) (hh : 1 ≤ h ∧ h ≤ 24) (x0 y0 x1 y1 c n : Int) (g0 : Room x0) (g1 : Room y0) (g2 : Room x1) (g3 : Room y1) (hn : 0 < n) (hn1 : n ≤ 20000) (d : Nat) :
    ∀ (i : Int) (l : List Int), 0 ≤ i → i + d = n + 1 → (l.length : Int) = w * h →
      ∃ r, (∀ k, 2 * d < k → spec_PaintLine.l1 (k + 1) x0 y0 x1 y1 c n i w h l = some (w, h, r, true)) ∧ (∀ k, d ≤ k → impl_PaintLine.l0 (k + 1) x0 y0 x1 y1 c n i w h l = some (w, h, r, true)) ∧ r.length = l.length := by
  induction d with
  | zero =>
    intro i l h0 hi hl
    refine ⟨l, fun k hk => ?_, fun k hk => ?_, rfl⟩
    · obtain ⟨k, rfl⟩ : ∃ m, k = m + 1 := ⟨k - 1, by omega⟩
      rw [spec_PaintLine.l1, if_neg (by omega), spec_PaintLine.j5, if_neg (by decide)]
    · rw [impl_PaintLine.l0, if_neg (by omega)]
  | succ d ih =>
    intro i l h0 hi hl
    obtain ⟨e1, e2, b1, b2⟩ := slope x0 x1 n i g0 g2 hn hn1 h0 (by omega)
    obtain ⟨e3, _, b3, b4⟩ := slope y0 y1 n i g1 g3 hn hn1 h0 (by omega)
    obtain ⟨X, hX⟩ : ∃ X, X = wrap64 (x0 + (2 * i * (x1 - x0) + n) / (2 * n)) := ⟨_, rfl⟩
    obtain ⟨Y, hY⟩ : ∃ Y, Y = wrap64 (y0 + (2 * i * (y1 - y0) + n) / (2 * n)) := ⟨_, rfl⟩
    obtain ⟨r, r1, r2, r3⟩ := ih (i + 1) (PT w h l X Y c) (by omega) (by omega) (by rw [PT_length]; exact hl)
    refine ⟨r, fun k hk => ?_, fun k hk => ?_, by rw [r3, PT_length]⟩
    · obtain ⟨k, rfl⟩ : ∃ m, k = m + 2 := ⟨k - 2, by omega⟩
      rw [spec_PaintLine.l1, if_pos (by omega), spec_PaintLine.j5, if_pos (by simpa using hn), e1, e2, e3, sdown_eq _ _ (by omega) (by omega) (by omega), Option.bind_some, sdown_eq _ _ (by omega) (by omega) (by omega), Option.bind_some, ← hX, ← hY, sput_eq w h l hw hh hl, Option.bind_some, w64 (n := i + 1) (by omega) (by omega)]
      exact r1 k (by omega)
    · obtain ⟨k, rfl⟩ : ∃ m, k = m + 1 := ⟨k - 1, by omega⟩
      rw [impl_PaintLine.l0, if_pos (by omega), if_neg (by omega), e1, e2, e3, down_eq _ _ (by omega) (by omega) (by omega), Option.bind_some, down_eq _ _ (by omega) (by omega) (by omega), Option.bind_some, ← hX, ← hY, iput_eq w h l hw hh hl, Option.bind_some, w64 (n := i + 1) (by omega) (by omega)]
      exact r2 k (by omega)
theorem size_abs (x : Int) (h0 : -20000 ≤ x) (h1 : x ≤ 20000) : impl_size.f x = some (if x < 0 then -x else x) := by
  unfold impl_size.f mx
  rw [w64 (by omega) (by omega)]
  congr 1
  (repeat' split) <;> omega
theorem l1Abs_abs (x : Int) (h0 : -20000 ≤ x) (h1 : x ≤ 20000) : spec_l1Abs.f x = some (if x < 0 then -x else x) := by
  unfold spec_l1Abs.f
  split
  · rw [w64 (by omega) (by omega)]
  · rfl
theorem isRoom_eq (x : Int) : impl_isRoom.f x = some (decide (Room x)) := by
  unfold impl_isRoom.f
  rw [inRange_eq]; rfl
theorem icolor_eq (x : Int) : impl_isColor.f x = some (decide (0 ≤ x ∧ x ≤ 16777215)) := by
  unfold impl_isColor.f
  rw [inRange_eq]; rfl
theorem scolor_eq (x : Int) : spec_l20Color.f x = some (decide (0 ≤ x ∧ x ≤ 16777215)) := by
  unfold spec_l20Color.f
  rw [l1In_eq]; rfl
def Fine (w h : Int) (l : List Int) (x0 y0 x1 y1 c : Int) : Prop := GoodS w h l ∧ Room x0 ∧ Room y0 ∧ Room x1 ∧ Room y1 ∧ 0 ≤ c ∧ c ≤ 16777215
theorem ibad (k : Nat) (hk : 1 ≤ k) (x0 y0 x1 y1 c w h : Int) (l : List Int) : impl_PaintLine.j0 k x0 y0 x1 y1 c true w h l = some (0, 0, [], false) := by
  obtain ⟨k, rfl⟩ : ∃ m, k = m + 1 := ⟨k - 1, by omega⟩
  simp [impl_PaintLine.j0]
theorem sbad (k : Nat) (hk : 1 ≤ k) (x0 y0 x1 y1 c w h : Int) (l : List Int) : spec_PaintLine.j0 k x0 y0 x1 y1 c true w h l = some (0, 0, [], false) := by
  obtain ⟨k, rfl⟩ : ∃ m, k = m + 1 := ⟨k - 1, by omega⟩
  simp [spec_PaintLine.j0]
theorem line_bad (w h : Int) (l : List Int) (hl : l.length ≤ 1048576) (x0 y0 x1 y1 c : Int) (hf : ¬ Fine w h l x0 y0 x1 y1 c) (k : Nat) (hk : 1048600 ≤ k) :
    spec_PaintLine.f k w h l x0 y0 x1 y1 c = some (0, 0, [], false) ∧ impl_PaintLine.f k w h l x0 y0 x1 y1 c = some (0, 0, [], false) := by
  unfold spec_PaintLine.f impl_PaintLine.f
  rw [sgood_eq w h l hl k (by omega), igood_eq w h l hl k (by omega), Option.bind_some, Option.bind_some]
  by_cases hg : GoodS w h l
  · rw [decide_eq_true hg, if_pos rfl, if_pos rfl, scolor_eq, Option.bind_some]
    constructor
    · by_cases hc : 0 ≤ c ∧ c ≤ 16777215
      · rw [decide_eq_true hc]
        obtain ⟨k, rfl⟩ : ∃ m, k = m + 10 := ⟨k - 10, by omega⟩
        rw [spec_PaintLine.j0, if_neg (by decide), Option.bind_some]
        have w1 : wrap64 (0 + 1) = 1 := w64 (by omega) (by omega)
        have w2 : wrap64 (1 + 1) = 2 := w64 (by omega) (by omega)
        have w3 : wrap64 (2 + 1) = 3 := w64 (by omega) (by omega)
        have w4 : wrap64 (3 + 1) = 4 := w64 (by omega) (by omega)
        have hroom : ¬ (Room x0 ∧ Room y0 ∧ Room x1 ∧ Room y1) := fun h4 => hf ⟨hg, h4.1, h4.2.1, h4.2.2.1, h4.2.2.2, hc.1, hc.2⟩
        rw [spec_PaintLine.l0, if_pos (by simp), if_pos (by omega), if_pos (by simp), l1In_eq, Option.bind_some]
        by_cases h0 : Room x0
        · rw [if_pos (by simpa [rd, Room] using h0), w1, spec_PaintLine.l0, if_pos (by simp), if_pos (by omega), if_pos (by simp), l1In_eq, Option.bind_some]
          by_cases h1 : Room y0
          · rw [if_pos (by simpa [rd, Room] using h1), w2, spec_PaintLine.l0, if_pos (by simp), if_pos (by omega), if_pos (by simp), l1In_eq, Option.bind_some]
            by_cases h2 : Room x1
            · rw [if_pos (by simpa [rd, Room] using h2), w3, spec_PaintLine.l0, if_pos (by simp), if_pos (by omega), if_pos (by simp), l1In_eq, Option.bind_some]
              by_cases h3 : Room y1
              · exact absurd ⟨h0, h1, h2, h3⟩ hroom
              · rw [if_neg (by simpa [rd, Room] using h3)]
            · rw [if_neg (by simpa [rd, Room] using h2)]
          · rw [if_neg (by simpa [rd, Room] using h1)]
        · rw [if_neg (by simpa [rd, Room] using h0)]
      · rw [decide_eq_false hc]
        exact sbad k (by omega) _ _ _ _ _ _ _ _
    · rw [isRoom_eq, Option.bind_some]
      by_cases h0 : Room x0
      · rw [decide_eq_true h0, if_pos rfl, isRoom_eq, Option.bind_some]
        by_cases h1 : Room y0
        · rw [decide_eq_true h1, if_pos rfl, isRoom_eq, Option.bind_some]
          by_cases h2 : Room x1
          · rw [decide_eq_true h2, if_pos rfl, isRoom_eq, Option.bind_some]
            by_cases h3 : Room y1
            · rw [decide_eq_true h3, if_pos rfl, icolor_eq, Option.bind_some]
              by_cases hc : 0 ≤ c ∧ c ≤ 16777215
              · exact absurd ⟨hg, h0, h1, h2, h3, hc.1, hc.2⟩ hf
              · rw [decide_eq_false hc]
                exact ibad k (by omega) _ _ _ _ _ _ _ _
            · rw [decide_eq_false h3, if_neg (by decide), ibad k (by omega)]
          · rw [decide_eq_false h2, if_neg (by decide), ibad k (by omega)]
        · rw [decide_eq_false h1, if_neg (by decide), ibad k (by omega)]
      · rw [decide_eq_false h0, if_neg (by decide), ibad k (by omega)]
  · rw [decide_eq_false hg, if_neg (by decide), if_neg (by decide)]
    exact ⟨sbad k (by omega) _ _ _ _ _ _ _ _, ibad k (by omega) _ _ _ _ _ _ _ _⟩
theorem line_fine (w h : Int) (l : List Int) (hl : l.length ≤ 1048576) (x0 y0 x1 y1 c : Int) (hf : Fine w h l x0 y0 x1 y1 c) (k : Nat) (hk : 1048600 ≤ k) :
    ∃ r, spec_PaintLine.f k w h l x0 y0 x1 y1 c = some (w, h, r, true) ∧ impl_PaintLine.f k w h l x0 y0 x1 y1 c = some (w, h, r, true) ∧ r.length = l.length := by
  obtain ⟨hg, g0, g1, g2, g3, hc⟩ := hf
  unfold spec_PaintLine.f impl_PaintLine.f
  rw [sgood_eq w h l hl k (by omega), igood_eq w h l hl k (by omega), Option.bind_some, Option.bind_some, decide_eq_true hg, if_pos rfl, if_pos rfl, scolor_eq, Option.bind_some, isRoom_eq, Option.bind_some, decide_eq_true g0, if_pos rfl, isRoom_eq, Option.bind_some, decide_eq_true g1, if_pos rfl, isRoom_eq, Option.bind_some, decide_eq_true g2, if_pos rfl, isRoom_eq, Option.bind_some, decide_eq_true g3, if_pos rfl, icolor_eq, Option.bind_some, decide_eq_true hc]
  obtain ⟨hw, hh, hlen, _⟩ := hg
  obtain ⟨k, rfl⟩ : ∃ m, k = m + 20 := ⟨k - 20, by omega⟩
  have w1 : wrap64 (0 + 1) = 1 := w64 (by omega) (by omega)
  have w2 : wrap64 (1 + 1) = 2 := w64 (by omega) (by omega)
  have w3 : wrap64 (2 + 1) = 3 := w64 (by omega) (by omega)
  have w4 : wrap64 (3 + 1) = 4 := w64 (by omega) (by omega)
  have q0 := g0
  have q1 := g1
  have q2 := g2
  have q3 := g3
  obtain ⟨a0, b0⟩ := q0
  obtain ⟨a1, b1⟩ := q1
  obtain ⟨a2, b2⟩ := q2
  obtain ⟨a3, b3⟩ := q3
  rw [spec_PaintLine.j0, if_neg (by decide), Option.bind_some]
  rw [spec_PaintLine.l0, if_pos (by simp), if_pos (by omega), if_pos (by simp), l1In_eq, Option.bind_some, if_pos (by simpa [rd, Room] using g0), w1]
  rw [spec_PaintLine.l0, if_pos (by simp), if_pos (by omega), if_pos (by simp), l1In_eq, Option.bind_some, if_pos (by simpa [rd, Room] using g1), w2]
  rw [spec_PaintLine.l0, if_pos (by simp), if_pos (by omega), if_pos (by simp), l1In_eq, Option.bind_some, if_pos (by simpa [rd, Room] using g2), w3]
  rw [spec_PaintLine.l0, if_pos (by simp), if_pos (by omega), if_pos (by simp), l1In_eq, Option.bind_some, if_pos (by simpa [rd, Room] using g3), w4]
  rw [spec_PaintLine.l0, if_neg (by simp), Option.bind_some, if_pos (by simp; omega), Option.bind_some, List.nil_append]
  rw [impl_PaintLine.j0, if_neg (by decide)]
  unfold impl_Sheet_clone.f slices_Clone_int_int.f
  rw [if_pos (by omega), Option.bind_some, Option.bind_some]
  dsimp only
  rw [w64 (n := x1 - x0) (by omega) (by omega), w64 (n := y1 - y0) (by omega) (by omega), size_abs (x1 - x0) (by omega) (by omega), size_abs (y1 - y0) (by omega) (by omega), l1Abs_abs (x1 - x0) (by omega) (by omega), l1Abs_abs (y1 - y0) (by omega) (by omega), Option.bind_some, Option.bind_some, Option.bind_some, Option.bind_some]
  have hA0 : 0 ≤ (if x1 - x0 < 0 then -(x1 - x0) else x1 - x0) ∧ (if x1 - x0 < 0 then -(x1 - x0) else x1 - x0) ≤ 20000 := by constructor <;> split <;> omega
  have hB0 : 0 ≤ (if y1 - y0 < 0 then -(y1 - y0) else y1 - y0) ∧ (if y1 - y0 < 0 then -(y1 - y0) else y1 - y0) ≤ 20000 := by constructor <;> split <;> omega
  generalize (if x1 - x0 < 0 then -(x1 - x0) else x1 - x0) = A at *
  generalize (if y1 - y0 < 0 then -(y1 - y0) else y1 - y0) = B at *
  obtain ⟨n, hn⟩ : ∃ n, n = mx A B := ⟨_, rfl⟩
  have hn0 : 0 ≤ n ∧ n ≤ 20000 := by
    rw [hn]; unfold mx
    constructor <;> (split <;> omega)
  have hns : (if B > A then spec_PaintLine.j2 (k + 14) x0 y0 x1 y1 c B w h l else spec_PaintLine.j2 (k + 14) x0 y0 x1 y1 c A w h l) = spec_PaintLine.j2 (k + 14) x0 y0 x1 y1 c n w h l := by
    rw [hn]; unfold mx
    by_cases hgt : A < B
    · rw [if_pos hgt, if_pos hgt]
    · rw [if_neg hgt, if_neg hgt]
  rw [hns, ← hn]
  clear hns hn
  by_cases hz : n = 0
  · subst hz
    refine ⟨PT w h l x0 y0 c, ?_, ?_, PT_length _ _ _ _ _ _⟩
    · rw [spec_PaintLine.j2, if_pos rfl, sput_eq w h l hw hh hlen, Option.bind_some, spec_PaintLine.j3, spec_PaintLine.l1, if_pos (by omega), spec_PaintLine.j5, if_neg (by decide)]
    · rw [impl_PaintLine.l0, if_pos (by omega), if_pos rfl, iput_eq w h l hw hh hlen, Option.bind_some]
  · obtain ⟨r, r1, r2, r3⟩ := lines_go w h hw hh x0 y0 x1 y1 c n g0 g1 g2 g3 (by omega) hn0.2 (n.toNat + 1) 0 l (by omega) (by omega) hlen
    refine ⟨r, ?_, ?_, r3⟩
    · rw [spec_PaintLine.j2, if_neg hz, spec_PaintLine.j3]
      exact r1 (k + 11) (by omega)
    · exact r2 (k + 18) (by omega)
theorem law_all (w h : Int) (l : List Int) (hl : l.length ≤ 9223372036854775807) (x0 y0 x1 y1 c : Int) : laws_FnExactPaintLine.f 2000000 w h l x0 y0 x1 y1 c = some true := by
  unfold laws_FnExactPaintLine.f
  obtain ⟨t, ht, hlt⟩ := szSheet_eq w h l hl
  rw [ht, Option.bind_some]
  by_cases hneg : t < 0
  · rw [if_pos hneg]
  · have hl' := hlt hneg
    have hres : ∃ a b r o, spec_PaintLine.f 2000000 w h l x0 y0 x1 y1 c = some (a, b, r, o) ∧ impl_PaintLine.f 2000000 w h l x0 y0 x1 y1 c = some (a, b, r, o) ∧ r.length ≤ 1048576 := by
      by_cases hf : Fine w h l x0 y0 x1 y1 c
      · obtain ⟨r, r1, r2, r3⟩ := line_fine w h l hl' x0 y0 x1 y1 c hf 2000000 (by omega)
        exact ⟨_, _, r, _, r1, r2, by omega⟩
      · obtain ⟨r1, r2⟩ := line_bad w h l hl' x0 y0 x1 y1 c hf 2000000 (by omega)
        exact ⟨_, _, _, _, r1, r2, by simp⟩
    obtain ⟨a, b, r, o, hs, hi, hr⟩ := hres
    rw [if_neg hneg, toSheet_eq w h l hl' 2000000 (by omega), Option.bind_some]
    dsimp only
    rw [hs, Option.bind_some, Option.bind_some, hi, Option.bind_some]
    dsimp only
    rw [eqSheet_self a b r hr 2000000 (by omega), Option.bind_some, if_pos rfl, if_neg (by simp), Option.bind_some]
    dsimp only
    rw [eqSheet_self w h l hl' 2000000 (by omega), Option.bind_some, if_pos rfl, markSheet_eq w h l hl' 2000000 (by omega), Option.bind_some]
    dsimp only
    rw [if_neg (by omega), Option.bind_some, if_pos rfl, markSheet_eq a b r hr 2000000 (by omega)]
    try rw [if_neg (by simp)]
    rw [Option.bind_some]
    dsimp only
    rw [heldSheet_eq a b r.length hr 2000000 (by omega), Option.bind_some, if_neg (by omega), if_pos rfl, Option.bind_some]
    dsimp only
    rw [hi, Option.bind_some]
    dsimp only
    rw [eqSheet_self a b r hr 2000000 (by omega), Option.bind_some, if_pos rfl, if_neg (by simp), Option.bind_some, if_neg (by omega), if_pos rfl]
theorem law_pure : laws_FnExactPaintLine.Pure := fun w h l x0 y0 x1 y1 c _ _ hl _ _ _ _ _ => ⟨2000000, law_all w h l hl.1 x0 y0 x1 y1 c⟩

theorem FnExactPaintLine : laws_FnExactPaintLine.Pure := law_pure
end Go.Proofs.Ytnebjoanfknmeaa.Pure
