/-
  The law of the next match, in plain lists and numbers.
-/
import Derived.Test.YtjbkagmfkcoclaaXFnExactNextMatchx10
namespace Go.Proofs.Ytjbkagmfkcoclaa.Pure
open Go.RowKit Go.Proofs.Ytjbkagmfkcoclaa.XFnExactNextMatch Go.Proofs.YtjbkagmfkcoclaaW.PrintWords Go.Proofs.YtjbkagmfkcoclaaW.PrintLast
set_option linter.unusedVariables false
set_option linter.unusedSimpArgs false
theorem w64 {n : Int} (h0 : -9223372036854775808 ≤ n) (h1 : n ≤ 9223372036854775807) : wrap64 n = n := by unfold wrap64; omega
theorem inRange_eq (a b c : Int) : impl_inRange.f a b c = some (decide (b ≤ a ∧ a ≤ c)) := by
  unfold impl_inRange.f
  by_cases h : b ≤ a
  · rw [if_pos h]; congr 1; rw [decide_eq_decide]; exact ⟨fun h2 => ⟨h, h2⟩, fun h2 => h2.2⟩
  · rw [if_neg h]; congr 1; symm; rw [decide_eq_false_iff_not]; exact fun h2 => h h2.1
theorem l1In_eq (a b c : Int) : spec_l1In.f a b c = some (decide (b ≤ a ∧ a ≤ c)) := by
  unfold spec_l1In.f
  by_cases h : b ≤ a
  · rw [if_pos h]; congr 1; rw [decide_eq_decide]; exact ⟨fun h2 => ⟨h, h2⟩, fun h2 => h2.2⟩
  · rw [if_neg (by omega)]; congr 1; symm; rw [decide_eq_false_iff_not]; exact fun h2 => h h2.1
/-! ### names -/
def isD (c : Int) : Bool := decide (48 ≤ c ∧ c ≤ 57)
def isL (c : Int) : Bool := decide ((97 ≤ c ∧ c ≤ 122) ∨ (65 ≤ c ∧ c ≤ 90))
theorem sdigit_eq (c : Int) : spec_l1Digit.f c = some (isD c) := by
  unfold spec_l1Digit.f isD
  by_cases h : 48 ≤ c
  · rw [if_pos h]; congr 1; rw [decide_eq_decide]; omega
  · rw [if_neg (by omega)]; congr 1; symm; rw [decide_eq_false_iff_not]; omega
theorem idigit_eq (c : Int) : impl_isDigit.f c = some (isD c) := by
  unfold impl_isDigit.f isD
  by_cases h : 48 ≤ c
  · rw [if_pos h]; congr 1; rw [decide_eq_decide]; omega
  · rw [if_neg (by omega)]; congr 1; symm; rw [decide_eq_false_iff_not]; omega
theorem sletter_eq (c : Int) : spec_l1Letter.f c = some (isL c || (c == 95)) := by
  unfold spec_l1Letter.f isL
  by_cases h95 : c = 95
  · subst h95; decide
  · have : (c == 95) = false := by simp [h95]
    rw [this, Bool.or_false]
    (repeat' split) <;> (congr 1; symm; first | (rw [decide_eq_true_eq]; omega) | (rw [decide_eq_false_iff_not]; omega))
theorem iletter_eq (c : Int) : impl_isLetter.f c = some (isL c) := by
  unfold impl_isLetter.f isL
  (repeat' split) <;> (congr 1; symm; first | (rw [decide_eq_true_eq]; omega) | (rw [decide_eq_false_iff_not]; omega) | (rw [decide_eq_decide]; omega))
def okc (c : Int) : Bool := (isL c || (c == 95)) || isD c
def okFrom (x : ByteArray) : Nat → Int → Bool
  | 0, _ => true
  | d + 1, i => okc (bt x i) && okFrom x d (i + 1)
theorem sname_go (x : ByteArray) (hx : x.size ≤ 1048576) (d : Nat) : ∀ (k : Nat) (i : Int), d < k → 0 ≤ i → i + d = x.size → spec_GoodName.l0 k x i = some (okFrom x d i) := by
  induction d with
  | zero =>
    intro k i hk h0 hi
    obtain ⟨k, rfl⟩ : ∃ m, k = m + 1 := ⟨k - 1, by omega⟩
    rw [spec_GoodName.l0, if_neg (by omega)]; rfl
  | succ d ih =>
    intro k i hk h0 hi
    obtain ⟨k, rfl⟩ : ∃ m, k = m + 1 := ⟨k - 1, by omega⟩
    rw [spec_GoodName.l0, if_pos (by omega), if_pos h0, sletter_eq, Option.bind_some, sdigit_eq, Option.bind_some, w64 (n := i + 1) (by omega) (by omega), ih k (i + 1) (by omega) (by omega) (by omega)]
    show _ = some (okc (bt x i) && okFrom x d (i + 1))
    unfold okc
    cases (isL (bt x i) || (bt x i == 95)) <;> cases isD (bt x i) <;> simp
theorem iname_go (x : ByteArray) (hx : x.size ≤ 1048576) (d : Nat) : ∀ (k : Nat) (i : Int), d < k → 1 ≤ i → i + d = x.size → impl_GoodName.l0 k x (x.size : Int) i = some (okFrom x d i && decide (1 ≤ (x.size : Int) ∧ (x.size : Int) ≤ 20)) := by
  induction d with
  | zero =>
    intro k i hk h0 hi
    obtain ⟨k, rfl⟩ : ∃ m, k = m + 1 := ⟨k - 1, by omega⟩
    rw [impl_GoodName.l0, if_neg (by omega), inRange_eq, Option.bind_some]; rfl
  | succ d ih =>
    intro k i hk h0 hi
    obtain ⟨k, rfl⟩ : ∃ m, k = m + 1 := ⟨k - 1, by omega⟩
    rw [impl_GoodName.l0, if_pos (by omega), if_pos (by omega), if_pos (by omega), iletter_eq, Option.bind_some, idigit_eq, Option.bind_some, w64 (n := i + 1) (by omega) (by omega), ih k (i + 1) (by omega) (by omega) (by omega), if_neg (show ¬ i = 0 by omega)]
    show _ = some ((okc (bt x i) && okFrom x d (i + 1)) && _)
    unfold okc
    by_cases h95 : bt x i = 95
    · rw [if_pos h95]; simp [h95]
    · rw [if_neg h95]
      have : (bt x i == 95) = false := by simp [h95]
      rw [this]
      cases isL (bt x i) <;> cases isD (bt x i) <;> simp
def GN (x : ByteArray) : Bool := decide (1 ≤ (x.size : Int) ∧ (x.size : Int) ≤ 20) && ((isL (bt x 0) || (bt x 0 == 95)) && okFrom x (x.size - 1) 1)
theorem sname_eq (x : ByteArray) (hx : x.size ≤ 1048576) (k : Nat) (hk : 1048600 ≤ k) : spec_GoodName.f k x = some (GN x) := by
  unfold spec_GoodName.f GN
  obtain ⟨k, rfl⟩ : ∃ m, k = m + 1 := ⟨k - 1, by omega⟩
  by_cases h0 : (x.size : Int) < 1
  · rw [if_pos h0, spec_GoodName.j0, if_pos rfl, decide_eq_false (by omega)]; rfl
  · rw [if_neg h0]
    by_cases h1 : (x.size : Int) > 20
    · rw [if_pos h1, spec_GoodName.j0, if_pos rfl, decide_eq_false (by omega)]; rfl
    · rw [if_neg h1, if_pos (by omega), sdigit_eq, Option.bind_some, spec_GoodName.j0, decide_eq_true (by omega), Bool.true_and]
      obtain ⟨d, hd⟩ : ∃ d, x.size = d + 1 := ⟨x.size - 1, by omega⟩
      rw [sname_go x hx (d + 1) k 0 (by omega) (by omega) (by omega)]
      rw [show x.size - 1 = d by omega]
      show (if isD (bt x 0) = true then _ else some (okc (bt x 0) && okFrom x d (0 + 1))) = _
      by_cases hD : isD (bt x 0) = true
      · have hD2 := hD
        unfold isD at hD2
        rw [decide_eq_true_eq] at hD2
        have hL : isL (bt x 0) = false := by unfold isL; rw [decide_eq_false_iff_not]; omega
        have h95 : (bt x 0 == 95) = false := by simp; omega
        rw [if_pos hD, hL, h95]; rfl
      · rw [if_neg hD]
        unfold okc
        have hD2 : isD (bt x 0) = false := by simpa using hD
        rw [hD2, Bool.or_false]; rfl
theorem iname_eq (x : ByteArray) (hx : x.size ≤ 1048576) (k : Nat) (hk : 1048600 ≤ k) : impl_GoodName.f k x = some (GN x) := by
  unfold impl_GoodName.f GN
  obtain ⟨k, rfl⟩ : ∃ m, k = m + 1 := ⟨k - 1, by omega⟩
  by_cases h0 : (x.size : Int) < 1
  · rw [impl_GoodName.l0, if_neg (by omega), inRange_eq, Option.bind_some, decide_eq_false (by omega)]; rfl
  · obtain ⟨d, hd⟩ : ∃ d, x.size = d + 1 := ⟨x.size - 1, by omega⟩
    rw [impl_GoodName.l0, if_pos (by omega), if_pos (by omega), if_pos (by omega), iletter_eq, Option.bind_some, if_pos (show (0 : Int) = 0 from rfl), w64 (n := 0 + 1) (by omega) (by omega), iname_go x hx d k (0 + 1) (by omega) (by omega) (by omega), show x.size - 1 = d by omega]
    by_cases h95 : bt x 0 = 95
    · rw [if_pos h95]; simp [h95, Bool.and_comm]
    · rw [if_neg h95]
      have : (bt x 0 == 95) = false := by simp [h95]
      rw [this]
      cases isL (bt x 0) <;> simp [Bool.and_comm]
/-! ### players -/
def PL (p : S106) : Bool := GN p.f0 && (decide (0 ≤ p.f1 ∧ p.f1 ≤ 4000) && decide (0 ≤ p.f2 ∧ p.f2 ≤ 100000))
theorem splayer_eq (p : S106) (hx : p.f0.size ≤ 1048576) (k : Nat) (hk : 1048600 ≤ k) : spec_l25Player.f k p.f0 p.f1 p.f2 = some (PL p) := by
  unfold spec_l25Player.f PL
  rw [sname_eq _ hx k hk, Option.bind_some, l1In_eq, Option.bind_some, l1In_eq, Option.bind_some]
  cases GN p.f0 <;> cases decide (0 ≤ p.f1 ∧ p.f1 ≤ 4000) <;> simp
theorem iplayer_eq (p : S106) (hx : p.f0.size ≤ 1048576) (k : Nat) (hk : 1048600 ≤ k) : impl_isPlayer.f k p.f0 p.f1 p.f2 = some (PL p) := by
  unfold impl_isPlayer.f impl_isTime.f PL
  rw [iname_eq _ hx k hk, Option.bind_some, inRange_eq, Option.bind_some, inRange_eq, Option.bind_some, Option.bind_some]
  cases GN p.f0 <;> cases decide (0 ≤ p.f1 ∧ p.f1 ≤ 4000) <;> simp
def lt (l : List S106) (i : Int) : Bool := if i > 0 then Op.bytesLess ((rd_T106 l (i - 1)).f0).toList ((rd_T106 l i).f0).toList else true
def GP (l : List S106) : Nat → Int → Bool
  | 0, _ => true
  | d + 1, i => PL (rd_T106 l i) && (lt l i && GP l d (i + 1))
def Sm (l : List S106) : Prop := ∀ p ∈ l, p.f0.size ≤ 1048576
theorem rdT_mem {l : List S106} {i : Int} (h0 : 0 ≤ i) (h : i < l.length) : rd_T106 l i ∈ l := by
  unfold rd_T106
  rw [List.getD_eq_getElem?_getD, List.getElem?_eq_getElem (by omega)]
  exact List.getElem_mem _
theorem splayers_go (l : List S106) (hs : Sm l) (hl : l.length ≤ 1048576) (d : Nat) : ∀ (k : Nat) (i : Int), d + 1048600 < k → 0 ≤ i → i + d = l.length → spec_GoodPlayers.l0 k l l (l.length : Int) i = some (GP l d i) := by
  induction d with
  | zero =>
    intro k i hk h0 hi
    obtain ⟨k, rfl⟩ : ∃ m, k = m + 1 := ⟨k - 1, by omega⟩
    rw [spec_GoodPlayers.l0, if_neg (by omega)]; rfl
  | succ d ih =>
    intro k i hk h0 hi
    obtain ⟨k, rfl⟩ : ∃ m, k = m + 1 := ⟨k - 1, by omega⟩
    rw [spec_GoodPlayers.l0, if_pos (by omega), if_pos h0, if_pos (by omega), splayer_eq _ (hs _ (rdT_mem h0 (by omega))) k (by omega), Option.bind_some, w64 (n := i + 1) (by omega) (by omega), ih k (i + 1) (by omega) (by omega) (by omega)]
    show _ = some (PL (rd_T106 l i) && (lt l i && GP l d (i + 1)))
    unfold lt
    by_cases hi0 : i > 0
    · rw [if_pos hi0, w64 (n := i - 1) (by omega) (by omega), if_pos (show 0 ≤ i - 1 by omega), if_pos (show i - 1 < (l.length : Int) by omega), if_pos hi0]
      cases PL (rd_T106 l i) <;> cases Op.bytesLess ((rd_T106 l (i - 1)).f0).toList ((rd_T106 l i).f0).toList <;> simp
    · rw [if_neg hi0, if_neg hi0]
      cases PL (rd_T106 l i) <;> simp
theorem iplayers_go (l : List S106) (hs : Sm l) (hl : l.length ≤ 1048576) (d : Nat) : ∀ (k : Nat) (i : Int), d + 1048600 < k → 0 ≤ i → i + d = l.length → impl_GoodPlayers.l0 k l l (l.length : Int) i = some (GP l d i && decide ((l.length : Int) ≤ 12)) := by
  induction d with
  | zero =>
    intro k i hk h0 hi
    obtain ⟨k, rfl⟩ : ∃ m, k = m + 1 := ⟨k - 1, by omega⟩
    rw [impl_GoodPlayers.l0, if_neg (by omega)]; rfl
  | succ d ih =>
    intro k i hk h0 hi
    obtain ⟨k, rfl⟩ : ∃ m, k = m + 1 := ⟨k - 1, by omega⟩
    rw [impl_GoodPlayers.l0, if_pos (by omega), if_pos h0, if_pos (by omega), iplayer_eq _ (hs _ (rdT_mem h0 (by omega))) k (by omega), Option.bind_some, w64 (n := i + 1) (by omega) (by omega), ih k (i + 1) (by omega) (by omega) (by omega)]
    show _ = some ((PL (rd_T106 l i) && (lt l i && GP l d (i + 1))) && _)
    unfold lt
    by_cases hi0 : i > 0
    · rw [if_pos hi0, w64 (n := i - 1) (by omega) (by omega), if_pos (show 0 ≤ i - 1 by omega), if_pos (show i - 1 < (l.length : Int) by omega), if_pos hi0]
      cases PL (rd_T106 l i) <;> cases Op.bytesLess ((rd_T106 l (i - 1)).f0).toList ((rd_T106 l i).f0).toList <;> simp
    · rw [if_neg hi0, if_neg hi0]
      cases PL (rd_T106 l i) <;> simp
def GoodP (l : List S106) : Bool := GP l l.length 0 && decide ((l.length : Int) ≤ 12)
theorem splayers_eq (l : List S106) (hs : Sm l) (hl : l.length ≤ 1048576) (k : Nat) (hk : 2200000 ≤ k) : spec_GoodPlayers.f k l = some (GoodP l) := by
  unfold spec_GoodPlayers.f GoodP
  by_cases h : (l.length : Int) > 12
  · rw [if_pos h, decide_eq_false (by omega), Bool.and_false]
  · rw [if_neg h, splayers_go l hs hl l.length k 0 (by omega) (by omega) (by omega), decide_eq_true (by omega), Bool.and_true]
theorem iplayers_eq (l : List S106) (hs : Sm l) (hl : l.length ≤ 1048576) (k : Nat) (hk : 2200000 ≤ k) : impl_GoodPlayers.f k l = some (GoodP l) := by
  unfold impl_GoodPlayers.f GoodP
  rw [iplayers_go l hs hl l.length k 0 (by omega) (by omega) (by omega)]
def Rng (p : S106) : Prop := (0 ≤ p.f1 ∧ p.f1 ≤ 4000) ∧ (0 ≤ p.f2 ∧ p.f2 ≤ 100000)
theorem GP_rng (l : List S106) (d : Nat) : ∀ i : Int, 0 ≤ i → GP l d i = true → ∀ j : Int, i ≤ j → j < i + d → Rng (rd_T106 l j) := by
  induction d with
  | zero => intro i _ _ j h1 h2; omega
  | succ d ih =>
    intro i h0 h j h1 h2
    rw [GP, Bool.and_eq_true, Bool.and_eq_true] at h
    by_cases hj : j = i
    · subst hj
      have hp := h.1
      unfold PL at hp
      simp only [Bool.and_eq_true, decide_eq_true_eq] at hp
      exact hp.2
    · exact ih (i + 1) (by omega) h.2.2 j (by omega) (by omega)
theorem good_rng (l : List S106) (h : GoodP l = true) : ∀ p ∈ l, Rng p := by
  intro p hp
  unfold GoodP at h
  rw [Bool.and_eq_true] at h
  obtain ⟨i, hi, rfl⟩ := List.getElem_of_mem hp
  have h2 := GP_rng l l.length 0 (by omega) h.1 (i : Int) (by omega) (by omega)
  unfold rd_T106 at h2
  rw [List.getD_eq_getElem?_getD, List.getElem?_eq_getElem (by omega)] at h2
  simpa using h2

/-! ### the pairs -/
abbrev St := List ByteArray × Int × Int
def dist (p q : S106) : Int := if p.f1 - q.f1 < 0 then -(p.f1 - q.f1) else p.f1 - q.f1
def wide (now : Int) (p : S106) : Int := if 50 + (now - p.f2).tdiv 10 > 1000 then 1000 else 50 + (now - p.f2).tdiv 10
def far (now : Int) (p q : S106) : Bool := decide (dist p q > wide now p ∨ dist p q > wide now q)
def better (p q : S106) (st : St) : Bool := decide ((st.1.length : Int) = 0 ∨ p.f2 + q.f2 < st.2.1 ∨ (p.f2 + q.f2 = st.2.1 ∧ dist p q < st.2.2))
def step (now : Int) (p q : S106) (st : St) : St := if far now p q = true then st else if better p q st = true then ([p.f0, q.f0], p.f2 + q.f2, dist p q) else st
def inn (now : Int) (p : S106) (l : List S106) : Nat → Int → St → St
  | 0, _, st => st
  | d + 1, j, st => inn now p l d (j + 1) (step now p (rd_T106 l j) st)
def out (now : Int) (l : List S106) : Nat → Int → St → St
  | 0, _, st => st
  | d + 1, i, st => out now l d (i + 1) (inn now (rd_T106 l i) (l.drop (i + 1).toNat) (l.length - (i + 1)).toNat 0 st)
theorem step_len (now : Int) (p q : S106) (st : St) (h : st.1.length ≤ 2) : (step now p q st).1.length ≤ 2 := by
  unfold step; split
  · exact h
  · split
    · simp
    · exact h
theorem inn_len (now : Int) (p : S106) (l : List S106) (d : Nat) : ∀ (j : Int) (st : St), st.1.length ≤ 2 → (inn now p l d j st).1.length ≤ 2 := by
  induction d with
  | zero => intro j st h; exact h
  | succ d ih => intro j st h; exact ih _ _ (step_len _ _ _ _ h)
theorem out_len (now : Int) (l : List S106) (d : Nat) : ∀ (j : Int) (st : St), st.1.length ≤ 2 → (out now l d j st).1.length ≤ 2 := by
  induction d with
  | zero => intro j st h; exact h
  | succ d ih => intro j st h; exact ih _ _ (inn_len _ _ _ _ _ _ h)
theorem tdiv10 (x : Int) (h0 : -100000 ≤ x) (h1 : x ≤ 100000) : -100000 ≤ x.tdiv 10 ∧ x.tdiv 10 ≤ 100000 := by
  rcases Int.le_total 0 x with h | h
  · rw [Int.tdiv_eq_ediv_of_nonneg h]; omega
  · obtain ⟨z, rfl⟩ : ∃ z, x = -z := ⟨-x, by omega⟩
    rw [Int.neg_tdiv, Int.tdiv_eq_ediv_of_nonneg (a := z) (by omega)]; omega
theorem swide_eq (p : S106) (now : Int) (hp : Rng p) (h0 : 0 ≤ now) (h1 : now ≤ 100000) : spec_l25Wide.f p.f0 p.f1 p.f2 now = some (wide now p) := by
  obtain ⟨⟨a, b⟩, c, d⟩ := hp
  have ht := tdiv10 (now - p.f2) (by omega) (by omega)
  unfold spec_l25Wide.f wide
  rw [w64 (n := now - p.f2) (by omega) (by omega), w64 (n := (now - p.f2).tdiv 10) (by omega) (by omega), w64 (n := 50 + (now - p.f2).tdiv 10) (by omega) (by omega)]
  split <;> rfl
theorem iwide_eq (p : S106) (now : Int) (hp : Rng p) (h0 : 0 ≤ now) (h1 : now ≤ 100000) : impl_Player_wide.f p.f0 p.f1 p.f2 now = some (wide now p) := by
  obtain ⟨⟨a, b⟩, c, d⟩ := hp
  have ht := tdiv10 (now - p.f2) (by omega) (by omega)
  unfold impl_Player_wide.f wide mn
  rw [w64 (n := now - p.f2) (by omega) (by omega), w64 (n := (now - p.f2).tdiv 10) (by omega) (by omega), w64 (n := 50 + (now - p.f2).tdiv 10) (by omega) (by omega)]
theorem sabs_eq (p q : S106) (hp : Rng p) (hq : Rng q) : spec_l1Abs.f (wrap64 (p.f1 - q.f1)) = some (dist p q) := by
  obtain ⟨⟨a, b⟩, _⟩ := hp
  obtain ⟨⟨c, d⟩, _⟩ := hq
  unfold spec_l1Abs.f dist
  rw [w64 (n := p.f1 - q.f1) (by omega) (by omega), w64 (n := -(p.f1 - q.f1)) (by omega) (by omega)]
  split <;> rfl
theorem isize_eq (p q : S106) (hp : Rng p) (hq : Rng q) : impl_size.f (wrap64 (p.f1 - q.f1)) = some (dist p q) := by
  obtain ⟨⟨a, b⟩, _⟩ := hp
  obtain ⟨⟨c, d⟩, _⟩ := hq
  unfold impl_size.f dist mx
  rw [w64 (n := p.f1 - q.f1) (by omega) (by omega), w64 (n := -(p.f1 - q.f1)) (by omega) (by omega)]
  congr 1
  (repeat' split) <;> omega
theorem compare_eq (a b : Int) : cmp_Compare_int.f a b = some (if a < b then -1 else if a > b then 1 else 0) := by
  unfold cmp_Compare_int.f cmp_isNaN_int.f
  simp only [Option.bind_some, bne_self_eq_false, Bool.false_eq_true, if_false]
  split
  · rfl
  · split <;> rfl
theorem or_eq (a b : Int) (k : Nat) (hk : 3 ≤ k) : cmp_Or_int.f k [a, b] = some (if a = 0 then b else a) := by
  obtain ⟨k, rfl⟩ : ∃ m, k = m + 3 := ⟨k - 3, by omega⟩
  unfold cmp_Or_int.f
  have r0 : rd [a, b] 0 = a := rfl
  have r1 : rd [a, b] 1 = b := rfl
  have w1 : wrap64 (0 + 1) = 1 := w64 (by omega) (by omega)
  have w2 : wrap64 (1 + 1) = 2 := w64 (by omega) (by omega)
  rw [cmp_Or_int.l0, if_pos (by simp), if_pos (by omega), if_pos (by simp), r0, w1]
  by_cases h : a = 0
  · rw [if_pos h, if_pos h, cmp_Or_int.l0, if_pos (by simp), if_pos (by omega), if_pos (by simp), r1, w2]
    by_cases h2 : b = 0
    · rw [if_pos h2, cmp_Or_int.l0, if_neg (by simp), h2]
    · rw [if_neg h2]
  · rw [if_neg h, if_neg h]
theorem s_inn (now : Int) (h0 : 0 ≤ now) (h1 : now ≤ 100000) (l xs m : List S106) (n i : Int) (p : S106) (hp : Rng p) (hm : ∀ q ∈ m, Rng q) (hml : m.length ≤ 1048576) (hi : 0 ≤ i ∧ i ≤ 1048576) (d : Nat) :
    ∀ (j : Int) (st : St), 0 ≤ j → j + d = m.length → ∀ k, spec_NextMatch.l2 (k + (2 * d + 1)) l now st.1 st.2.1 st.2.2 xs n i m (m.length : Int) j p.f0 p.f1 p.f2 = spec_NextMatch.l1 k l now (inn now p m d j st).1 (inn now p m d j st).2.1 (inn now p m d j st).2.2 xs n (i + 1) := by
  induction d with
  | zero =>
    intro j st hj hd k
    rw [spec_NextMatch.l2, if_neg (by omega), w64 (n := i + 1) (by omega) (by omega)]; rfl
  | succ d ih =>
    intro j st hj hd k
    have hq := hm _ (rdT_mem (l := m) hj (by omega))
    rw [show k + (2 * (d + 1) + 1) = k + (2 * d + 1) + 2 by omega, spec_NextMatch.l2, if_pos (by omega), if_pos hj, if_pos (by omega), sabs_eq p _ hp hq, Option.bind_some, swide_eq p now hp h0 h1, Option.bind_some]
    have hih := fun st' => ih (j + 1) st' (by omega) (by omega) k
    show _ = spec_NextMatch.l1 k l now (inn now p m d (j + 1) (step now p (rd_T106 m j) st)).1 (inn now p m d (j + 1) (step now p (rd_T106 m j) st)).2.1 (inn now p m d (j + 1) (step now p (rd_T106 m j) st)).2.2 xs n (i + 1)
    rw [← hih]
    have hwj : wrap64 (j + 1) = j + 1 := w64 (by omega) (by omega)
    generalize rd_T106 m j = q at hq ⊢
    have hws : wrap64 (p.f2 + q.f2) = p.f2 + q.f2 := by
      obtain ⟨_, a, b⟩ := hp
      obtain ⟨_, c, e⟩ := hq
      exact w64 (by omega) (by omega)
    rw [hws]
    have hfar : ∀ (b : Bool), b = far now p q → spec_NextMatch.j4 (k + (2 * d + 1) + 1) l now st.1 st.2.1 st.2.2 (dist p q) (p.f2 + q.f2) xs n i m (m.length : Int) j b p.f0 p.f1 p.f2 q.f0 q.f1 q.f2 = spec_NextMatch.l2 (k + (2 * d + 1)) l now (step now p q st).1 (step now p q st).2.1 (step now p q st).2.2 xs n i m (m.length : Int) (j + 1) p.f0 p.f1 p.f2 := by
      intro b hb
      rw [spec_NextMatch.j4, hb, hwj]
      unfold step
      by_cases hf : far now p q = true
      · rw [if_pos hf, if_pos hf]
      · rw [if_neg hf, if_neg hf]
        unfold better
        by_cases c1 : (st.1.length : Int) = 0
        · rw [if_pos c1, if_pos (by simp [c1])]
        · rw [if_neg c1]
          by_cases c2 : p.f2 + q.f2 < st.2.1
          · rw [if_pos c2, if_pos (by rw [decide_eq_true_eq]; exact .inr (.inl c2))]
          · rw [if_neg c2]
            by_cases c3 : p.f2 + q.f2 = st.2.1
            · rw [if_pos c3]
              by_cases c4 : dist p q < st.2.2
              · rw [if_pos c4, if_pos (by rw [decide_eq_true_eq]; exact .inr (.inr ⟨c3, c4⟩))]
              · rw [if_neg c4, if_neg (by rw [decide_eq_true_eq]; rintro (h | h | h); exact c1 h; exact c2 h; exact c4 h.2)]
            · rw [if_neg c3, if_neg (by rw [decide_eq_true_eq]; rintro (h | h | h); exact c1 h; exact c2 h; exact c3 h.1)]
    by_cases hw1 : dist p q > wide now p
    · rw [if_pos hw1]
      exact hfar true (by unfold far; symm; rw [decide_eq_true_eq]; exact .inl hw1)
    · rw [if_neg hw1, swide_eq q now hq h0 h1, Option.bind_some]
      exact hfar _ (by unfold far; rw [decide_eq_decide]; exact ⟨.inr, fun h => h.resolve_left hw1⟩)
theorem i_inn (now : Int) (h0 : 0 ≤ now) (h1 : now ≤ 100000) (l xs m : List S106) (n i : Int) (p : S106) (hp : Rng p) (hm : ∀ q ∈ m, Rng q) (hml : m.length ≤ 1048576) (hi : 0 ≤ i ∧ i ≤ 1048576) (d : Nat) :
    ∀ (j : Int) (st : St), 0 ≤ j → j + d = m.length → ∀ k, 5 ≤ k → impl_NextMatch.l1 (k + (d + 1)) l st.1 st.2.1 st.2.2 xs n i m (m.length : Int) j now p.f0 p.f1 p.f2 = impl_NextMatch.l0 k l (inn now p m d j st).1 (inn now p m d j st).2.1 (inn now p m d j st).2.2 xs n (i + 1) now := by
  induction d with
  | zero =>
    intro j st hj hd k hk
    rw [impl_NextMatch.l1, if_neg (by omega), w64 (n := i + 1) (by omega) (by omega)]; rfl
  | succ d ih =>
    intro j st hj hd k hk
    have hq := hm _ (rdT_mem (l := m) hj (by omega))
    rw [show k + (d + 1 + 1) = k + (d + 1) + 1 by omega, impl_NextMatch.l1, if_pos (by omega), if_pos hj, if_pos (by omega), isize_eq p _ hp hq, Option.bind_some, iwide_eq p now hp h0 h1, Option.bind_some, iwide_eq _ now hq h0 h1, Option.bind_some]
    have hih := fun st' => ih (j + 1) st' (by omega) (by omega) k hk
    show _ = impl_NextMatch.l0 k l (inn now p m d (j + 1) (step now p (rd_T106 m j) st)).1 (inn now p m d (j + 1) (step now p (rd_T106 m j) st)).2.1 (inn now p m d (j + 1) (step now p (rd_T106 m j) st)).2.2 xs n (i + 1) now
    rw [← hih]
    have hwj : wrap64 (j + 1) = j + 1 := w64 (by omega) (by omega)
    generalize rd_T106 m j = q at hq ⊢
    have hws : wrap64 (p.f2 + q.f2) = p.f2 + q.f2 := by
      obtain ⟨_, a, b⟩ := hp
      obtain ⟨_, c, e⟩ := hq
      exact w64 (by omega) (by omega)
    rw [hws, hwj, compare_eq, compare_eq, Option.bind_some, Option.bind_some, or_eq _ _ _ (by omega), Option.bind_some]
    unfold step
    have hfar : (dist p q > mn (wide now p) (wide now q)) ↔ far now p q = true := by
      unfold far mn
      rw [decide_eq_true_eq]
      split <;> omega
    by_cases hf : far now p q = true
    · rw [if_pos (hfar.2 hf), if_pos hf]
    · rw [if_neg (fun h => hf (hfar.1 h)), if_neg hf]
      unfold better
      by_cases c1 : (st.1.length : Int) = 0
      · rw [if_pos c1, if_pos (by simp [c1])]
      · rw [if_neg c1]
        by_cases c2 : p.f2 + q.f2 < st.2.1
        · rw [if_pos (by (repeat' split) <;> omega), if_pos (by rw [decide_eq_true_eq]; exact .inr (.inl c2))]
        · by_cases c3 : p.f2 + q.f2 = st.2.1
          · by_cases c4 : dist p q < st.2.2
            · rw [if_pos (by (repeat' split) <;> omega), if_pos (by rw [decide_eq_true_eq]; exact .inr (.inr ⟨c3, c4⟩))]
            · rw [if_neg (by (repeat' split) <;> omega), if_neg (by rw [decide_eq_true_eq]; rintro (h | h | h); exact c1 h; exact c2 h; exact c4 h.2)]
          · rw [if_neg (by (repeat' split) <;> omega), if_neg (by rw [decide_eq_true_eq]; rintro (h | h | h); exact c1 h; exact c2 h; exact c3 h.1)]
theorem s_out (now : Int) (h0 : 0 ≤ now) (h1 : now ≤ 100000) (l : List S106) (hl : l.length ≤ 12) (hr : ∀ q ∈ l, Rng q) (d : Nat) :
    ∀ (i : Int) (st : St), 0 ≤ i → i + d = l.length → ∀ k, d * 40 < k → spec_NextMatch.l1 k l now st.1 st.2.1 st.2.2 l (l.length : Int) i = some ((out now l d i st).1, true) := by
  induction d with
  | zero =>
    intro i st hi hd k hk
    obtain ⟨k, rfl⟩ : ∃ m, k = m + 1 := ⟨k - 1, by omega⟩
    rw [spec_NextMatch.l1, if_neg (by omega)]; rfl
  | succ d ih =>
    intro i st hi hd k hk
    have hlen : (l.drop (i + 1).toNat).length = (l.length - (i + 1)).toNat := by rw [List.length_drop]; omega
    obtain ⟨k, rfl⟩ : ∃ m, k = m + (2 * (l.length - (i + 1)).toNat + 1) + 1 := ⟨k - (2 * (l.length - (i + 1)).toNat + 2), by omega⟩
    rw [spec_NextMatch.l1, if_pos (by omega), if_pos hi, if_pos (by omega), w64 (n := i + 1) (by omega) (by omega), if_pos (by omega), if_pos (by omega), Option.bind_some]
    have hp := hr _ (rdT_mem (l := l) hi (by omega))
    rw [s_inn now h0 h1 l l (l.drop (i + 1).toNat) (l.length : Int) i (rd_T106 l i) hp (fun q hq => hr q (List.mem_of_mem_drop hq)) (by omega) ⟨hi, by omega⟩ (l.length - (i + 1)).toNat 0 st (by omega) (by omega) k]
    exact ih (i + 1) _ (by omega) (by omega) k (by omega)
theorem i_out (now : Int) (h0 : 0 ≤ now) (h1 : now ≤ 100000) (l : List S106) (hl : l.length ≤ 12) (hr : ∀ q ∈ l, Rng q) (d : Nat) :
    ∀ (i : Int) (st : St), 0 ≤ i → i + d = l.length → ∀ k, d * 40 + 10 < k → impl_NextMatch.l0 k l st.1 st.2.1 st.2.2 l (l.length : Int) i now = some ((out now l d i st).1, true) := by
  induction d with
  | zero =>
    intro i st hi hd k hk
    obtain ⟨k, rfl⟩ : ∃ m, k = m + 1 := ⟨k - 1, by omega⟩
    rw [impl_NextMatch.l0, if_neg (by omega)]; rfl
  | succ d ih =>
    intro i st hi hd k hk
    have hlen : (l.drop (i + 1).toNat).length = (l.length - (i + 1)).toNat := by rw [List.length_drop]; omega
    obtain ⟨k, rfl⟩ : ∃ m, k = m + ((l.length - (i + 1)).toNat + 1) + 1 := ⟨k - ((l.length - (i + 1)).toNat + 2), by omega⟩
    rw [impl_NextMatch.l0, if_pos (by omega), if_pos hi, if_pos (by omega), w64 (n := i + 1) (by omega) (by omega), if_pos (by omega), if_pos (by omega), Option.bind_some]
    have hp := hr _ (rdT_mem (l := l) hi (by omega))
    rw [i_inn now h0 h1 l l (l.drop (i + 1).toNat) (l.length : Int) i (rd_T106 l i) hp (fun q hq => hr q (List.mem_of_mem_drop hq)) (by omega) ⟨hi, by omega⟩ (l.length - (i + 1)).toNat 0 st (by omega) (by omega) k (by omega)]
    exact ih (i + 1) _ (by omega) (by omega) k (by omega)
/-! ### the whole -/
def late (l : List S106) (now : Int) : Nat → Int → Bool
  | 0, _ => false
  | d + 1, i => decide ((rd_T106 l i).f2 > now) || late l now d (i + 1)
theorem s_late (l : List S106) (hl : l.length ≤ 1048576) (now : Int) (d : Nat) : ∀ (i : Int), 0 ≤ i → i + d = l.length → ∀ k, late l now d i = true → d < k → spec_NextMatch.l0 k l now l (l.length : Int) i = some ([], false) := by
  induction d with
  | zero => intro i _ _ k h; simp [late] at h
  | succ d ih =>
    intro i hi hd k h hk
    obtain ⟨k, rfl⟩ : ∃ m, k = m + 1 := ⟨k - 1, by omega⟩
    rw [spec_NextMatch.l0, if_pos (by omega), if_pos hi, if_pos (by omega)]
    by_cases h2 : (rd_T106 l i).f2 > now
    · rw [if_pos h2]
    · rw [if_neg h2, w64 (n := i + 1) (by omega) (by omega)]
      rw [late, decide_eq_false h2, Bool.false_or] at h
      exact ih (i + 1) (by omega) (by omega) k h (by omega)
theorem s_early (l : List S106) (hl : l.length ≤ 1048576) (now : Int) (d : Nat) : ∀ (i : Int), 0 ≤ i → i + d = l.length → ∀ k, late l now d i = false → spec_NextMatch.l0 (k + (d + 1)) l now l (l.length : Int) i = spec_NextMatch.l1 k l now [] 0 0 l (l.length : Int) 0 := by
  induction d with
  | zero =>
    intro i _ _ k _
    rw [spec_NextMatch.l0, if_neg (by omega)]
  | succ d ih =>
    intro i hi hd k h
    rw [late, Bool.or_eq_false_iff, decide_eq_false_iff_not] at h
    rw [show k + (d + 1 + 1) = k + (d + 1) + 1 by omega, spec_NextMatch.l0, if_pos (by omega), if_pos hi, if_pos (by omega), if_neg h.1, w64 (n := i + 1) (by omega) (by omega)]
    exact ih (i + 1) (by omega) (by omega) k h.2
theorem i_late (l : List S106) (hl : l.length ≤ 1048576) (now : Int) (d : Nat) : ∀ (i : Int), 0 ≤ i → i + d = l.length → ∀ k, d < k → ∃ r, slices_IndexFunc_at77.l0 k l (l.length : Int) i now = some (r, now) ∧ decide (r ≥ 0) = late l now d i := by
  induction d with
  | zero =>
    intro i hi hd k hk
    obtain ⟨k, rfl⟩ : ∃ m, k = m + 1 := ⟨k - 1, by omega⟩
    exact ⟨-1, by rw [slices_IndexFunc_at77.l0, if_neg (by omega)], by simp [late]⟩
  | succ d ih =>
    intro i hi hd k hk
    obtain ⟨k, rfl⟩ : ∃ m, k = m + 1 := ⟨k - 1, by omega⟩
    rw [slices_IndexFunc_at77.l0, if_pos (by omega), if_pos hi, if_pos (by omega)]
    unfold impl_NextMatch_1_c.f
    rw [Option.bind_some]
    dsimp only
    by_cases h2 : (rd_T106 l i).f2 > now
    · rw [decide_eq_true h2, if_pos rfl]
      exact ⟨i, rfl, by rw [late, decide_eq_true h2, Bool.true_or, decide_eq_true hi]⟩
    · rw [decide_eq_false h2, if_neg (by decide), w64 (n := i + 1) (by omega) (by omega)]
      rw [late, decide_eq_false h2, Bool.false_or]
      exact ih (i + 1) (by omega) (by omega) k (by omega)
def NM (l : List S106) (now : Int) : List ByteArray × Bool :=
  if GoodP l = true ∧ (0 ≤ now ∧ now ≤ 100000) ∧ late l now l.length 0 = false then ((out now l l.length 0 ([], 0, 0)).1, true) else ([], false)
theorem NM_len (l : List S106) (now : Int) : (NM l now).1.length ≤ 2 := by
  unfold NM
  split
  · exact out_len _ _ _ _ _ (by simp)
  · simp
theorem sbad (k : Nat) (hk : 1 ≤ k) (l : List S106) (now : Int) : spec_NextMatch.j0 k l now true = some ([], false) := by
  obtain ⟨k, rfl⟩ : ∃ m, k = m + 1 := ⟨k - 1, by omega⟩
  rw [spec_NextMatch.j0, if_pos rfl]
theorem ibad (k : Nat) (hk : 1 ≤ k) (l : List S106) (now : Int) : impl_NextMatch.j0 k l true now = some ([], false) := by
  obtain ⟨k, rfl⟩ : ∃ m, k = m + 1 := ⟨k - 1, by omega⟩
  rw [impl_NextMatch.j0, if_pos rfl]
theorem snm_eq (l : List S106) (hs : Sm l) (hl : l.length ≤ 1048576) (now : Int) (k : Nat) (hk : 3000000 ≤ k) : spec_NextMatch.f k l now = some (NM l now) := by
  unfold spec_NextMatch.f NM
  rw [splayers_eq l hs hl k (by omega), Option.bind_some]
  by_cases hg : GoodP l = true
  · rw [if_pos hg, l1In_eq, Option.bind_some]
    by_cases hn : 0 ≤ now ∧ now ≤ 100000
    · have h12 : (l.length : Int) ≤ 12 := by
        have := hg
        unfold GoodP at this
        rw [Bool.and_eq_true, decide_eq_true_eq] at this
        exact this.2
      rw [decide_eq_true hn]
      obtain ⟨k, rfl⟩ : ∃ m, k = m + (l.length + 1) + 1 := ⟨k - (l.length + 2), by omega⟩
      rw [spec_NextMatch.j0, if_neg (by decide)]
      by_cases hla : late l now l.length 0 = true
      · rw [s_late l hl now l.length 0 (by omega) (by omega) _ hla (by omega), if_neg (by rw [hla]; simp)]
      · have hla2 : late l now l.length 0 = false := by simpa using hla
        rw [s_early l hl now l.length 0 (by omega) (by omega) k hla2, if_pos ⟨hg, hn, hla2⟩]
        exact s_out now hn.1 hn.2 l (by omega) (good_rng l hg) l.length 0 ([], 0, 0) (by omega) (by omega) k (by omega)
    · rw [decide_eq_false hn, if_neg (fun h => hn h.2.1)]
      exact sbad k (by omega) l now
  · rw [if_neg hg, if_neg (fun h => hg h.1), sbad k (by omega)]
theorem inm_eq (l : List S106) (hs : Sm l) (hl : l.length ≤ 1048576) (now : Int) (k : Nat) (hk : 3000000 ≤ k) : impl_NextMatch.f k l now = some (NM l now) := by
  unfold impl_NextMatch.f NM
  rw [iplayers_eq l hs hl k (by omega), Option.bind_some]
  by_cases hg : GoodP l = true
  · rw [if_pos hg]
    unfold impl_isTime.f
    rw [inRange_eq, Option.bind_some, Option.bind_some]
    by_cases hn : 0 ≤ now ∧ now ≤ 100000
    · have h12 : (l.length : Int) ≤ 12 := by
        have := hg
        unfold GoodP at this
        rw [Bool.and_eq_true, decide_eq_true_eq] at this
        exact this.2
      rw [decide_eq_true hn, if_pos rfl]
      unfold slices_ContainsFunc_at77.f slices_IndexFunc_at77.f
      obtain ⟨r, hr, hr2⟩ := i_late l hl now l.length 0 (by omega) (by omega) k (by omega)
      rw [hr, Option.bind_some, Option.bind_some]
      dsimp only
      rw [hr2]
      by_cases hla : late l now l.length 0 = true
      · rw [hla, if_neg (by simp), ibad k (by omega)]
      · have hla2 : late l now l.length 0 = false := by simpa using hla
        rw [hla2, if_pos ⟨hg, hn, rfl⟩]
        obtain ⟨k, rfl⟩ : ∃ m, k = m + 1 := ⟨k - 1, by omega⟩
        rw [impl_NextMatch.j0, if_neg (by decide)]
        exact i_out now hn.1 hn.2 l (by omega) (good_rng l hg) l.length 0 ([], 0, 0) (by omega) (by omega) k (by omega)
    · rw [decide_eq_false hn, if_neg (by decide), if_neg (fun h => hn h.2.1), ibad k (by omega)]
  · rw [if_neg hg, if_neg (fun h => hg h.1), ibad k (by omega)]

/-! ### copies, marks -/
theorem seq_go (l : List ByteArray) (hl : l.length ≤ 1048576) (d : Nat) : ∀ (k : Nat) (i : Int), d < k → 0 ≤ i → i + d = l.length → laws_eqStringS.l0 k l l i = some true := by
  induction d with
  | zero =>
    intro k i hk h0 hi
    obtain ⟨k, rfl⟩ : ∃ m, k = m + 1 := ⟨k - 1, by omega⟩
    rw [laws_eqStringS.l0, if_neg (by omega)]
  | succ d ih =>
    intro k i hk h0 hi
    obtain ⟨k, rfl⟩ : ∃ m, k = m + 1 := ⟨k - 1, by omega⟩
    rw [laws_eqStringS.l0, if_pos (by omega), if_pos h0, if_pos (by omega), if_pos rfl, w64 (n := i + 1) (by omega) (by omega)]
    exact ih k (i + 1) (by omega) (by omega) (by omega)
theorem seq_self (l : List ByteArray) (hl : l.length ≤ 1048576) (k : Nat) (hk : 1048600 ≤ k) : laws_eqStringS.f k l l = some true := by
  unfold laws_eqStringS.f
  rw [if_pos rfl]
  exact seq_go l hl l.length k 0 (by omega) (by omega) (by omega)
theorem peq_go (l : List S106) (hl : l.length ≤ 1048576) (d : Nat) : ∀ (k : Nat) (i : Int), d < k → 0 ≤ i → i + d = l.length → laws_eqPlayerS.l0 k l l i = some true := by
  induction d with
  | zero =>
    intro k i hk h0 hi
    obtain ⟨k, rfl⟩ : ∃ m, k = m + 1 := ⟨k - 1, by omega⟩
    rw [laws_eqPlayerS.l0, if_neg (by omega)]
  | succ d ih =>
    intro k i hk h0 hi
    obtain ⟨k, rfl⟩ : ∃ m, k = m + 1 := ⟨k - 1, by omega⟩
    rw [laws_eqPlayerS.l0, if_pos (by omega), if_pos h0, if_pos (by omega)]
    unfold laws_eqPlayer.f
    rw [if_pos rfl, if_pos rfl, if_pos rfl, Option.bind_some, if_pos rfl, w64 (n := i + 1) (by omega) (by omega)]
    exact ih k (i + 1) (by omega) (by omega) (by omega)
theorem peq_self (l : List S106) (hl : l.length ≤ 1048576) (k : Nat) (hk : 1048600 ≤ k) : laws_eqPlayerS.f k l l = some true := by
  unfold laws_eqPlayerS.f
  rw [if_pos rfl]
  exact peq_go l hl l.length k 0 (by omega) (by omega) (by omega)
theorem text_go (d : Nat) : ∀ (c : Int) (t : ByteArray), 0 ≤ c → c < 10 ^ d → c ≤ 1000000000 → t.size ≤ 1000 - d → d ≤ 1000 → ∃ r, ∀ k, d < k → laws_markText.l0 k c t = some r := by
  induction d with
  | zero =>
    intro c t h0 h1 _ ht _
    refine ⟨(⟨#[109]⟩ : ByteArray) ++ t, fun k hk => ?_⟩
    obtain ⟨k, rfl⟩ : ∃ m, k = m + 1 := ⟨k - 1, by omega⟩
    rw [laws_markText.l0, if_neg (by simp at h1; omega), if_pos (by omega)]
  | succ d ih =>
    intro c t h0 h1 hb ht hd
    by_cases hc : c > 0
    · have hp : (10 : Int) ^ (d + 1) = 10 ^ d * 10 := Int.pow_succ _ _
      have hsz : (strOfNums [(wrap64 (48 + c.tmod 10)) % 256]).size = 1 := rfl
      have hdv : c.tdiv 10 = c / 10 := Int.tdiv_eq_ediv_of_nonneg h0
      obtain ⟨r, hr⟩ := ih (c / 10) (strOfNums [(wrap64 (48 + c.tmod 10)) % 256] ++ t) (by omega) (by omega) (by omega) (by rw [ByteArray.size_append, hsz]; omega) (by omega)
      refine ⟨r, fun k hk => ?_⟩
      obtain ⟨k, rfl⟩ : ∃ m, k = m + 1 := ⟨k - 1, by omega⟩
      rw [laws_markText.l0, if_pos hc, Option.bind_some, hsz, if_pos (by omega), hdv, w64 (n := c / 10) (by omega) (by omega)]
      exact hr k (by omega)
    · refine ⟨(⟨#[109]⟩ : ByteArray) ++ t, fun k hk => ?_⟩
      obtain ⟨k, rfl⟩ : ∃ m, k = m + 1 := ⟨k - 1, by omega⟩
      rw [laws_markText.l0, if_neg hc, if_pos (by omega)]
theorem text_tot (c : Int) (hb : c ≤ 1000000000) : ∃ r, ∀ k, 20 < k → laws_markText.f k c = some r := by
  by_cases h : c ≤ 0
  · exact ⟨(⟨#[109, 48]⟩ : ByteArray), fun k _ => by unfold laws_markText.f; rw [if_pos h]⟩
  · obtain ⟨r, hr⟩ := text_go 10 c (⟨#[]⟩ : ByteArray) (by omega) (by have : (10 : Int) ^ 10 = 10000000000 := by decide
                                                                      omega) hb (by show (0 : Nat) ≤ _; omega) (by omega)
    exact ⟨r, fun k hk => by unfold laws_markText.f; rw [if_neg h]; exact hr k (by omega)⟩
theorem pmark_go (d : Nat) : ∀ (k : Nat) (xs : List S106) (c i : Int), d + 30 < k → 0 ≤ i → i + d = xs.length → xs.length ≤ 1048576 → 0 ≤ c → c + 3 * d ≤ 100000000 → ∃ ys, laws_markPlayerS.l0 k xs c i = some (c + 3 * d, ys) := by
  induction d with
  | zero =>
    intro k xs c i hk h0 hi hl hc hc1
    obtain ⟨k, rfl⟩ : ∃ m, k = m + 1 := ⟨k - 1, by omega⟩
    exact ⟨xs, by rw [laws_markPlayerS.l0, if_neg (by omega)]; simp⟩
  | succ d ih =>
    intro k xs c i hk h0 hi hl hc hc1
    obtain ⟨k, rfl⟩ : ∃ m, k = m + 1 := ⟨k - 1, by omega⟩
    obtain ⟨r, hr⟩ := text_tot c (by omega)
    rw [laws_markPlayerS.l0, if_pos (by omega), hr k (by omega), Option.bind_some, if_pos h0, Option.bind_some, Option.bind_some, w64 (n := c + 1) (by omega) (by omega), w64 (n := c + 1 + 1) (by omega) (by omega), w64 (n := c + 1 + 1 + 1) (by omega) (by omega), w64 (n := i + 1) (by omega) (by omega)]
    refine (?_ : ∀ zs : List S106, zs.length = xs.length → ∃ ys, laws_markPlayerS.l0 k zs (c + 1 + 1 + 1) (i + 1) = some (c + 3 * ((d + 1 : Nat) : Int), ys)) _ (by simp only [List.length_set])
    intro zs hz
    obtain ⟨ys, hys⟩ := ih k zs (c + 1 + 1 + 1) (i + 1) (by omega) (by omega) (by omega) (by omega) (by omega) (by omega)
    refine ⟨ys, ?_⟩
    rw [hys]
    congr 2
    omega
theorem pmark_tot (xs : List S106) (hl : xs.length ≤ 1048576) (k : Nat) (hk : 1048700 ≤ k) : ∃ c ys, laws_markPlayerS.f k xs 1 = some (c, ys) ∧ 0 ≤ c := by
  obtain ⟨ys, h⟩ := pmark_go xs.length k xs 1 0 (by omega) (by omega) (by omega) hl (by omega) (by omega)
  exact ⟨_, ys, h, by omega⟩
/-- What marks are held, from the i-th place on. -/
def Held (ys : List ByteArray) (c : Int) (i d : Nat) : Prop := ∀ j, j < d → ∃ r, ys[i + j]? = some r ∧ ∀ k, 20 < k → laws_markText.f k (c + j) = some r
theorem smark_go (d : Nat) : ∀ (k : Nat) (xs : List ByteArray) (c : Int) (i : Nat), d + 30 < k → i + d = xs.length → xs.length ≤ 1048576 → 0 ≤ c → c + d ≤ 100000000 →
    ∃ ys, laws_markStringS.l0 k xs c (i : Int) = some (c + d, ys) ∧ ys.length = xs.length ∧ (∀ j, j < i → ys[j]? = xs[j]?) ∧ Held ys c i d := by
  induction d with
  | zero =>
    intro k xs c i hk hi hl hc hc1
    obtain ⟨k, rfl⟩ : ∃ m, k = m + 1 := ⟨k - 1, by omega⟩
    exact ⟨xs, by rw [laws_markStringS.l0, if_neg (by omega)]; simp, rfl, fun _ _ => rfl, fun j hj => by omega⟩
  | succ d ih =>
    intro k xs c i hk hi hl hc hc1
    obtain ⟨k, rfl⟩ : ∃ m, k = m + 1 := ⟨k - 1, by omega⟩
    obtain ⟨r, hr⟩ := text_tot c (by omega)
    obtain ⟨ys, h1, h2, h3, h4⟩ := ih k (xs.set i r) (c + 1) (i + 1) (by omega) (by rw [List.length_set]; omega) (by rw [List.length_set]; omega) (by omega) (by omega)
    rw [laws_markStringS.l0, if_pos (by omega), hr k (by omega), Option.bind_some, if_pos (by omega), w64 (n := c + 1) (by omega) (by omega), w64 (n := (i : Int) + 1) (by omega) (by omega), show ((i : Int) + 1) = ((i + 1 : Nat) : Int) by omega, show ((i : Int)).toNat = i by omega]
    refine ⟨ys, by rw [h1]; congr 2; omega, by rw [h2, List.length_set], fun j hj => ?_, fun j hj => ?_⟩
    · rw [h3 j (by omega), List.getElem?_set_ne (by omega)]
    · rcases Nat.eq_zero_or_pos j with h0 | h0
      · subst h0
        refine ⟨r, ?_, by simpa using hr⟩
        rw [Nat.add_zero, h3 i (by omega), List.getElem?_set_self (by omega)]
      · obtain ⟨r2, g1, g2⟩ := h4 (j - 1) (by omega)
        refine ⟨r2, by rw [← g1]; congr 1; omega, ?_⟩
        rw [show c + (j : Int) = c + 1 + ((j - 1 : Nat) : Int) by omega]
        exact g2
theorem sheld_go (ys : List ByteArray) (hl : ys.length ≤ 1048576) (d : Nat) : ∀ (k : Nat) (c : Int) (i : Nat), d + 30 < k → i + d = ys.length → 0 ≤ c → c + d ≤ 100000000 → Held ys c i d → laws_heldStringS.l0 k ys c (i : Int) = some (c + d) := by
  induction d with
  | zero =>
    intro k c i hk hi hc hc1 _
    obtain ⟨k, rfl⟩ : ∃ m, k = m + 1 := ⟨k - 1, by omega⟩
    rw [laws_heldStringS.l0, if_neg (by omega)]; simp
  | succ d ih =>
    intro k c i hk hi hc hc1 h
    obtain ⟨k, rfl⟩ : ∃ m, k = m + 1 := ⟨k - 1, by omega⟩
    obtain ⟨r, h1, h2⟩ := h 0 (by omega)
    have hr := h2 k (by omega)
    rw [show c + ((0 : Nat) : Int) = c by omega] at hr
    have hrd : rdOf ByteArray.empty ys (i : Int) = r := by
      unfold rdOf
      rw [List.getD_eq_getElem?_getD, show ((i : Int)).toNat = i by omega]
      rw [Nat.add_zero] at h1
      rw [h1]; rfl
    rw [laws_heldStringS.l0, if_pos (by omega), if_pos (by omega), hr, Option.bind_some, hrd, if_pos rfl, w64 (n := c + 1) (by omega) (by omega), w64 (n := (i : Int) + 1) (by omega) (by omega), show ((i : Int) + 1) = ((i + 1 : Nat) : Int) by omega, ih k (c + 1) (i + 1) (by omega) (by omega) (by omega) (by omega)]
    · congr 1; omega
    · intro j hj
      obtain ⟨r2, g1, g2⟩ := h (j + 1) (by omega)
      refine ⟨r2, by rw [← g1]; congr 1; omega, ?_⟩
      rw [show c + 1 + (j : Int) = c + ((j + 1 : Nat) : Int) by omega]
      exact g2
theorem smark_tot (xs : List ByteArray) (hl : xs.length ≤ 1048576) (k : Nat) (hk : 1048700 ≤ k) : ∃ c ys, laws_markStringS.f k xs 1 = some (c, ys) ∧ 0 ≤ c ∧ laws_heldStringS.f k ys 1 = some c := by
  obtain ⟨ys, h1, h2, _, h4⟩ := smark_go xs.length k xs 1 0 (by omega) (by omega) hl (by omega) (by omega)
  exact ⟨_, ys, h1, by omega, sheld_go ys (by omega) xs.length k 1 0 (by omega) (by omega) (by omega) (by omega) h4⟩
/-! ### the law -/
def conv (p : S103) : S106 := ⟨p.f0, p.f1, p.f2⟩
def Len (l : List S103) : Prop := ∀ p ∈ l, p.f0.size ≤ 9223372036854775807
theorem rdS_mem {l : List S103} {i : Int} (h0 : 0 ≤ i) (h : i < l.length) : rd_T103 l i ∈ l := by
  unfold rd_T103
  rw [List.getD_eq_getElem?_getD, List.getElem?_eq_getElem (by omega)]
  exact List.getElem_mem _
theorem sz_go (l : List S103) (hs : Len l) (hl : l.length ≤ 1048576) (d : Nat) : ∀ (k : Nat) (b i : Int), d < k → 0 ≤ i → i + d = l.length → 0 ≤ b → b ≤ 1048576 →
    ∃ t, laws_szPlayerS.l0 k l b i = some t ∧ (¬ t < 0 → ∀ j : Int, i ≤ j → j < l.length → ((rd_T103 l j).f0.size : Int) ≤ 1048576) := by
  induction d with
  | zero =>
    intro k b i hk h0 hi hb hb1
    obtain ⟨k, rfl⟩ : ∃ m, k = m + 1 := ⟨k - 1, by omega⟩
    exact ⟨b, by rw [laws_szPlayerS.l0, if_neg (by omega)], fun _ j h1 h2 => by omega⟩
  | succ d ih =>
    intro k b i hk h0 hi hb hb1
    obtain ⟨k, rfl⟩ : ∃ m, k = m + 1 := ⟨k - 1, by omega⟩
    have hz := hs _ (rdS_mem (l := l) h0 (by omega))
    rw [laws_szPlayerS.l0, if_pos (by omega), if_pos h0]
    unfold laws_szPlayer.f
    rw [w64 (n := b - ((rd_T103 l i).f0.size : Int)) (by omega) (by omega)]
    by_cases hn : b - ((rd_T103 l i).f0.size : Int) < 0
    · rw [if_pos hn, Option.bind_some, if_pos (by omega)]
      exact ⟨-1, rfl, fun h => absurd (by omega) h⟩
    · rw [if_neg hn, Option.bind_some, if_neg hn, w64 (n := i + 1) (by omega) (by omega)]
      obtain ⟨t, ht, h2⟩ := ih k (b - ((rd_T103 l i).f0.size : Int)) (i + 1) (by omega) (by omega) (by omega) (by omega) (by omega)
      refine ⟨t, ht, fun h j h3 h4 => ?_⟩
      by_cases hj : j = i
      · subst hj; omega
      · exact h2 h j (by omega) h4
theorem sz_eq (l : List S103) (hs : Len l) (hl : l.length ≤ 9223372036854775807) (k : Nat) (hk : 1048600 ≤ k) : ∃ t, laws_szPlayerS.f k l 1048576 = some t ∧ (¬ t < 0 → l.length ≤ 1048576 ∧ ∀ p ∈ l, p.f0.size ≤ 1048576) := by
  unfold laws_szPlayerS.f
  rw [w64 (n := 1048576 - (l.length : Int)) (by omega) (by omega)]
  by_cases hn : 1048576 - (l.length : Int) < 0
  · rw [if_pos hn]
    exact ⟨-1, rfl, fun h => absurd (by omega) h⟩
  · rw [if_neg hn]
    obtain ⟨t, ht, h2⟩ := sz_go l hs (by omega) l.length k (1048576 - (l.length : Int)) 0 (by omega) (by omega) (by omega) (by omega) (by omega)
    refine ⟨t, ht, fun h => ⟨by omega, fun p hp => ?_⟩⟩
    obtain ⟨i, hi, rfl⟩ := List.getElem_of_mem hp
    have h3 := h2 h (i : Int) (by omega) (by omega)
    unfold rd_T103 at h3
    rw [List.getD_eq_getElem?_getD, List.getElem?_eq_getElem (by omega)] at h3
    have h4 : (((l[i]).f0.size : Int)) ≤ 1048576 := by simpa using h3
    omega
theorem to_go (l : List S103) (hl : l.length ≤ 1048576) (d : Nat) : ∀ (k : Nat) (ys : List S106) (i : Nat), d < k → i + d = l.length → ys.length = l.length → (∀ j, j < i → ys[j]? = (l.map conv)[j]?) → laws_toPlayerS.l0 k l ys (i : Int) = some (l.map conv) := by
  induction d with
  | zero =>
    intro k ys i hk hi hy h
    obtain ⟨k, rfl⟩ : ∃ m, k = m + 1 := ⟨k - 1, by omega⟩
    rw [laws_toPlayerS.l0, if_neg (by omega)]
    congr 1
    apply List.ext_getElem?
    intro j
    by_cases hj : j < i
    · exact h j hj
    · rw [List.getElem?_eq_none (by omega), List.getElem?_eq_none (by rw [List.length_map]; omega)]
  | succ d ih =>
    intro k ys i hk hi hy h
    obtain ⟨k, rfl⟩ : ∃ m, k = m + 1 := ⟨k - 1, by omega⟩
    rw [laws_toPlayerS.l0, if_pos (by omega), if_pos (by omega)]
    unfold laws_toPlayer.f
    rw [Option.bind_some, if_pos (by omega), w64 (n := (i : Int) + 1) (by omega) (by omega), show ((i : Int) + 1) = ((i + 1 : Nat) : Int) by omega, show ((i : Int)).toNat = i by omega]
    refine ih k _ (i + 1) (by omega) (by omega) (by rw [List.length_set]; exact hy) (fun j hj => ?_)
    by_cases hji : j = i
    · subst hji
      rw [List.getElem?_set_self (by omega), List.getElem?_map, List.getElem?_eq_getElem (by omega)]
      unfold rd_T103
      rw [List.getD_eq_getElem?_getD, show ((j : Int)).toNat = j by omega, List.getElem?_eq_getElem (by omega)]
      rfl
    · rw [List.getElem?_set_ne (by omega)]
      exact h j (by omega)
theorem to_eq (l : List S103) (hl : l.length ≤ 1048576) (k : Nat) (hk : 1048600 ≤ k) : laws_toPlayerS.f k l = some (l.map conv) := by
  unfold laws_toPlayerS.f
  rw [if_pos (by omega), if_pos (by omega)]
  exact to_go l hl l.length k _ 0 (by omega) (by omega) (by simp) (fun j hj => by omega)
theorem law_all (l : List S103) (hs : Len l) (hl : l.length ≤ 9223372036854775807) (now : Int) : laws_FnExactNextMatch.f 4000000 l now = some true := by
  unfold laws_FnExactNextMatch.f
  obtain ⟨t, ht, h2⟩ := sz_eq l hs hl 4000000 (by omega)
  rw [ht, Option.bind_some]
  by_cases hneg : t < 0
  · rw [if_pos hneg]
  · obtain ⟨hl', hs'⟩ := h2 hneg
    rw [if_neg hneg, to_eq l hl' 4000000 (by omega), Option.bind_some]
    have hlm : (l.map conv).length ≤ 1048576 := by rw [List.length_map]; exact hl'
    have hsm : Sm (l.map conv) := by
      intro p hp
      obtain ⟨q, hq, rfl⟩ := List.mem_map.1 hp
      exact hs' q hq
    generalize l.map conv = m at *
    have hr := NM_len m now
    have him := inm_eq m hsm hlm now 4000000 (by omega)
    rw [snm_eq m hsm hlm now 4000000 (by omega), Option.bind_some, Option.bind_some, him, Option.bind_some]
    generalize NM m now = R at *
    rw [seq_self R.1 (by omega) 4000000 (by omega), Option.bind_some, if_pos rfl, if_neg (by simp), Option.bind_some, peq_self m hlm 4000000 (by omega), Option.bind_some, if_pos rfl]
    obtain ⟨c, ys, hc, hc0⟩ := pmark_tot m hlm 4000000 (by omega)
    rw [hc, Option.bind_some]
    dsimp only
    obtain ⟨e, zs, he, he0, hh⟩ := smark_tot R.1 (by omega) 4000000 (by omega)
    rw [if_neg (by omega), Option.bind_some, if_pos rfl, he, Option.bind_some]
    dsimp only
    rw [hh, Option.bind_some, if_neg (by omega), if_pos rfl, Option.bind_some, him, Option.bind_some, seq_self R.1 (by omega) 4000000 (by omega), Option.bind_some, if_pos rfl, if_neg (by simp), Option.bind_some, if_neg (by omega), if_pos rfl]
theorem law_pure : laws_FnExactNextMatch.Pure := fun l now hl _ => ⟨4000000, law_all l (fun p hp => (hl.2 p hp).1) hl.1 now⟩

theorem FnExactNextMatch : laws_FnExactNextMatch.Pure := law_pure
end Go.Proofs.Ytjbkagmfkcoclaa.Pure
