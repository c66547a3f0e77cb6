/-
  The law of the fair teams, in plain lists and numbers.
-/
import Derived.Test.YtjbkagmfkcoclaaXFnExactFairTeamsx10
namespace Go.Proofs.Ytjbkagmfkcoclaa.Pure
open Go.RowKit Go.Proofs.Ytjbkagmfkcoclaa.XFnExactFairTeams Go.Proofs.YtjbkagmfkcoclaaW.PrintWords Go.Proofs.YtjbkagmfkcoclaaW.PrintLast
set_option linter.unusedVariables false
set_option linter.unusedSimpArgs false
theorem w64 {n : Int} (h0 : -9223372036854775808 ≤ n) (h1 : n ≤ 9223372036854775807) : wrap64 n = n := by unfold wrap64; omega
theorem inRange_eq (a b c : Int) : impl_inRange.f a b c = some (decide (b ≤ a ∧ a ≤ c)) := by
  unfold impl_inRange.f
  by_cases h : b ≤ a
  · rw [if_pos h]; congr 1; rw [decide_eq_decide]; exact ⟨fun h2 => ⟨h, h2⟩, fun h2 => h2.2⟩
  · rw [if_neg h]; congr 1; symm; rw [decide_eq_false_iff_not]; exact fun h2 => h h2.1
theorem l1In_eq (a b c : Int) : spec_l1In.f a b c = some (decide (b ≤ a ∧ a ≤ c)) := by
  unfold spec_l1In.f
  by_cases h : b ≤ a
  · rw [if_pos h]; congr 1; rw [decide_eq_decide]; exact ⟨fun h2 => ⟨h, h2⟩, fun h2 => h2.2⟩
  · rw [if_neg (by omega)]; congr 1; symm; rw [decide_eq_false_iff_not]; exact fun h2 => h h2.1
/-! ### names -/
def isD (c : Int) : Bool := decide (48 ≤ c ∧ c ≤ 57)
def isL (c : Int) : Bool := decide ((97 ≤ c ∧ c ≤ 122) ∨ (65 ≤ c ∧ c ≤ 90))
theorem sdigit_eq (c : Int) : spec_l1Digit.f c = some (isD c) := by
  unfold spec_l1Digit.f isD
  by_cases h : 48 ≤ c
  · rw [if_pos h]; congr 1; rw [decide_eq_decide]; omega
  · rw [if_neg (by omega)]; congr 1; symm; rw [decide_eq_false_iff_not]; omega
theorem idigit_eq (c : Int) : impl_isDigit.f c = some (isD c) := by
  unfold impl_isDigit.f isD
  by_cases h : 48 ≤ c
  · rw [if_pos h]; congr 1; rw [decide_eq_decide]; omega
  · rw [if_neg (by omega)]; congr 1; symm; rw [decide_eq_false_iff_not]; omega
theorem sletter_eq (c : Int) : spec_l1Letter.f c = some (isL c || (c == 95)) := by
  unfold spec_l1Letter.f isL
  by_cases h95 : c = 95
  · subst h95; decide
  · have : (c == 95) = false := by simp [h95]
    rw [this, Bool.or_false]
    (repeat' split) <;> (congr 1; symm; first | (rw [decide_eq_true_eq]; omega) | (rw [decide_eq_false_iff_not]; omega))
theorem iletter_eq (c : Int) : impl_isLetter.f c = some (isL c) := by
  unfold impl_isLetter.f isL
  (repeat' split) <;> (congr 1; symm; first | (rw [decide_eq_true_eq]; omega) | (rw [decide_eq_false_iff_not]; omega) | (rw [decide_eq_decide]; omega))
def okc (c : Int) : Bool := (isL c || (c == 95)) || isD c
def okFrom (x : ByteArray) : Nat → Int → Bool
  | 0, _ => true
  | d + 1, i => okc (bt x i) && okFrom x d (i + 1)
theorem sname_go (x : ByteArray) (hx : x.size ≤ 1048576) (d : Nat) : ∀ (k : Nat) (i : Int), d < k → 0 ≤ i → i + d = x.size → spec_GoodName.l0 k x i = some (okFrom x d i) := by
  induction d with
  | zero =>
    intro k i hk h0 hi
    obtain ⟨k, rfl⟩ : ∃ m, k = m + 1 := ⟨k - 1, by omega⟩
    rw [spec_GoodName.l0, if_neg (by omega)]; rfl
  | succ d ih =>
    intro k i hk h0 hi
    obtain ⟨k, rfl⟩ : ∃ m, k = m + 1 := ⟨k - 1, by omega⟩
    rw [spec_GoodName.l0, if_pos (by omega), if_pos h0, sletter_eq, Option.bind_some, sdigit_eq, Option.bind_some, w64 (n := i + 1) (by omega) (by omega), ih k (i + 1) (by omega) (by omega) (by omega)]
    show _ = some (okc (bt x i) && okFrom x d (i + 1))
    unfold okc
    cases (isL (bt x i) || (bt x i == 95)) <;> cases isD (bt x i) <;> simp
theorem iname_go (x : ByteArray) (hx : x.size ≤ 1048576) (d : Nat) : ∀ (k : Nat) (i : Int), d < k → 1 ≤ i → i + d = x.size → impl_GoodName.l0 k x (x.size : Int) i = some (okFrom x d i && decide (1 ≤ (x.size : Int) ∧ (x.size : Int) ≤ 20)) := by
  induction d with
  | zero =>
    intro k i hk h0 hi
    obtain ⟨k, rfl⟩ : ∃ m, k = m + 1 := ⟨k - 1, by omega⟩
    rw [impl_GoodName.l0, if_neg (by omega), inRange_eq, Option.bind_some]; rfl
  | succ d ih =>
    intro k i hk h0 hi
    obtain ⟨k, rfl⟩ : ∃ m, k = m + 1 := ⟨k - 1, by omega⟩
    rw [impl_GoodName.l0, if_pos (by omega), if_pos (by omega), if_pos (by omega), iletter_eq, Option.bind_some, idigit_eq, Option.bind_some, w64 (n := i + 1) (by omega) (by omega), ih k (i + 1) (by omega) (by omega) (by omega), if_neg (show ¬ i = 0 by omega)]
    show _ = some ((okc (bt x i) && okFrom x d (i + 1)) && _)
    unfold okc
    by_cases h95 : bt x i = 95
    · rw [if_pos h95]; simp [h95]
    · rw [if_neg h95]
      have : (bt x i == 95) = false := by simp [h95]
      rw [this]
      cases isL (bt x i) <;> cases isD (bt x i) <;> simp
def GN (x : ByteArray) : Bool := decide (1 ≤ (x.size : Int) ∧ (x.size : Int) ≤ 20) && ((isL (bt x 0) || (bt x 0 == 95)) && okFrom x (x.size - 1) 1)
theorem sname_eq (x : ByteArray) (hx : x.size ≤ 1048576) (k : Nat) (hk : 1048600 ≤ k) : spec_GoodName.f k x = some (GN x) := by
  unfold spec_GoodName.f GN
  obtain ⟨k, rfl⟩ : ∃ m, k = m + 1 := ⟨k - 1, by omega⟩
  by_cases h0 : (x.size : Int) < 1
  · rw [if_pos h0, spec_GoodName.j0, if_pos rfl, decide_eq_false (by omega)]; rfl
  · rw [if_neg h0]
    by_cases h1 : (x.size : Int) > 20
    · rw [if_pos h1, spec_GoodName.j0, if_pos rfl, decide_eq_false (by omega)]; rfl
    · rw [if_neg h1, if_pos (by omega), sdigit_eq, Option.bind_some, spec_GoodName.j0, decide_eq_true (by omega), Bool.true_and]
      obtain ⟨d, hd⟩ : ∃ d, x.size = d + 1 := ⟨x.size - 1, by omega⟩
      rw [sname_go x hx (d + 1) k 0 (by omega) (by omega) (by omega)]
      rw [show x.size - 1 = d by omega]
      show (if isD (bt x 0) = true then _ else some (okc (bt x 0) && okFrom x d (0 + 1))) = _
      by_cases hD : isD (bt x 0) = true
      · have hD2 := hD
        unfold isD at hD2
        rw [decide_eq_true_eq] at hD2
        have hL : isL (bt x 0) = false := by unfold isL; rw [decide_eq_false_iff_not]; omega
        have h95 : (bt x 0 == 95) = false := by simp; omega
        rw [if_pos hD, hL, h95]; rfl
      · rw [if_neg hD]
        unfold okc
        have hD2 : isD (bt x 0) = false := by simpa using hD
        rw [hD2, Bool.or_false]; rfl
theorem iname_eq (x : ByteArray) (hx : x.size ≤ 1048576) (k : Nat) (hk : 1048600 ≤ k) : impl_GoodName.f k x = some (GN x) := by
  unfold impl_GoodName.f GN
  obtain ⟨k, rfl⟩ : ∃ m, k = m + 1 := ⟨k - 1, by omega⟩
  by_cases h0 : (x.size : Int) < 1
  · rw [impl_GoodName.l0, if_neg (by omega), inRange_eq, Option.bind_some, decide_eq_false (by omega)]; rfl
  · obtain ⟨d, hd⟩ : ∃ d, x.size = d + 1 := ⟨x.size - 1, by omega⟩
    rw [impl_GoodName.l0, if_pos (by omega), if_pos (by omega), if_pos (by omega), iletter_eq, Option.bind_some, if_pos (show (0 : Int) = 0 from rfl), w64 (n := 0 + 1) (by omega) (by omega), iname_go x hx d k (0 + 1) (by omega) (by omega) (by omega), show x.size - 1 = d by omega]
    by_cases h95 : bt x 0 = 95
    · rw [if_pos h95]; simp [h95, Bool.and_comm]
    · rw [if_neg h95]
      have : (bt x 0 == 95) = false := by simp [h95]
      rw [this]
      cases isL (bt x 0) <;> simp [Bool.and_comm]
/-! ### players -/
def PL (p : S106) : Bool := GN p.f0 && (decide (0 ≤ p.f1 ∧ p.f1 ≤ 4000) && decide (0 ≤ p.f2 ∧ p.f2 ≤ 100000))
theorem splayer_eq (p : S106) (hx : p.f0.size ≤ 1048576) (k : Nat) (hk : 1048600 ≤ k) : spec_l25Player.f k p.f0 p.f1 p.f2 = some (PL p) := by
  unfold spec_l25Player.f PL
  rw [sname_eq _ hx k hk, Option.bind_some, l1In_eq, Option.bind_some, l1In_eq, Option.bind_some]
  cases GN p.f0 <;> cases decide (0 ≤ p.f1 ∧ p.f1 ≤ 4000) <;> simp
theorem iplayer_eq (p : S106) (hx : p.f0.size ≤ 1048576) (k : Nat) (hk : 1048600 ≤ k) : impl_isPlayer.f k p.f0 p.f1 p.f2 = some (PL p) := by
  unfold impl_isPlayer.f impl_isTime.f PL
  rw [iname_eq _ hx k hk, Option.bind_some, inRange_eq, Option.bind_some, inRange_eq, Option.bind_some, Option.bind_some]
  cases GN p.f0 <;> cases decide (0 ≤ p.f1 ∧ p.f1 ≤ 4000) <;> simp
def lt (l : List S106) (i : Int) : Bool := if i > 0 then Op.bytesLess ((rd_T106 l (i - 1)).f0).toList ((rd_T106 l i).f0).toList else true
def GP (l : List S106) : Nat → Int → Bool
  | 0, _ => true
  | d + 1, i => PL (rd_T106 l i) && (lt l i && GP l d (i + 1))
def Sm (l : List S106) : Prop := ∀ p ∈ l, p.f0.size ≤ 1048576
theorem rdT_mem {l : List S106} {i : Int} (h0 : 0 ≤ i) (h : i < l.length) : rd_T106 l i ∈ l := by
  unfold rd_T106
  rw [List.getD_eq_getElem?_getD, List.getElem?_eq_getElem (by omega)]
  exact List.getElem_mem _
theorem splayers_go (l : List S106) (hs : Sm l) (hl : l.length ≤ 1048576) (d : Nat) : ∀ (k : Nat) (i : Int), d + 1048600 < k → 0 ≤ i → i + d = l.length → spec_GoodPlayers.l0 k l l (l.length : Int) i = some (GP l d i) := by
  induction d with
  | zero =>
    intro k i hk h0 hi
    obtain ⟨k, rfl⟩ : ∃ m, k = m + 1 := ⟨k - 1, by omega⟩
    rw [spec_GoodPlayers.l0, if_neg (by omega)]; rfl
  | succ d ih =>
    intro k i hk h0 hi
    obtain ⟨k, rfl⟩ : ∃ m, k = m + 1 := ⟨k - 1, by omega⟩
    rw [spec_GoodPlayers.l0, if_pos (by omega), if_pos h0, if_pos (by omega), splayer_eq _ (hs _ (rdT_mem h0 (by omega))) k (by omega), Option.bind_some, w64 (n := i + 1) (by omega) (by omega), ih k (i + 1) (by omega) (by omega) (by omega)]
    show _ = some (PL (rd_T106 l i) && (lt l i && GP l d (i + 1)))
    unfold lt
    by_cases hi0 : i > 0
    · rw [if_pos hi0, w64 (n := i - 1) (by omega) (by omega), if_pos (show 0 ≤ i - 1 by omega), if_pos (show i - 1 < (l.length : Int) by omega), if_pos hi0]
      cases PL (rd_T106 l i) <;> cases Op.bytesLess ((rd_T106 l (i - 1)).f0).toList ((rd_T106 l i).f0).toList <;> simp
    · rw [if_neg hi0, if_neg hi0]
      cases PL (rd_T106 l i) <;> simp
theorem iplayers_go (l : List S106) (hs : Sm l) (hl : l.length ≤ 1048576) (d : Nat) : ∀ (k : Nat) (i : Int), d + 1048600 < k → 0 ≤ i → i + d = l.length → impl_GoodPlayers.l0 k l l (l.length : Int) i = some (GP l d i && decide ((l.length : Int) ≤ 12)) := by
  induction d with
  | zero =>
    intro k i hk h0 hi
    obtain ⟨k, rfl⟩ : ∃ m, k = m + 1 := ⟨k - 1, by omega⟩
    rw [impl_GoodPlayers.l0, if_neg (by omega)]; rfl
  | succ d ih =>
    intro k i hk h0 hi
    obtain ⟨k, rfl⟩ : ∃ m, k = m + 1 := ⟨k - 1, by omega⟩
    rw [impl_GoodPlayers.l0, if_pos (by omega), if_pos h0, if_pos (by omega), iplayer_eq _ (hs _ (rdT_mem h0 (by omega))) k (by omega), Option.bind_some, w64 (n := i + 1) (by omega) (by omega), ih k (i + 1) (by omega) (by omega) (by omega)]
    show _ = some ((PL (rd_T106 l i) && (lt l i && GP l d (i + 1))) && _)
    unfold lt
    by_cases hi0 : i > 0
    · rw [if_pos hi0, w64 (n := i - 1) (by omega) (by omega), if_pos (show 0 ≤ i - 1 by omega), if_pos (show i - 1 < (l.length : Int) by omega), if_pos hi0]
      cases PL (rd_T106 l i) <;> cases Op.bytesLess ((rd_T106 l (i - 1)).f0).toList ((rd_T106 l i).f0).toList <;> simp
    · rw [if_neg hi0, if_neg hi0]
      cases PL (rd_T106 l i) <;> simp
def GoodP (l : List S106) : Bool := GP l l.length 0 && decide ((l.length : Int) ≤ 12)
theorem splayers_eq (l : List S106) (hs : Sm l) (hl : l.length ≤ 1048576) (k : Nat) (hk : 2200000 ≤ k) : spec_GoodPlayers.f k l = some (GoodP l) := by
  unfold spec_GoodPlayers.f GoodP
  by_cases h : (l.length : Int) > 12
  · rw [if_pos h, decide_eq_false (by omega), Bool.and_false]
  · rw [if_neg h, splayers_go l hs hl l.length k 0 (by omega) (by omega) (by omega), decide_eq_true (by omega), Bool.and_true]
theorem iplayers_eq (l : List S106) (hs : Sm l) (hl : l.length ≤ 1048576) (k : Nat) (hk : 2200000 ≤ k) : impl_GoodPlayers.f k l = some (GoodP l) := by
  unfold impl_GoodPlayers.f GoodP
  rw [iplayers_go l hs hl l.length k 0 (by omega) (by omega) (by omega)]
def Rng (p : S106) : Prop := (0 ≤ p.f1 ∧ p.f1 ≤ 4000) ∧ (0 ≤ p.f2 ∧ p.f2 ≤ 100000)
theorem GP_rng (l : List S106) (d : Nat) : ∀ i : Int, 0 ≤ i → GP l d i = true → ∀ j : Int, i ≤ j → j < i + d → Rng (rd_T106 l j) := by
  induction d with
  | zero => intro i _ _ j h1 h2; omega
  | succ d ih =>
    intro i h0 h j h1 h2
    rw [GP, Bool.and_eq_true, Bool.and_eq_true] at h
    by_cases hj : j = i
    · subst hj
      have hp := h.1
      unfold PL at hp
      simp only [Bool.and_eq_true, decide_eq_true_eq] at hp
      exact hp.2
    · exact ih (i + 1) (by omega) h.2.2 j (by omega) (by omega)
theorem good_rng (l : List S106) (h : GoodP l = true) : ∀ p ∈ l, Rng p := by
  intro p hp
  unfold GoodP at h
  rw [Bool.and_eq_true] at h
  obtain ⟨i, hi, rfl⟩ := List.getElem_of_mem hp
  have h2 := GP_rng l l.length 0 (by omega) h.1 (i : Int) (by omega) (by omega)
  unfold rd_T106 at h2
  rw [List.getD_eq_getElem?_getD, List.getElem?_eq_getElem (by omega)] at h2
  simpa using h2

/-! ### copies, marks -/
theorem seq_go (l : List ByteArray) (hl : l.length ≤ 1048576) (d : Nat) : ∀ (k : Nat) (i : Int), d < k → 0 ≤ i → i + d = l.length → laws_eqStringS.l0 k l l i = some true := by
  induction d with
  | zero =>
    intro k i hk h0 hi
    obtain ⟨k, rfl⟩ : ∃ m, k = m + 1 := ⟨k - 1, by omega⟩
    rw [laws_eqStringS.l0, if_neg (by omega)]
  | succ d ih =>
    intro k i hk h0 hi
    obtain ⟨k, rfl⟩ : ∃ m, k = m + 1 := ⟨k - 1, by omega⟩
    rw [laws_eqStringS.l0, if_pos (by omega), if_pos h0, if_pos (by omega), if_pos rfl, w64 (n := i + 1) (by omega) (by omega)]
    exact ih k (i + 1) (by omega) (by omega) (by omega)
theorem seq_self (l : List ByteArray) (hl : l.length ≤ 1048576) (k : Nat) (hk : 1048600 ≤ k) : laws_eqStringS.f k l l = some true := by
  unfold laws_eqStringS.f
  rw [if_pos rfl]
  exact seq_go l hl l.length k 0 (by omega) (by omega) (by omega)
theorem peq_go (l : List S106) (hl : l.length ≤ 1048576) (d : Nat) : ∀ (k : Nat) (i : Int), d < k → 0 ≤ i → i + d = l.length → laws_eqPlayerS.l0 k l l i = some true := by
  induction d with
  | zero =>
    intro k i hk h0 hi
    obtain ⟨k, rfl⟩ : ∃ m, k = m + 1 := ⟨k - 1, by omega⟩
    rw [laws_eqPlayerS.l0, if_neg (by omega)]
  | succ d ih =>
    intro k i hk h0 hi
    obtain ⟨k, rfl⟩ : ∃ m, k = m + 1 := ⟨k - 1, by omega⟩
    rw [laws_eqPlayerS.l0, if_pos (by omega), if_pos h0, if_pos (by omega)]
    unfold laws_eqPlayer.f
    rw [if_pos rfl, if_pos rfl, if_pos rfl, Option.bind_some, if_pos rfl, w64 (n := i + 1) (by omega) (by omega)]
    exact ih k (i + 1) (by omega) (by omega) (by omega)
theorem peq_self (l : List S106) (hl : l.length ≤ 1048576) (k : Nat) (hk : 1048600 ≤ k) : laws_eqPlayerS.f k l l = some true := by
  unfold laws_eqPlayerS.f
  rw [if_pos rfl]
  exact peq_go l hl l.length k 0 (by omega) (by omega) (by omega)
theorem text_go (d : Nat) : ∀ (c : Int) (t : ByteArray), 0 ≤ c → c < 10 ^ d → c ≤ 1000000000 → t.size ≤ 1000 - d → d ≤ 1000 → ∃ r, ∀ k, d < k → laws_markText.l0 k c t = some r := by
  induction d with
  | zero =>
    intro c t h0 h1 _ ht _
    refine ⟨(⟨#[109]⟩ : ByteArray) ++ t, fun k hk => ?_⟩
    obtain ⟨k, rfl⟩ : ∃ m, k = m + 1 := ⟨k - 1, by omega⟩
    rw [laws_markText.l0, if_neg (by simp at h1; omega), if_pos (by omega)]
  | succ d ih =>
    intro c t h0 h1 hb ht hd
    by_cases hc : c > 0
    · have hp : (10 : Int) ^ (d + 1) = 10 ^ d * 10 := Int.pow_succ _ _
      have hsz : (strOfNums [(wrap64 (48 + c.tmod 10)) % 256]).size = 1 := rfl
      have hdv : c.tdiv 10 = c / 10 := Int.tdiv_eq_ediv_of_nonneg h0
      obtain ⟨r, hr⟩ := ih (c / 10) (strOfNums [(wrap64 (48 + c.tmod 10)) % 256] ++ t) (by omega) (by omega) (by omega) (by rw [ByteArray.size_append, hsz]; omega) (by omega)
      refine ⟨r, fun k hk => ?_⟩
      obtain ⟨k, rfl⟩ : ∃ m, k = m + 1 := ⟨k - 1, by omega⟩
      rw [laws_markText.l0, if_pos hc, Option.bind_some, hsz, if_pos (by omega), hdv, w64 (n := c / 10) (by omega) (by omega)]
      exact hr k (by omega)
    · refine ⟨(⟨#[109]⟩ : ByteArray) ++ t, fun k hk => ?_⟩
      obtain ⟨k, rfl⟩ : ∃ m, k = m + 1 := ⟨k - 1, by omega⟩
      rw [laws_markText.l0, if_neg hc, if_pos (by omega)]
theorem text_tot (c : Int) (hb : c ≤ 1000000000) : ∃ r, ∀ k, 20 < k → laws_markText.f k c = some r := by
  by_cases h : c ≤ 0
  · exact ⟨(⟨#[109, 48]⟩ : ByteArray), fun k _ => by unfold laws_markText.f; rw [if_pos h]⟩
  · obtain ⟨r, hr⟩ := text_go 10 c (⟨#[]⟩ : ByteArray) (by omega) (by have : (10 : Int) ^ 10 = 10000000000 := by decide
                                                                      omega) hb (by show (0 : Nat) ≤ _; omega) (by omega)
    exact ⟨r, fun k hk => by unfold laws_markText.f; rw [if_neg h]; exact hr k (by omega)⟩
theorem pmark_go (d : Nat) : ∀ (k : Nat) (xs : List S106) (c i : Int), d + 30 < k → 0 ≤ i → i + d = xs.length → xs.length ≤ 1048576 → 0 ≤ c → c + 3 * d ≤ 100000000 → ∃ ys, laws_markPlayerS.l0 k xs c i = some (c + 3 * d, ys) := by
  induction d with
  | zero =>
    intro k xs c i hk h0 hi hl hc hc1
    obtain ⟨k, rfl⟩ : ∃ m, k = m + 1 := ⟨k - 1, by omega⟩
    exact ⟨xs, by rw [laws_markPlayerS.l0, if_neg (by omega)]; simp⟩
  | succ d ih =>
    intro k xs c i hk h0 hi hl hc hc1
    obtain ⟨k, rfl⟩ : ∃ m, k = m + 1 := ⟨k - 1, by omega⟩
    obtain ⟨r, hr⟩ := text_tot c (by omega)
    rw [laws_markPlayerS.l0, if_pos (by omega), hr k (by omega), Option.bind_some, if_pos h0, Option.bind_some, Option.bind_some, w64 (n := c + 1) (by omega) (by omega), w64 (n := c + 1 + 1) (by omega) (by omega), w64 (n := c + 1 + 1 + 1) (by omega) (by omega), w64 (n := i + 1) (by omega) (by omega)]
    refine (?_ : ∀ zs : List S106, zs.length = xs.length → ∃ ys, laws_markPlayerS.l0 k zs (c + 1 + 1 + 1) (i + 1) = some (c + 3 * ((d + 1 : Nat) : Int), ys)) _ (by simp only [List.length_set])
    intro zs hz
    obtain ⟨ys, hys⟩ := ih k zs (c + 1 + 1 + 1) (i + 1) (by omega) (by omega) (by omega) (by omega) (by omega) (by omega)
    refine ⟨ys, ?_⟩
    rw [hys]
    congr 2
    omega
theorem pmark_tot (xs : List S106) (hl : xs.length ≤ 1048576) (k : Nat) (hk : 1048700 ≤ k) : ∃ c ys, laws_markPlayerS.f k xs 1 = some (c, ys) ∧ 0 ≤ c := by
  obtain ⟨ys, h⟩ := pmark_go xs.length k xs 1 0 (by omega) (by omega) (by omega) hl (by omega) (by omega)
  exact ⟨_, ys, h, by omega⟩
/-- What marks are held, from the i-th place on. -/
def Held (ys : List ByteArray) (c : Int) (i d : Nat) : Prop := ∀ j, j < d → ∃ r, ys[i + j]? = some r ∧ ∀ k, 20 < k → laws_markText.f k (c + j) = some r
theorem smark_go (d : Nat) : ∀ (k : Nat) (xs : List ByteArray) (c : Int) (i : Nat), d + 30 < k → i + d = xs.length → xs.length ≤ 1048576 → 0 ≤ c → c + d ≤ 100000000 →
    ∃ ys, laws_markStringS.l0 k xs c (i : Int) = some (c + d, ys) ∧ ys.length = xs.length ∧ (∀ j, j < i → ys[j]? = xs[j]?) ∧ Held ys c i d := by
  induction d with
  | zero =>
    intro k xs c i hk hi hl hc hc1
    obtain ⟨k, rfl⟩ : ∃ m, k = m + 1 := ⟨k - 1, by omega⟩
    exact ⟨xs, by rw [laws_markStringS.l0, if_neg (by omega)]; simp, rfl, fun _ _ => rfl, fun j hj => by omega⟩
  | succ d ih =>
    intro k xs c i hk hi hl hc hc1
    obtain ⟨k, rfl⟩ : ∃ m, k = m + 1 := ⟨k - 1, by omega⟩
    obtain ⟨r, hr⟩ := text_tot c (by omega)
    obtain ⟨ys, h1, h2, h3, h4⟩ := ih k (xs.set i r) (c + 1) (i + 1) (by omega) (by rw [List.length_set]; omega) (by rw [List.length_set]; omega) (by omega) (by omega)
    rw [laws_markStringS.l0, if_pos (by omega), hr k (by omega), Option.bind_some, if_pos (by omega), w64 (n := c + 1) (by omega) (by omega), w64 (n := (i : Int) + 1) (by omega) (by omega), show ((i : Int) + 1) = ((i + 1 : Nat) : Int) by omega, show ((i : Int)).toNat = i by omega]
    refine ⟨ys, by rw [h1]; congr 2; omega, by rw [h2, List.length_set], fun j hj => ?_, fun j hj => ?_⟩
    · rw [h3 j (by omega), List.getElem?_set_ne (by omega)]
    · rcases Nat.eq_zero_or_pos j with h0 | h0
      · subst h0
        refine ⟨r, ?_, by simpa using hr⟩
        rw [Nat.add_zero, h3 i (by omega), List.getElem?_set_self (by omega)]
      · obtain ⟨r2, g1, g2⟩ := h4 (j - 1) (by omega)
        refine ⟨r2, by rw [← g1]; congr 1; omega, ?_⟩
        rw [show c + (j : Int) = c + 1 + ((j - 1 : Nat) : Int) by omega]
        exact g2
theorem sheld_go (ys : List ByteArray) (hl : ys.length ≤ 1048576) (d : Nat) : ∀ (k : Nat) (c : Int) (i : Nat), d + 30 < k → i + d = ys.length → 0 ≤ c → c + d ≤ 100000000 → Held ys c i d → laws_heldStringS.l0 k ys c (i : Int) = some (c + d) := by
  induction d with
  | zero =>
    intro k c i hk hi hc hc1 _
    obtain ⟨k, rfl⟩ : ∃ m, k = m + 1 := ⟨k - 1, by omega⟩
    rw [laws_heldStringS.l0, if_neg (by omega)]; simp
  | succ d ih =>
    intro k c i hk hi hc hc1 h
    obtain ⟨k, rfl⟩ : ∃ m, k = m + 1 := ⟨k - 1, by omega⟩
    obtain ⟨r, h1, h2⟩ := h 0 (by omega)
    have hr := h2 k (by omega)
    rw [show c + ((0 : Nat) : Int) = c by omega] at hr
    have hrd : rdOf ByteArray.empty ys (i : Int) = r := by
      unfold rdOf
      rw [List.getD_eq_getElem?_getD, show ((i : Int)).toNat = i by omega]
      rw [Nat.add_zero] at h1
      rw [h1]; rfl
    rw [laws_heldStringS.l0, if_pos (by omega), if_pos (by omega), hr, Option.bind_some, hrd, if_pos rfl, w64 (n := c + 1) (by omega) (by omega), w64 (n := (i : Int) + 1) (by omega) (by omega), show ((i : Int) + 1) = ((i + 1 : Nat) : Int) by omega, ih k (c + 1) (i + 1) (by omega) (by omega) (by omega) (by omega)]
    · congr 1; omega
    · intro j hj
      obtain ⟨r2, g1, g2⟩ := h (j + 1) (by omega)
      refine ⟨r2, by rw [← g1]; congr 1; omega, ?_⟩
      rw [show c + 1 + (j : Int) = c + ((j + 1 : Nat) : Int) by omega]
      exact g2
theorem smark_tot (xs : List ByteArray) (hl : xs.length ≤ 1048576) (k : Nat) (hk : 1048700 ≤ k) : ∃ c ys, laws_markStringS.f k xs 1 = some (c, ys) ∧ 0 ≤ c ∧ laws_heldStringS.f k ys 1 = some c := by
  obtain ⟨ys, h1, h2, _, h4⟩ := smark_go xs.length k xs 1 0 (by omega) (by omega) hl (by omega) (by omega)
  exact ⟨_, ys, h1, by omega, sheld_go ys (by omega) xs.length k 1 0 (by omega) (by omega) (by omega) (by omega) h4⟩
/-! ### the law -/
def conv (p : S103) : S106 := ⟨p.f0, p.f1, p.f2⟩
def Len (l : List S103) : Prop := ∀ p ∈ l, p.f0.size ≤ 9223372036854775807
theorem rdS_mem {l : List S103} {i : Int} (h0 : 0 ≤ i) (h : i < l.length) : rd_T103 l i ∈ l := by
  unfold rd_T103
  rw [List.getD_eq_getElem?_getD, List.getElem?_eq_getElem (by omega)]
  exact List.getElem_mem _
theorem sz_go (l : List S103) (hs : Len l) (hl : l.length ≤ 1048576) (d : Nat) : ∀ (k : Nat) (b i : Int), d < k → 0 ≤ i → i + d = l.length → 0 ≤ b → b ≤ 1048576 →
    ∃ t, laws_szPlayerS.l0 k l b i = some t ∧ (¬ t < 0 → ∀ j : Int, i ≤ j → j < l.length → ((rd_T103 l j).f0.size : Int) ≤ 1048576) := by
  induction d with
  | zero =>
    intro k b i hk h0 hi hb hb1
    obtain ⟨k, rfl⟩ : ∃ m, k = m + 1 := ⟨k - 1, by omega⟩
    exact ⟨b, by rw [laws_szPlayerS.l0, if_neg (by omega)], fun _ j h1 h2 => by omega⟩
  | succ d ih =>
    intro k b i hk h0 hi hb hb1
    obtain ⟨k, rfl⟩ : ∃ m, k = m + 1 := ⟨k - 1, by omega⟩
    have hz := hs _ (rdS_mem (l := l) h0 (by omega))
    rw [laws_szPlayerS.l0, if_pos (by omega), if_pos h0]
    unfold laws_szPlayer.f
    rw [w64 (n := b - ((rd_T103 l i).f0.size : Int)) (by omega) (by omega)]
    by_cases hn : b - ((rd_T103 l i).f0.size : Int) < 0
    · rw [if_pos hn, Option.bind_some, if_pos (by omega)]
      exact ⟨-1, rfl, fun h => absurd (by omega) h⟩
    · rw [if_neg hn, Option.bind_some, if_neg hn, w64 (n := i + 1) (by omega) (by omega)]
      obtain ⟨t, ht, h2⟩ := ih k (b - ((rd_T103 l i).f0.size : Int)) (i + 1) (by omega) (by omega) (by omega) (by omega) (by omega)
      refine ⟨t, ht, fun h j h3 h4 => ?_⟩
      by_cases hj : j = i
      · subst hj; omega
      · exact h2 h j (by omega) h4
theorem sz_eq (l : List S103) (hs : Len l) (hl : l.length ≤ 9223372036854775807) (k : Nat) (hk : 1048600 ≤ k) : ∃ t, laws_szPlayerS.f k l 1048576 = some t ∧ (¬ t < 0 → l.length ≤ 1048576 ∧ ∀ p ∈ l, p.f0.size ≤ 1048576) := by
  unfold laws_szPlayerS.f
  rw [w64 (n := 1048576 - (l.length : Int)) (by omega) (by omega)]
  by_cases hn : 1048576 - (l.length : Int) < 0
  · rw [if_pos hn]
    exact ⟨-1, rfl, fun h => absurd (by omega) h⟩
  · rw [if_neg hn]
    obtain ⟨t, ht, h2⟩ := sz_go l hs (by omega) l.length k (1048576 - (l.length : Int)) 0 (by omega) (by omega) (by omega) (by omega) (by omega)
    refine ⟨t, ht, fun h => ⟨by omega, fun p hp => ?_⟩⟩
    obtain ⟨i, hi, rfl⟩ := List.getElem_of_mem hp
    have h3 := h2 h (i : Int) (by omega) (by omega)
    unfold rd_T103 at h3
    rw [List.getD_eq_getElem?_getD, List.getElem?_eq_getElem (by omega)] at h3
    have h4 : (((l[i]).f0.size : Int)) ≤ 1048576 := by simpa using h3
    omega
theorem to_go (l : List S103) (hl : l.length ≤ 1048576) (d : Nat) : ∀ (k : Nat) (ys : List S106) (i : Nat), d < k → i + d = l.length → ys.length = l.length → (∀ j, j < i → ys[j]? = (l.map conv)[j]?) → laws_toPlayerS.l0 k l ys (i : Int) = some (l.map conv) := by
  induction d with
  | zero =>
    intro k ys i hk hi hy h
    obtain ⟨k, rfl⟩ : ∃ m, k = m + 1 := ⟨k - 1, by omega⟩
    rw [laws_toPlayerS.l0, if_neg (by omega)]
    congr 1
    apply List.ext_getElem?
    intro j
    by_cases hj : j < i
    · exact h j hj
    · rw [List.getElem?_eq_none (by omega), List.getElem?_eq_none (by rw [List.length_map]; omega)]
  | succ d ih =>
    intro k ys i hk hi hy h
    obtain ⟨k, rfl⟩ : ∃ m, k = m + 1 := ⟨k - 1, by omega⟩
    rw [laws_toPlayerS.l0, if_pos (by omega), if_pos (by omega)]
    unfold laws_toPlayer.f
    rw [Option.bind_some, if_pos (by omega), w64 (n := (i : Int) + 1) (by omega) (by omega), show ((i : Int) + 1) = ((i + 1 : Nat) : Int) by omega, show ((i : Int)).toNat = i by omega]
    refine ih k _ (i + 1) (by omega) (by omega) (by rw [List.length_set]; exact hy) (fun j hj => ?_)
    by_cases hji : j = i
    · subst hji
      rw [List.getElem?_set_self (by omega), List.getElem?_map, List.getElem?_eq_getElem (by omega)]
      unfold rd_T103
      rw [List.getD_eq_getElem?_getD, show ((j : Int)).toNat = j by omega, List.getElem?_eq_getElem (by omega)]
      rfl
    · rw [List.getElem?_set_ne (by omega)]
      exact h j (by omega)
theorem to_eq (l : List S103) (hl : l.length ≤ 1048576) (k : Nat) (hk : 1048600 ≤ k) : laws_toPlayerS.f k l = some (l.map conv) := by
  unfold laws_toPlayerS.f
  rw [if_pos (by omega), if_pos (by omega)]
  exact to_go l hl l.length k _ 0 (by omega) (by omega) (by simp) (fun j hj => by omega)

/-! ### masks -/
def bitAt (n m i : Int) : Int := (m / 2 ^ (n - 1 - i).toNat) % 2
def cntF (n m : Int) : Nat → Int → Int
  | 0, _ => 0
  | d + 1, i => (if bitAt n m i = 1 then 1 else 0) + cntF n m d (i + 1)
def bitsOk (n m : Nat) : Nat → Bool
  | 0 => true
  | i + 1 => decide (Go.bits .and .i64 (shr .i64 m ((n : Int) - 1 - i)) 1 = bitAt n m i) && (decide (bitAt n (2 ^ n - 1 - m : Int) i = 1 - bitAt n m i) && bitsOk n m i)
def okM (n m : Nat) : Bool := decide (bits_OnesCount.f m = some (cntF n m n 0)) && bitsOk n m n
def okMs (n : Nat) : Nat → Bool
  | 0 => true
  | m + 1 => okM n m && okMs n m
theorem okMs_spec (n : Nat) (d : Nat) : okMs n d = true → ∀ m, m < d → okM n m = true := by
  induction d with
  | zero => intro _ m hm; omega
  | succ d ih =>
    intro h m hm
    rw [okMs, Bool.and_eq_true] at h
    by_cases hmn : m = d
    · subst hmn; exact h.1
    · exact ih h.2 m (by omega)
theorem bitsOk_spec (n m : Nat) (d : Nat) : bitsOk n m d = true → ∀ i, i < d → Go.bits .and .i64 (shr .i64 m ((n : Int) - 1 - i)) 1 = bitAt n m i ∧ bitAt n (2 ^ n - 1 - m : Int) i = 1 - bitAt n m i := by
  induction d with
  | zero => intro _ m hm; omega
  | succ d ih =>
    intro h i hi
    rw [bitsOk, Bool.and_eq_true, Bool.and_eq_true, decide_eq_true_eq, decide_eq_true_eq] at h
    by_cases hid : i = d
    · subst hid; exact ⟨h.1, h.2.1⟩
    · exact ih h.2.2 i (by omega)
/-- What is asked of a number of players. -/
structure Num (n : Nat) : Prop where
  lo : 2 ≤ n
  hi : n ≤ 12
  full : shl .i64 1 (n : Int) = 2 ^ n
  half : shl .i64 1 ((n : Int) - 1) = 2 ^ (n - 1)
  big : (2 : Int) ^ n ≤ 4096
  dbl : (2 : Int) ^ n = 2 * 2 ^ (n - 1)
  one : (1 : Int) ≤ 2 ^ (n - 1)
  all : okMs n (2 ^ n) = true
  mid : ∃ s : Nat, s < 2 ^ n ∧ 2 ^ (n - 1) ≤ s ∧ cntF n s n 0 = (n : Int) / 2
theorem num2 : Num 2 := ⟨by decide, by decide, by decide +kernel, by decide +kernel, by decide, by decide, by decide, by decide +kernel, ⟨2, by decide, by decide, by decide +kernel⟩⟩
theorem num4 : Num 4 := ⟨by decide, by decide, by decide +kernel, by decide +kernel, by decide, by decide, by decide, by decide +kernel, ⟨12, by decide, by decide, by decide +kernel⟩⟩
theorem num6 : Num 6 := ⟨by decide, by decide, by decide +kernel, by decide +kernel, by decide, by decide, by decide, by decide +kernel, ⟨56, by decide, by decide, by decide +kernel⟩⟩
theorem num8 : Num 8 := ⟨by decide, by decide, by decide +kernel, by decide +kernel, by decide, by decide, by decide, by decide +kernel, ⟨240, by decide, by decide, by decide +kernel⟩⟩
set_option maxHeartbeats 8000000 in
theorem num10 : Num 10 := ⟨by decide, by decide, by decide +kernel, by decide +kernel, by decide, by decide, by decide, by decide +kernel, ⟨992, by decide, by decide, by decide +kernel⟩⟩
set_option maxHeartbeats 8000000 in
theorem num12 : Num 12 := ⟨by decide, by decide, by decide +kernel, by decide +kernel, by decide, by decide, by decide, by decide +kernel, ⟨4032, by decide, by decide, by decide +kernel⟩⟩
theorem num_of (n : Nat) (h0 : 2 ≤ n) (h1 : n ≤ 12) (h2 : n % 2 = 0) : Num n := by
  have : n = 2 ∨ n = 4 ∨ n = 6 ∨ n = 8 ∨ n = 10 ∨ n = 12 := by omega
  rcases this with rfl | rfl | rfl | rfl | rfl | rfl
  · exact num2
  · exact num4
  · exact num6
  · exact num8
  · exact num10
  · exact num12
theorem Num.bit {n : Nat} (N : Num n) (m i : Int) (h0 : 0 ≤ m) (h1 : m < 2 ^ n) (i0 : 0 ≤ i) (i1 : i < n) :
    Go.bits .and .i64 (shr .i64 m ((n : Int) - 1 - i)) 1 = bitAt n m i ∧ bitAt n (2 ^ n - 1 - m) i = 1 - bitAt n m i := by
  have hm : m.toNat < 2 ^ n := by
    have : ((2 ^ n : Nat) : Int) = 2 ^ n := by simp
    omega
  have h := okMs_spec n (2 ^ n) N.all m.toNat hm
  rw [okM, Bool.and_eq_true] at h
  have h2 := bitsOk_spec n m.toNat n h.2 i.toNat (by omega)
  rw [show ((m.toNat : Nat) : Int) = m by omega, show ((i.toNat : Nat) : Int) = i by omega] at h2
  exact h2
theorem Num.ones {n : Nat} (N : Num n) (m : Int) (h0 : 0 ≤ m) (h1 : m < 2 ^ n) : bits_OnesCount.f m = some (cntF n m n 0) := by
  have hm : m.toNat < 2 ^ n := by
    have : ((2 ^ n : Nat) : Int) = 2 ^ n := by simp
    omega
  have h := okMs_spec n (2 ^ n) N.all m.toNat hm
  rw [okM, Bool.and_eq_true, decide_eq_true_eq] at h
  have h2 := h.1
  rw [show ((m.toNat : Nat) : Int) = m by omega] at h2
  exact h2
theorem bitAt_01 (n m i : Int) : bitAt n m i = 0 ∨ bitAt n m i = 1 := by unfold bitAt; omega
theorem cntF_le (n m : Int) (d : Nat) : ∀ i, 0 ≤ cntF n m d i ∧ cntF n m d i ≤ d := by
  induction d with
  | zero => intro i; simp [cntF]
  | succ d ih => intro i; have := ih (i + 1); rw [cntF]; split <;> omega
def sumF (l : List S106) (m : Int) : Nat → Int → Int
  | 0, _ => 0
  | d + 1, i => (if bitAt l.length m i = 1 then (rd_T106 l i).f1 else 0) + sumF l m d (i + 1)
def namF (l : List S106) (m : Int) : Nat → Int → List ByteArray
  | 0, _ => []
  | d + 1, i => (if bitAt l.length m i = 1 then [(rd_T106 l i).f0] else []) ++ namF l m d (i + 1)
def allF (l : List S106) : Nat → Int → Int
  | 0, _ => 0
  | d + 1, i => (rd_T106 l i).f1 + allF l d (i + 1)
theorem sumF_le (l : List S106) (hr : ∀ p ∈ l, Rng p) (m : Int) (d : Nat) : ∀ i : Int, 0 ≤ i → i + d ≤ l.length → 0 ≤ sumF l m d i ∧ sumF l m d i ≤ 4000 * d := by
  induction d with
  | zero => intro i _ _; simp [sumF]
  | succ d ih =>
    intro i h0 h1
    have h2 := ih (i + 1) (by omega) (by omega)
    obtain ⟨⟨a, b⟩, _⟩ := hr _ (rdT_mem (l := l) h0 (by omega))
    rw [sumF]; split <;> omega
theorem allF_le (l : List S106) (hr : ∀ p ∈ l, Rng p) (d : Nat) : ∀ i : Int, 0 ≤ i → i + d ≤ l.length → 0 ≤ allF l d i ∧ allF l d i ≤ 4000 * d := by
  induction d with
  | zero => intro i _ _; simp [allF]
  | succ d ih =>
    intro i h0 h1
    have h2 := ih (i + 1) (by omega) (by omega)
    obtain ⟨⟨a, b⟩, _⟩ := hr _ (rdT_mem (l := l) h0 (by omega))
    rw [allF]; omega
theorem namF_len (l : List S106) (m : Int) (d : Nat) : ∀ i, (namF l m d i).length ≤ d := by
  induction d with
  | zero => intro i; simp [namF]
  | succ d ih => intro i; have := ih (i + 1); rw [namF, List.length_append]; split <;> simp <;> omega
theorem sum_comp (l : List S106) (N : Num l.length) (m : Int) (h0 : 0 ≤ m) (h1 : m < 2 ^ l.length) (d : Nat) : ∀ i : Int, 0 ≤ i → i + d ≤ l.length → sumF l (2 ^ l.length - 1 - m) d i = allF l d i - sumF l m d i := by
  induction d with
  | zero => intro i _ _; simp [sumF, allF]
  | succ d ih =>
    intro i g0 g1
    have hb := (N.bit m i h0 h1 g0 (by omega)).2
    rw [sumF, sumF, allF, ih (i + 1) (by omega) (by omega), hb]
    rcases bitAt_01 l.length m i with h | h <;> rw [h] <;> simp <;> omega
/-! ### the spec's loops -/
theorem s_all (l : List S106) (hl : l.length ≤ 12) (N : Num l.length) (hr : ∀ p ∈ l, Rng p) (d : Nat) : ∀ (i a : Int), 0 ≤ i → i + d = l.length → 0 ≤ a → a + 4000 * d ≤ 100000 → ∀ k, spec_FairTeams.l0 (k + (d + 1)) l a l (l.length : Int) i = spec_FairTeams.l1 k l (a + allF l d i) (-1) 0 (2 ^ l.length - 1) := by
  induction d with
  | zero =>
    intro i a h0 hi ha hb k
    have hu : IntKind.u64.wrap (l.length : Int) = l.length := by simp [IntKind.wrap, IntKind.bits, IntKind.signed]; omega
    have hbig := N.big
    have hone := N.one
    have hdbl := N.dbl
    rw [spec_FairTeams.l0, if_neg (by omega), hu, if_pos (by omega), N.full, w64 (by omega) (by omega)]
    simp [allF]
  | succ d ih =>
    intro i a h0 hi ha hb k
    obtain ⟨⟨a0, a1⟩, _⟩ := hr _ (rdT_mem (l := l) h0 (by omega))
    rw [show k + (d + 1 + 1) = k + (d + 1) + 1 by omega, spec_FairTeams.l0, if_pos (by omega), if_pos h0, if_pos (by omega), w64 (n := a + (rd_T106 l i).f1) (by omega) (by omega), w64 (n := i + 1) (by omega) (by omega), ih (i + 1) _ (by omega) (by omega) (by omega) (by omega) k, allF]
    congr 1; omega
def dif (l : List S106) (m : Int) : Int := if allF l l.length 0 - 2 * sumF l m l.length 0 < 0 then -(allF l l.length 0 - 2 * sumF l m l.length 0) else allF l l.length 0 - 2 * sumF l m l.length 0
def take (l : List S106) (m best least : Int) : Bool := decide (cntF l.length m l.length 0 = (l.length : Int) / 2 ∧ (best < 0 ∨ dif l m < least))
theorem ushift (l : List S106) (hl : l.length ≤ 12) (N : Num l.length) (i : Int) (h0 : 0 ≤ i) (h1 : i < l.length) : IntKind.u64.wrap (wrap64 ((wrap64 ((l.length : Int) - 1)) - i)) = (l.length : Int) - 1 - i := by
  rw [w64 (n := (l.length : Int) - 1) (by omega) (by omega), w64 (by omega) (by omega)]
  simp [IntKind.wrap, IntKind.bits, IntKind.signed]; omega
theorem s_mask (l : List S106) (hl : l.length ≤ 12) (N : Num l.length) (hr : ∀ p ∈ l, Rng p) (best least m : Int) (h0 : 0 ≤ m) (h1 : m < 2 ^ l.length) (d : Nat) : ∀ (i many sum : Int), 0 ≤ i → i + d = l.length → many + cntF l.length m d i = cntF l.length m l.length 0 → sum + sumF l m d i = sumF l m l.length 0 → 0 ≤ many → 0 ≤ sum → ∀ k,
    spec_FairTeams.l2 (k + (d + 1)) l (allF l l.length 0) best least m many sum l (l.length : Int) i = spec_FairTeams.l1 k l (allF l l.length 0) (if take l m best least = true then m else best) (if take l m best least = true then dif l m else least) (m - 1) := by
  have hS := sumF_le l hr m l.length 0 (by omega) (by omega)
  have hA := allF_le l hr l.length 0 (by omega) (by omega)
  have hC := cntF_le l.length m l.length 0
  have hbig := N.big
  induction d with
  | zero =>
    intro i many sum g0 g1 g2 g3 g4 g5 k
    rw [cntF] at g2
    rw [sumF] at g3
    have e2 : many = cntF l.length m l.length 0 := by omega
    have e3 : sum = sumF l m l.length 0 := by omega
    subst e2 e3
    rw [spec_FairTeams.l2, if_neg (by omega), w64 (n := 2 * sumF l m l.length 0) (by omega) (by omega), w64 (n := allF l l.length 0 - 2 * sumF l m l.length 0) (by omega) (by omega), w64 (n := (l.length : Int) / 2) (by omega) (by omega), w64 (n := m - 1) (by omega) (by omega)]
    have hd : spec_l1Abs.f (allF l l.length 0 - 2 * sumF l m l.length 0) = some (dif l m) := by
      unfold spec_l1Abs.f dif
      split
      · rw [w64 (by omega) (by omega)]
      · rfl
    rw [hd, Option.bind_some]
    unfold take
    by_cases c1 : cntF l.length m l.length 0 = (l.length : Int) / 2
    · rw [if_pos c1]
      by_cases c2 : best < 0
      · rw [if_pos c2, if_pos (by rw [decide_eq_true_eq]; exact ⟨c1, .inl c2⟩), if_pos (by rw [decide_eq_true_eq]; exact ⟨c1, .inl c2⟩)]
      · rw [if_neg c2]
        by_cases c3 : dif l m < least
        · rw [if_pos c3, if_pos (by rw [decide_eq_true_eq]; exact ⟨c1, .inr c3⟩), if_pos (by rw [decide_eq_true_eq]; exact ⟨c1, .inr c3⟩)]
        · rw [if_neg c3, if_neg (by rw [decide_eq_true_eq]; rintro ⟨_, h | h⟩; exact c2 h; exact c3 h), if_neg (by rw [decide_eq_true_eq]; rintro ⟨_, h | h⟩; exact c2 h; exact c3 h)]
    · rw [if_neg c1, if_neg (by rw [decide_eq_true_eq]; exact fun h => c1 h.1), if_neg (by rw [decide_eq_true_eq]; exact fun h => c1 h.1)]
  | succ d ih =>
    intro i many sum g0 g1 g2 g3 g4 g5 k
    obtain ⟨⟨a0, a1⟩, _⟩ := hr _ (rdT_mem (l := l) g0 (by omega))
    have hb := (N.bit m i h0 h1 g0 (by omega)).1
    have hs1 := sumF_le l hr m d (i + 1) (by omega) (by omega)
    have hc1 := cntF_le l.length m d (i + 1)
    rw [cntF] at g2
    rw [sumF] at g3
    rw [show k + (d + 1 + 1) = k + (d + 1) + 1 by omega, spec_FairTeams.l2, if_pos (by omega), if_pos g0, if_pos (by omega), ushift l hl N i g0 (by omega), if_pos (by omega), hb, w64 (n := i + 1) (by omega) (by omega)]
    by_cases c : bitAt l.length m i = 1
    · rw [if_pos c] at g2 g3
      rw [if_pos c, w64 (n := many + 1) (by omega) (by omega), w64 (n := sum + (rd_T106 l i).f1) (by omega) (by omega)]
      exact ih (i + 1) _ _ (by omega) (by omega) (by omega) (by omega) (by omega) (by omega) k
    · rw [if_neg c] at g2 g3
      rw [if_neg c]
      exact ih (i + 1) _ _ (by omega) (by omega) (by omega) (by omega) (by omega) (by omega) k

/-! ### the teams of a mask -/
def teams (l : List S106) (m : Int) : List S118 := [⟨namF l m l.length 0, sumF l m l.length 0⟩, ⟨namF l (2 ^ l.length - 1 - m) l.length 0, sumF l (2 ^ l.length - 1 - m) l.length 0⟩]
theorem s_teams (l : List S106) (hl : l.length ≤ 12) (N : Num l.length) (hr : ∀ p ∈ l, Rng p) (m : Int) (h0 : 0 ≤ m) (h1 : m < 2 ^ l.length) (d : Nat) : ∀ (i : Int) (a b : List ByteArray) (s u : Int), 0 ≤ i → i + d = l.length → 0 ≤ s → s + 4000 * d ≤ 100000 → 0 ≤ u → u + 4000 * d ≤ 100000 → (a.length : Int) + d ≤ 24 → (b.length : Int) + d ≤ 24 → ∀ k, d < k →
    spec_FairTeams.l3 k l m [⟨a, s⟩, ⟨b, u⟩] l (l.length : Int) i = some ([⟨a ++ namF l m d i, s + sumF l m d i⟩, ⟨b ++ namF l (2 ^ l.length - 1 - m) d i, u + sumF l (2 ^ l.length - 1 - m) d i⟩], true) := by
  induction d with
  | zero =>
    intro i a b s u g0 g1 _ _ _ _ _ _ k hk
    obtain ⟨k, rfl⟩ : ∃ j, k = j + 1 := ⟨k - 1, by omega⟩
    rw [spec_FairTeams.l3, if_neg (by omega)]
    simp [namF, sumF]
  | succ d ih =>
    intro i a b s u g0 g1 gs gs2 gu gu2 gl1 gl2 k hk
    obtain ⟨hb, hcomp⟩ := N.bit m i h0 h1 g0 (by omega)
    obtain ⟨⟨a0, a1⟩, _⟩ := hr _ (rdT_mem (l := l) g0 (by omega))
    obtain ⟨k, rfl⟩ : ∃ j, k = j + 1 := ⟨k - 1, by omega⟩
    rw [spec_FairTeams.l3, if_pos (by omega), if_pos g0, if_pos (by omega), ushift l hl N i g0 (by omega), if_pos (by omega), hb, w64 (n := i + 1) (by omega) (by omega)]
    rcases bitAt_01 l.length m i with h | h
    · rw [h, show wrap64 ((1 : Int) - 0) = 1 from (by first | rfl | decide | (unfold wrap64; omega)), if_pos (by omega), if_pos (by simp), if_pos (show (rd_T118 [⟨a, s⟩, ⟨b, u⟩] 1).f0.length < 8796093022208 from by show b.length < _; omega), Option.bind_some]
      show spec_FairTeams.l3 k l m [⟨a, s⟩, ⟨b ++ [(rd_T106 l i).f0], wrap64 (u + (rd_T106 l i).f1)⟩] l (l.length : Int) (i + 1) = _
      rw [w64 (n := u + (rd_T106 l i).f1) (by omega) (by omega), ih (i + 1) a (b ++ [(rd_T106 l i).f0]) s (u + (rd_T106 l i).f1) (by omega) (by omega) (by omega) (by omega) (by omega) (by omega) (by omega) (by rw [List.length_append]; simp; omega) k (by omega)]
      rw [namF, namF, sumF, sumF, hcomp, h]
      simp [Int.add_assoc]
    · rw [h, show wrap64 ((1 : Int) - 1) = 0 from (by first | rfl | decide | (unfold wrap64; omega)), if_pos (by omega), if_pos (by simp), if_pos (show (rd_T118 [⟨a, s⟩, ⟨b, u⟩] 0).f0.length < 8796093022208 from by show a.length < _; omega), Option.bind_some]
      show spec_FairTeams.l3 k l m [⟨a ++ [(rd_T106 l i).f0], wrap64 (s + (rd_T106 l i).f1)⟩, ⟨b, u⟩] l (l.length : Int) (i + 1) = _
      rw [w64 (n := s + (rd_T106 l i).f1) (by omega) (by omega), ih (i + 1) (a ++ [(rd_T106 l i).f0]) b (s + (rd_T106 l i).f1) u (by omega) (by omega) (by omega) (by omega) (by omega) (by omega) (by rw [List.length_append]; simp; omega) (by omega) k (by omega)]
      rw [namF, namF, sumF, sumF, hcomp, h]
      simp [Int.add_assoc]
theorem ishift (l : List S106) (hl : l.length ≤ 12) (N : Num l.length) (i : Int) (h0 : 0 ≤ i) (h1 : i < l.length) : wrap64 ((wrap64 ((l.length : Int) - 1)) - i) = (l.length : Int) - 1 - i := by
  rw [w64 (n := (l.length : Int) - 1) (by omega) (by omega), w64 (by omega) (by omega)]
theorem i_team (l : List S106) (hl : l.length ≤ 12) (N : Num l.length) (hr : ∀ p ∈ l, Rng p) (m : Int) (h0 : 0 ≤ m) (h1 : m < 2 ^ l.length) (d : Nat) : ∀ (i : Int) (a : List ByteArray) (s : Int), 0 ≤ i → i + d = l.length → 0 ≤ s → s + 4000 * d ≤ 100000 → (a.length : Int) + d ≤ 24 → ∀ k, d < k →
    impl_team.l0 k l m l (l.length : Int) i a s = some (a ++ namF l m d i, s + sumF l m d i) := by
  induction d with
  | zero =>
    intro i a s g0 g1 _ _ _ k hk
    obtain ⟨k, rfl⟩ : ∃ j, k = j + 1 := ⟨k - 1, by omega⟩
    rw [impl_team.l0, if_neg (by omega)]
    simp [namF, sumF]
  | succ d ih =>
    intro i a s g0 g1 gs gs2 gl k hk
    obtain ⟨hb, _⟩ := N.bit m i h0 h1 g0 (by omega)
    obtain ⟨⟨a0, a1⟩, _⟩ := hr _ (rdT_mem (l := l) g0 (by omega))
    obtain ⟨k, rfl⟩ : ∃ j, k = j + 1 := ⟨k - 1, by omega⟩
    rw [impl_team.l0, if_pos (by omega), if_pos g0, if_pos (by omega), ishift l hl N i g0 (by omega), if_pos (by omega), hb, w64 (n := i + 1) (by omega) (by omega), namF, sumF]
    by_cases c : bitAt l.length m i = 1
    · rw [if_pos c, if_pos (by omega), w64 (n := s + (rd_T106 l i).f1) (by omega) (by omega), ih (i + 1) _ _ (by omega) (by omega) (by omega) (by omega) (by rw [List.length_append]; simp; omega) k (by omega), if_pos c, if_pos c]
      simp [Int.add_assoc]
    · rw [if_neg c, ih (i + 1) _ _ (by omega) (by omega) (by omega) (by omega) (by omega) k (by omega), if_neg c, if_neg c]
      simp
theorem team_eq (l : List S106) (hl : l.length ≤ 12) (N : Num l.length) (hr : ∀ p ∈ l, Rng p) (m : Int) (h0 : 0 ≤ m) (h1 : m < 2 ^ l.length) (k : Nat) (hk : 20 < k) : impl_team.f k l m = some (namF l m l.length 0, sumF l m l.length 0) := by
  unfold impl_team.f
  rw [i_team l hl N hr m h0 h1 l.length 0 [] 0 (by omega) (by omega) (by omega) (by omega) (by simp; omega) k (by omega)]
  simp

/-! ### both loops -/
def outOf (l : List S106) (b : Int) : List S118 := if b < 0 then [] else teams l b
theorem outOf_len (l : List S106) (b : Int) : ((outOf l b).length : Int) = 0 ↔ b < 0 := by
  unfold outOf teams
  split <;> simp_all
theorem size_eq (x : Int) (h0 : -100000 ≤ x) (h1 : x ≤ 100000) : impl_size.f x = some (if x < 0 then -x else x) := by
  unfold impl_size.f mx
  rw [w64 (by omega) (by omega)]
  congr 1
  (repeat' split) <;> omega
theorem i_step (l : List S106) (hl : l.length ≤ 12) (N : Num l.length) (hr : ∀ p ∈ l, Rng p) (m best least : Int) (h0 : 2 ^ (l.length - 1) ≤ m) (h1 : m < 2 ^ l.length) (k : Nat) (hk : 30 < k) :
    impl_FairTeams.l0 (k + 1) l (l.length : Int) (outOf l best) least m = impl_FairTeams.l0 k l (l.length : Int) (outOf l (if take l m best least = true then m else best)) (if take l m best least = true then dif l m else least) (m - 1) := by
  have hone := N.one
  have hbig := N.big
  have hlo := N.lo
  have hS := sumF_le l hr m l.length 0 (by omega) (by omega)
  have hA := allF_le l hr l.length 0 (by omega) (by omega)
  have hC := sum_comp l N m (by omega) h1 l.length 0 (by omega) (by omega)
  have hu : IntKind.u64.wrap m = m := by simp [IntKind.wrap, IntKind.bits, IntKind.signed]; omega
  have hq : Int.tdiv (l.length : Int) 2 = (l.length : Int) / 2 := Int.tdiv_eq_ediv_of_nonneg (by omega)
  rw [impl_FairTeams.l0, w64 (n := (l.length : Int) - 1) (by omega) (by omega), if_pos (by omega), N.half, if_pos (by omega), hu, N.ones m (by omega) h1, Option.bind_some, hq, w64 (n := (l.length : Int) / 2) (by omega) (by omega), w64 (n := m - 1) (by omega) (by omega)]
  by_cases c1 : cntF l.length m l.length 0 = (l.length : Int) / 2
  · rw [if_pos c1, team_eq l hl N hr m (by omega) h1 k (by omega), Option.bind_some, if_pos (by omega), N.full, w64 (n := 2 ^ l.length - 1) (by omega) (by omega), w64 (n := 2 ^ l.length - 1 - m) (by omega) (by omega), team_eq l hl N hr (2 ^ l.length - 1 - m) (by omega) (by omega) k (by omega), Option.bind_some, Option.bind_some, if_pos (by simp), if_pos (by simp)]
    have e1 : impl_size.f (wrap64 (((rd_T118 [(⟨namF l m l.length 0, sumF l m l.length 0⟩ : S118), (⟨namF l (2 ^ l.length - 1 - m) l.length 0, sumF l (2 ^ l.length - 1 - m) l.length 0⟩ : S118)] 0).f1) - ((rd_T118 [(⟨namF l m l.length 0, sumF l m l.length 0⟩ : S118), (⟨namF l (2 ^ l.length - 1 - m) l.length 0, sumF l (2 ^ l.length - 1 - m) l.length 0⟩ : S118)] 1).f1))) = some (dif l m) := by
      show impl_size.f (wrap64 (sumF l m l.length 0 - sumF l (2 ^ l.length - 1 - m) l.length 0)) = _
      rw [hC, w64 (by omega) (by omega), size_eq _ (by omega) (by omega)]
      unfold dif
      congr 1
      (repeat' split) <;> omega
    have e2 : outOf l m = [(⟨namF l m l.length 0, sumF l m l.length 0⟩ : S118), (⟨namF l (2 ^ l.length - 1 - m) l.length 0, sumF l (2 ^ l.length - 1 - m) l.length 0⟩ : S118)] := by
      unfold outOf teams
      rw [if_neg (by omega)]
    rw [e1, Option.bind_some, ← e2]
    unfold take
    by_cases c2 : best < 0
    · rw [if_pos ((outOf_len l best).2 c2), if_pos (by rw [decide_eq_true_eq]; exact ⟨c1, .inl c2⟩), if_pos (by rw [decide_eq_true_eq]; exact ⟨c1, .inl c2⟩)]
    · rw [if_neg (fun h => c2 ((outOf_len l best).1 h))]
      by_cases c3 : dif l m < least
      · rw [if_pos c3, if_pos (by rw [decide_eq_true_eq]; exact ⟨c1, .inr c3⟩), if_pos (by rw [decide_eq_true_eq]; exact ⟨c1, .inr c3⟩)]
      · rw [if_neg c3, if_neg (by rw [decide_eq_true_eq]; rintro ⟨_, h | h⟩; exact c2 h; exact c3 h), if_neg (by rw [decide_eq_true_eq]; rintro ⟨_, h | h⟩; exact c2 h; exact c3 h)]
  · rw [if_neg c1]
    unfold take
    rw [if_neg (by rw [decide_eq_true_eq]; exact fun h => c1 h.1), if_neg (by rw [decide_eq_true_eq]; exact fun h => c1 h.1)]
theorem both (l : List S106) (hl : l.length ≤ 12) (N : Num l.length) (hr : ∀ p ∈ l, Rng p) (e : Nat) : ∀ (m best least : Int), m = 2 ^ (l.length - 1) - 1 + e → m < 2 ^ l.length → best < 2 ^ l.length →
    ∃ b, b < 2 ^ l.length ∧ (∀ k, spec_FairTeams.l1 (k + e * (l.length + 2) + 1) l (allF l l.length 0) best least m = spec_FairTeams.l3 k l b (List.replicate 2 z118) l (l.length : Int) 0) ∧
      (∀ k, 40 < k → impl_FairTeams.l0 (k + e) l (l.length : Int) (outOf l best) least m = some (outOf l b, true)) ∧ (0 ≤ best → 0 ≤ b) ∧ (∀ s : Int, 2 ^ (l.length - 1) ≤ s → s ≤ m → cntF l.length s l.length 0 = (l.length : Int) / 2 → 0 ≤ b) := by
  have hone := N.one
  have hbig := N.big
  have hlo := N.lo
  have hus : IntKind.u64.wrap (wrap64 ((l.length : Int) - 1)) = (l.length : Int) - 1 := by
    rw [w64 (by omega) (by omega)]
    simp [IntKind.wrap, IntKind.bits, IntKind.signed]; omega
  induction e with
  | zero =>
    intro m best least hm h1 hb
    refine ⟨best, hb, fun k => ?_, fun k hk => ?_, fun h => h, fun s hs hsm _ => by omega⟩
    · rw [show k + 0 * (l.length + 2) + 1 = k + 1 by omega, spec_FairTeams.l1, hus, if_pos (by omega), N.half, if_neg (by omega), if_pos (by omega)]
    · obtain ⟨k, rfl⟩ : ∃ j, k = j + 1 := ⟨k - 1, by omega⟩
      rw [show k + 1 + 0 = k + 1 by omega, impl_FairTeams.l0, w64 (n := (l.length : Int) - 1) (by omega) (by omega), if_pos (by omega), N.half, if_neg (by omega)]
  | succ e ih =>
    intro m best least hm h1 hb
    have hge : 2 ^ (l.length - 1) ≤ m := by omega
    obtain ⟨b, b0, b1, b2, b3, b4⟩ := ih (m - 1) (if take l m best least = true then m else best) (if take l m best least = true then dif l m else least) (by omega) (by omega) (by split <;> omega)
    refine ⟨b, b0, fun k => ?_, fun k hk => ?_, fun h => b3 (by split <;> omega), fun s hs hsm hc => ?_⟩
    · rw [show k + (e + 1) * (l.length + 2) + 1 = (k + e * (l.length + 2) + 1) + (l.length + 1) + 1 by rw [Nat.add_mul, Nat.one_mul]; omega, spec_FairTeams.l1, hus, if_pos (by omega), N.half, if_pos (by omega)]
      rw [s_mask l hl N hr best least m (by omega) h1 l.length 0 0 0 (by omega) (by omega) (by omega) (by omega) (by omega) (by omega) (k + e * (l.length + 2) + 1)]
      exact b1 k
    · rw [show k + (e + 1) = (k + e) + 1 by omega, i_step l hl N hr m best least hge h1 (k + e) (by omega)]
      exact b2 k hk
    · by_cases hsm2 : s = m
      · subst hsm2
        by_cases hbn : best < 0
        · refine b3 ?_
          rw [if_pos (by unfold take; rw [decide_eq_true_eq]; exact ⟨hc, .inl hbn⟩)]
          omega
        · exact b3 (by split <;> omega)
      · exact b4 s hs (by omega) hc

/-! ### the whole -/
theorem sbad (k : Nat) (hk : 1 ≤ k) (l : List S106) : spec_FairTeams.j0 k l true = some ([], false) := by
  obtain ⟨k, rfl⟩ : ∃ m, k = m + 1 := ⟨k - 1, by omega⟩
  rw [spec_FairTeams.j0, if_pos rfl]
theorem ibad (k : Nat) (hk : 1 ≤ k) (l : List S106) (n : Int) : impl_FairTeams.j0 k l n true = some ([], false) := by
  obtain ⟨k, rfl⟩ : ∃ m, k = m + 1 := ⟨k - 1, by omega⟩
  rw [impl_FairTeams.j0, if_pos rfl]
theorem ft_all (l : List S106) (hs : Sm l) (hl : l.length ≤ 1048576) (k : Nat) (hk : 3000000 ≤ k) : ∃ r o, spec_FairTeams.f k l = some (r, o) ∧ impl_FairTeams.f k l = some (r, o) ∧ r.length ≤ 2 ∧ ∀ t ∈ r, t.f0.length ≤ 12 := by
  unfold spec_FairTeams.f impl_FairTeams.f
  rw [splayers_eq l hs hl k (by omega), iplayers_eq l hs hl k (by omega), Option.bind_some, Option.bind_some]
  have bad : ∀ (x y : Option (List S118 × Bool)), x = some ([], false) → y = some ([], false) → ∃ r o, x = some (r, o) ∧ y = some (r, o) ∧ r.length ≤ 2 ∧ ∀ t ∈ r, t.f0.length ≤ 12 := fun x y hx hy => ⟨_, _, hx, hy, by simp, by simp⟩
  by_cases hg : GoodP l = true
  · rw [if_pos hg, if_pos hg]
    have h12 : (l.length : Int) ≤ 12 := by
      have := hg
      unfold GoodP at this
      rw [Bool.and_eq_true, decide_eq_true_eq] at this
      exact this.2
    by_cases h2 : (l.length : Int) < 2
    · rw [if_pos h2]
      by_cases hz : (l.length : Int) = 0
      · rw [if_pos hz]
        exact bad _ _ (sbad k (by omega) l) (ibad k (by omega) l _)
      · rw [if_neg hz, show (((l.length : Int) % 2) == 1) = true by rw [beq_iff_eq]; omega]
        exact bad _ _ (sbad k (by omega) l) (ibad k (by omega) l _)
    · rw [if_neg h2, if_neg (show ¬ (l.length : Int) = 0 by omega)]
      by_cases hodd : (l.length : Int) % 2 = 1
      · rw [show (((l.length : Int) % 2) == 1) = true by rw [beq_iff_eq]; exact hodd]
        exact bad _ _ (sbad k (by omega) l) (ibad k (by omega) l _)
      · rw [show (((l.length : Int) % 2) == 1) = false by rw [beq_eq_false_iff_ne]; exact hodd]
        have N : Num l.length := num_of l.length (by omega) (by omega) (by omega)
        have hr := good_rng l hg
        have hone := N.one
        have hbig := N.big
        have hdbl := N.dbl
        obtain ⟨e, he⟩ : ∃ e : Nat, (e : Int) = 2 ^ (l.length - 1) := ⟨(2 ^ (l.length - 1) : Int).toNat, by omega⟩
        obtain ⟨b, b0, b1, b2, _, b4⟩ := both l (by omega) N hr e (2 ^ l.length - 1) (-1) 0 (by omega) (by omega) (by omega)
        obtain ⟨s, s0, s1, s2⟩ := N.mid
        have hcast : ((2 ^ l.length : Nat) : Int) = 2 ^ l.length := by simp
        have hcast2 : ((2 ^ (l.length - 1) : Nat) : Int) = 2 ^ (l.length - 1) := by simp
        have hb := b4 (s : Int) (by omega) (by omega) s2
        have hemul : e * (l.length + 2) ≤ 4096 * 14 := Nat.mul_le_mul (by omega) (by omega)
        refine ⟨teams l b, true, ?_, ?_, by simp [teams], ?_⟩
        · obtain ⟨k, rfl⟩ : ∃ m, k = m + e * (l.length + 2) + 1 + (l.length + 1) + 1 := ⟨k - (e * (l.length + 2) + l.length + 3), by omega⟩
          rw [spec_FairTeams.j0, if_neg (by decide), s_all l (by omega) N hr l.length 0 0 (by omega) (by omega) (by omega) (by omega) (k + e * (l.length + 2) + 1), show (0 : Int) + allF l l.length 0 = allF l l.length 0 by omega, b1 k]
          show spec_FairTeams.l3 k l b [⟨[], 0⟩, ⟨[], 0⟩] l (l.length : Int) 0 = _
          rw [s_teams l (by omega) N hr b hb b0 l.length 0 [] [] 0 0 (by omega) (by omega) (by omega) (by omega) (by omega) (by omega) (by simp; omega) (by simp; omega) k (by omega)]
          simp [teams]
        · obtain ⟨k, rfl⟩ : ∃ m, k = m + e + 1 := ⟨k - (e + 1), by omega⟩
          rw [impl_FairTeams.j0, if_neg (by decide), if_pos (by omega), N.full, w64 (n := 2 ^ l.length - 1) (by omega) (by omega)]
          have h3 := b2 k (by omega)
          have e1 : outOf l (-1) = [] := by unfold outOf; rw [if_pos (by omega)]
          have e2 : outOf l b = teams l b := by unfold outOf; rw [if_neg (by omega)]
          rw [e1, e2] at h3
          exact h3
        · intro t ht
          have q1 := namF_len l b l.length 0
          have q2 := namF_len l (2 ^ l.length - 1 - b) l.length 0
          unfold teams at ht
          simp only [List.mem_cons, List.not_mem_nil, or_false] at ht
          rcases ht with rfl | rfl
          · show (namF l b l.length 0).length ≤ 12; omega
          · show (namF l (2 ^ l.length - 1 - b) l.length 0).length ≤ 12; omega
  · rw [if_neg hg, if_neg hg]
    exact bad _ _ (sbad k (by omega) l) (ibad k (by omega) l _)
/-! ### teams: eq, marks -/
theorem rd118_mem {l : List S118} {i : Int} (h0 : 0 ≤ i) (h : i < l.length) : rd_T118 l i ∈ l := by
  unfold rd_T118
  rw [List.getD_eq_getElem?_getD, List.getElem?_eq_getElem (by omega)]
  exact List.getElem_mem _
theorem teq_go (l : List S118) (hl : l.length ≤ 2) (ht : ∀ t ∈ l, t.f0.length ≤ 12) (d : Nat) : ∀ (k : Nat) (i : Int), d + 1048600 < k → 0 ≤ i → i + d = l.length → laws_eqTeamS.l0 k l l i = some true := by
  induction d with
  | zero =>
    intro k i hk h0 hi
    obtain ⟨k, rfl⟩ : ∃ m, k = m + 1 := ⟨k - 1, by omega⟩
    rw [laws_eqTeamS.l0, if_neg (by omega)]
  | succ d ih =>
    intro k i hk h0 hi
    obtain ⟨k, rfl⟩ : ∃ m, k = m + 1 := ⟨k - 1, by omega⟩
    have hm := ht _ (rd118_mem (l := l) h0 (by omega))
    rw [laws_eqTeamS.l0, if_pos (by omega), if_pos h0, if_pos (by omega)]
    unfold laws_eqTeam.f
    rw [seq_self _ (by omega) k (by omega), Option.bind_some, if_pos rfl, if_pos rfl, Option.bind_some, if_pos rfl, w64 (n := i + 1) (by omega) (by omega)]
    exact ih k (i + 1) (by omega) (by omega) (by omega)
theorem teq_self (l : List S118) (hl : l.length ≤ 2) (ht : ∀ t ∈ l, t.f0.length ≤ 12) (k : Nat) (hk : 1048700 ≤ k) : laws_eqTeamS.f k l l = some true := by
  unfold laws_eqTeamS.f
  rw [if_pos rfl]
  exact teq_go l hl ht l.length k 0 (by omega) (by omega) (by omega)
def HT (ys : List S118) : Nat → Nat → Int → Int → Prop
  | 0, _, c, e => e = c
  | d + 1, i, c, e => ∃ t : S118, ys[i]? = some t ∧ t.f0.length ≤ 12 ∧ Held t.f0 c 0 t.f0.length ∧ t.f1 = c + t.f0.length ∧ HT ys d (i + 1) (c + t.f0.length + 1) e
theorem tmark_go (d : Nat) : ∀ (k : Nat) (xs : List S118) (c : Int) (i : Nat), d + 100 < k → i + d = xs.length → xs.length ≤ 2 → (∀ j t, i ≤ j → xs[j]? = some t → t.f0.length ≤ 12) → 0 ≤ c → c + 13 * d ≤ 1000000 →
    ∃ e ys, laws_markTeamS.l0 k xs c (i : Int) = some (e, ys) ∧ ys.length = xs.length ∧ (∀ j, j < i → ys[j]? = xs[j]?) ∧ HT ys d i c e ∧ 0 ≤ e := by
  induction d with
  | zero =>
    intro k xs c i hk hi hl ht hc hc1
    obtain ⟨k, rfl⟩ : ∃ m, k = m + 1 := ⟨k - 1, by omega⟩
    exact ⟨c, xs, by rw [laws_markTeamS.l0, if_neg (by omega)], rfl, fun _ _ => rfl, rfl, hc⟩
  | succ d ih =>
    intro k xs c i hk hi hl ht hc hc1
    obtain ⟨k, rfl⟩ : ∃ m, k = m + 1 := ⟨k - 1, by omega⟩
    have hlt : i < xs.length := by omega
    obtain ⟨t, htt⟩ : ∃ t, xs[i]? = some t := ⟨xs[i], List.getElem?_eq_getElem hlt⟩
    have hrd : rd_T118 xs (i : Int) = t := by
      unfold rd_T118
      rw [List.getD_eq_getElem?_getD, show ((i : Int)).toNat = i by omega, htt]; rfl
    have hlen := ht i t (by omega) htt
    obtain ⟨ns, n1, n2, _, n4⟩ := smark_go t.f0.length k t.f0 c 0 (by omega) (by omega) (by omega) hc (by omega)
    obtain ⟨e, ys, h1, h2, h3, h4, h5⟩ := ih k (xs.set i ⟨ns, c + t.f0.length⟩) (c + t.f0.length + 1) (i + 1) (by omega) (by rw [List.length_set]; omega) (by rw [List.length_set]; omega) (fun j u hj hu => by rw [List.getElem?_set_ne (by omega)] at hu; exact ht j u (by omega) hu) (by omega) (by omega)
    rw [laws_markTeamS.l0, if_pos (by omega), if_pos (by omega), hrd]
    unfold laws_markStringS.f
    replace n1 : laws_markStringS.l0 k t.f0 c 0 = some (c + t.f0.length, ns) := n1
    rw [n1, Option.bind_some, w64 (n := c + t.f0.length + 1) (by omega) (by omega), w64 (n := (i : Int) + 1) (by omega) (by omega), show ((i : Int) + 1) = ((i + 1 : Nat) : Int) by omega, show ((i : Int)).toNat = i by omega]
    refine ⟨e, ys, h1, by rw [h2, List.length_set], fun j hj => by rw [h3 j (by omega), List.getElem?_set_ne (by omega)], ⟨⟨ns, c + t.f0.length⟩, by rw [h3 i (by omega), List.getElem?_set_self hlt], by show ns.length ≤ 12; omega, by show Held ns c 0 ns.length; rw [n2]; exact n4, by show c + (t.f0.length : Int) = c + (ns.length : Int); rw [n2], by show HT ys d (i + 1) (c + (ns.length : Int) + 1) e; rw [n2]; exact h4⟩, h5⟩
theorem theld_go (ys : List S118) (hl : ys.length ≤ 2) (d : Nat) : ∀ (k : Nat) (c e : Int) (i : Nat), d + 100 < k → i + d = ys.length → 0 ≤ c → c + 13 * d ≤ 1000000 → HT ys d i c e → laws_heldTeamS.l0 k ys c (i : Int) = some e := by
  induction d with
  | zero =>
    intro k c e i hk hi hc hc1 h
    obtain ⟨k, rfl⟩ : ∃ m, k = m + 1 := ⟨k - 1, by omega⟩
    rw [laws_heldTeamS.l0, if_neg (by omega)]
    rw [HT] at h; rw [h]
  | succ d ih =>
    intro k c e i hk hi hc hc1 h
    obtain ⟨k, rfl⟩ : ∃ m, k = m + 1 := ⟨k - 1, by omega⟩
    obtain ⟨t, q1, q2, q3, q4, q5⟩ := h
    have hrd : rd_T118 ys (i : Int) = t := by
      unfold rd_T118
      rw [List.getD_eq_getElem?_getD, show ((i : Int)).toNat = i by omega, q1]; rfl
    rw [laws_heldTeamS.l0, if_pos (by omega), if_pos (by omega), hrd]
    unfold laws_heldStringS.f
    have q6 : laws_heldStringS.l0 k t.f0 c 0 = some (c + t.f0.length) := sheld_go t.f0 (by omega) t.f0.length k c 0 (by omega) (by omega) hc (by omega) q3
    rw [q6, Option.bind_some, if_neg (by omega), if_pos q4, w64 (n := c + t.f0.length + 1) (by omega) (by omega), w64 (n := (i : Int) + 1) (by omega) (by omega), show ((i : Int) + 1) = ((i + 1 : Nat) : Int) by omega]
    exact ih k _ e (i + 1) (by omega) (by omega) (by omega) (by omega) q5
theorem tmark_tot (xs : List S118) (hl : xs.length ≤ 2) (ht : ∀ t ∈ xs, t.f0.length ≤ 12) (k : Nat) (hk : 1048700 ≤ k) : ∃ c ys, laws_markTeamS.f k xs 1 = some (c, ys) ∧ 0 ≤ c ∧ laws_heldTeamS.f k ys 1 = some c := by
  obtain ⟨e, ys, h1, h2, _, h4, h5⟩ := tmark_go xs.length k xs 1 0 (by omega) (by omega) hl (fun j t _ h => ht t (List.mem_of_getElem? h)) (by omega) (by omega)
  exact ⟨e, ys, h1, h5, theld_go ys (by omega) xs.length k 1 e 0 (by omega) (by omega) (by omega) (by omega) h4⟩
theorem law_all (l : List S103) (hs : Len l) (hl : l.length ≤ 9223372036854775807) : laws_FnExactFairTeams.f 4000000 l = some true := by
  unfold laws_FnExactFairTeams.f
  obtain ⟨t, ht, h2⟩ := sz_eq l hs hl 4000000 (by omega)
  rw [ht, Option.bind_some]
  by_cases hneg : t < 0
  · rw [if_pos hneg]
  · obtain ⟨hl', hs'⟩ := h2 hneg
    rw [if_neg hneg, to_eq l hl' 4000000 (by omega), Option.bind_some]
    have hlm : (l.map conv).length ≤ 1048576 := by rw [List.length_map]; exact hl'
    have hsm : Sm (l.map conv) := by
      intro p hp
      obtain ⟨q, hq, rfl⟩ := List.mem_map.1 hp
      exact hs' q hq
    generalize l.map conv = m at *
    obtain ⟨r, o, hsp, him, hr, hrt⟩ := ft_all m hsm hlm 4000000 (by omega)
    rw [hsp, Option.bind_some, Option.bind_some, him, Option.bind_some]
    dsimp only
    rw [teq_self r hr hrt 4000000 (by omega), Option.bind_some, if_pos rfl, if_neg (by simp), Option.bind_some, peq_self m hlm 4000000 (by omega), Option.bind_some, if_pos rfl]
    obtain ⟨c, ys, hc, hc0⟩ := pmark_tot m hlm 4000000 (by omega)
    rw [hc, Option.bind_some]
    dsimp only
    obtain ⟨e, zs, he, he0, hh⟩ := tmark_tot r hr hrt 4000000 (by omega)
    rw [if_neg (by omega), Option.bind_some, if_pos rfl, he, Option.bind_some]
    dsimp only
    rw [hh, Option.bind_some, if_neg (by omega), if_pos rfl, Option.bind_some, him, Option.bind_some]
    dsimp only
    rw [teq_self r hr hrt 4000000 (by omega), Option.bind_some, if_pos rfl, if_neg (by simp), Option.bind_some, if_neg (by omega), if_pos rfl]
theorem law_pure : laws_FnExactFairTeams.Pure := fun l hl => ⟨4000000, law_all l (fun p hp => (hl.2 p hp).1) hl.1⟩

theorem FnExactFairTeams : laws_FnExactFairTeams.Pure := law_pure
end Go.Proofs.Ytjbkagmfkcoclaa.Pure
