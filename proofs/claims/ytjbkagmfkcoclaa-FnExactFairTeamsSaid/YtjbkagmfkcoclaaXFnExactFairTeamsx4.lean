-- Lean text written by a program of this session out of the translation
import Derived.Test.YtjbkagmfkcoclaaXFnExactFairTeamsx0
import Derived.Test.YtjbkagmfkcoclaaXFnExactFairTeamsx3
namespace Go.Proofs.Ytjbkagmfkcoclaa.XFnExactFairTeams
open Go.RowKit Go.Proofs.YtjbkagmfkcoclaaW.PrintWords Go.Proofs.YtjbkagmfkcoclaaW.PrintLast Go.Proofs.YtjbkagmfkcoclaaW.PrintMore
attribute [local go_sem] max2_int min2_int max_two min_two max_three min_three max_four min_four   -- for this text's walks alone
set_option linter.unusedVariables false
set_option linter.unusedSimpArgs false

/-! ### spec_FairTeams: function 36 -/
mutual
def spec_FairTeams.j0 : Nat → List (S106) → Bool → Option ((List (S118)) × Bool)
 | 0, _, _ => none
 | k + 1, x0, x32 => if x32 = true then (some (([] : List (S118)), false)) else (spec_FairTeams.l0 k x0 0 x0 (x0.length : Int) 0)
def spec_FairTeams.l0 : Nat → List (S106) → Int → List (S106) → Int → Int → Option ((List (S118)) × Bool)
 | 0, _, _, _, _, _ => none
 | k + 1, x0, x4, x33, x34, x35 => if x35 < x34 then (if 0 ≤ x35 then (if x35 < (x33.length : Int) then (spec_FairTeams.l0 k x0 (wrap64 (x4 + ((rd_T106 x33 x35).f1))) x33 x34 (wrap64 (x35 + 1))) else (none)) else (none)) else (if 0 ≤ (IntKind.u64.wrap ((x0.length : Int))) then (spec_FairTeams.l1 k x0 x4 (-1) 0 (wrap64 ((shl .i64 1 (IntKind.u64.wrap ((x0.length : Int)))) - 1))) else (none))
def spec_FairTeams.l1 : Nat → List (S106) → Int → Int → Int → Int → Option ((List (S118)) × Bool)
 | 0, _, _, _, _, _ => none
 | k + 1, x0, x4, x7, x8, x9 => if 0 ≤ (IntKind.u64.wrap (wrap64 ((x0.length : Int) - 1))) then (if x9 ≥ (shl .i64 1 (IntKind.u64.wrap (wrap64 ((x0.length : Int) - 1)))) then (spec_FairTeams.l2 k x0 x4 x7 x8 x9 0 0 x0 (x0.length : Int) 0) else (if 2 ≤ 8796093022208 then (spec_FairTeams.l3 k x0 x7 (List.replicate 2 z118) x0 (x0.length : Int) 0) else (none))) else (none)
def spec_FairTeams.l2 : Nat → List (S106) → Int → Int → Int → Int → Int → Int → List (S106) → Int → Int → Option ((List (S118)) × Bool)
 | 0, _, _, _, _, _, _, _, _, _, _ => none
 | k + 1, x0, x4, x7, x8, x9, x10, x11, x58, x59, x60 => if x60 < x59 then (if 0 ≤ x60 then (if x60 < (x58.length : Int) then (if 0 ≤ (IntKind.u64.wrap (wrap64 ((wrap64 ((x0.length : Int) - 1)) - x60))) then (if (Go.bits .and .i64 (shr .i64 x9 (IntKind.u64.wrap (wrap64 ((wrap64 ((x0.length : Int) - 1)) - x60)))) 1) = 1 then (spec_FairTeams.l2 k x0 x4 x7 x8 x9 (wrap64 (x10 + 1)) (wrap64 (x11 + ((rd_T106 x58 x60).f1))) x58 x59 (wrap64 (x60 + 1))) else (spec_FairTeams.l2 k x0 x4 x7 x8 x9 x10 x11 x58 x59 (wrap64 (x60 + 1)))) else (none)) else (none)) else (none)) else ((spec_l1Abs.f (wrap64 (x4 - (wrap64 (2 * x11))))).bind fun t143 => (if x10 = (wrap64 ((x0.length : Int) / 2)) then (if x7 < 0 then (spec_FairTeams.l1 k x0 x4 x9 t143 (wrap64 (x9 - 1))) else (if t143 < x8 then (spec_FairTeams.l1 k x0 x4 x9 t143 (wrap64 (x9 - 1))) else (spec_FairTeams.l1 k x0 x4 x7 x8 (wrap64 (x9 - 1))))) else (spec_FairTeams.l1 k x0 x4 x7 x8 (wrap64 (x9 - 1)))))
def spec_FairTeams.l3 : Nat → List (S106) → Int → List (S118) → List (S106) → Int → Int → Option ((List (S118)) × Bool)
 | 0, _, _, _, _, _, _ => none
 | k + 1, x0, x7, x15, x104, x105, x106 => if x106 < x105 then (if 0 ≤ x106 then (if x106 < (x104.length : Int) then (if 0 ≤ (IntKind.u64.wrap (wrap64 ((wrap64 ((x0.length : Int) - 1)) - x106))) then (if 0 ≤ (wrap64 (1 - (Go.bits .and .i64 (shr .i64 x7 (IntKind.u64.wrap (wrap64 ((wrap64 ((x0.length : Int) - 1)) - x106)))) 1))) then (if (wrap64 (1 - (Go.bits .and .i64 (shr .i64 x7 (IntKind.u64.wrap (wrap64 ((wrap64 ((x0.length : Int) - 1)) - x106)))) 1))) < (x15.length : Int) then (if ((rd_T118 x15 (wrap64 (1 - (Go.bits .and .i64 (shr .i64 x7 (IntKind.u64.wrap (wrap64 ((wrap64 ((x0.length : Int) - 1)) - x106)))) 1)))).f0).length < 8796093022208 then ((some (x15.set ((wrap64 (1 - (Go.bits .and .i64 (shr .i64 x7 (IntKind.u64.wrap (wrap64 ((wrap64 ((x0.length : Int) - 1)) - x106)))) 1))) : Int).toNat (⟨(((rd_T118 x15 (wrap64 (1 - (Go.bits .and .i64 (shr .i64 x7 (IntKind.u64.wrap (wrap64 ((wrap64 ((x0.length : Int) - 1)) - x106)))) 1)))).f0) ++ [(rd_T106 x104 x106).f0]), (rd_T118 x15 (wrap64 (1 - (Go.bits .and .i64 (shr .i64 x7 (IntKind.u64.wrap (wrap64 ((wrap64 ((x0.length : Int) - 1)) - x106)))) 1)))).f1⟩ : S118) : List (S118))).bind fun y153 => (spec_FairTeams.l3 k x0 x7 (y153.set ((wrap64 (1 - (Go.bits .and .i64 (shr .i64 x7 (IntKind.u64.wrap (wrap64 ((wrap64 ((x0.length : Int) - 1)) - x106)))) 1))) : Int).toNat (⟨(rd_T118 y153 (wrap64 (1 - (Go.bits .and .i64 (shr .i64 x7 (IntKind.u64.wrap (wrap64 ((wrap64 ((x0.length : Int) - 1)) - x106)))) 1)))).f0, wrap64 (((rd_T118 y153 (wrap64 (1 - (Go.bits .and .i64 (shr .i64 x7 (IntKind.u64.wrap (wrap64 ((wrap64 ((x0.length : Int) - 1)) - x106)))) 1)))).f1) + ((rd_T106 x104 x106).f1))⟩ : S118)) x104 x105 (wrap64 (x106 + 1)))) else (none)) else (none)) else (none)) else (none)) else (none)) else (none)) else (some (x15, true))
end
def spec_FairTeams.f (k : Nat) (l0 : List (S106)) : Option ((List (S118)) × Bool) := (spec_GoodPlayers.f k l0).bind fun t138 => (if t138 = true then (if (l0.length : Int) < 2 then (spec_FairTeams.j0 k l0 true) else (spec_FairTeams.j0 k l0 (((l0.length : Int) % 2) == 1))) else (spec_FairTeams.j0 k l0 true))
theorem spec_FairTeams.mono_l : ∀ k, (∀ y0 y1, LeO (spec_FairTeams.j0 k y0 y1) (spec_FairTeams.j0 (k + 1) y0 y1)) ∧ (∀ y0 y1 y2 y3 y4, LeO (spec_FairTeams.l0 k y0 y1 y2 y3 y4) (spec_FairTeams.l0 (k + 1) y0 y1 y2 y3 y4)) ∧ (∀ y0 y1 y2 y3 y4, LeO (spec_FairTeams.l1 k y0 y1 y2 y3 y4) (spec_FairTeams.l1 (k + 1) y0 y1 y2 y3 y4)) ∧ (∀ y0 y1 y2 y3 y4 y5 y6 y7 y8 y9, LeO (spec_FairTeams.l2 k y0 y1 y2 y3 y4 y5 y6 y7 y8 y9) (spec_FairTeams.l2 (k + 1) y0 y1 y2 y3 y4 y5 y6 y7 y8 y9)) ∧ (∀ y0 y1 y2 y3 y4 y5, LeO (spec_FairTeams.l3 k y0 y1 y2 y3 y4 y5) (spec_FairTeams.l3 (k + 1) y0 y1 y2 y3 y4 y5))
 | 0 => ⟨fun _ _ r h => by simp [spec_FairTeams.j0] at h, fun _ _ _ _ _ r h => by simp [spec_FairTeams.l0] at h, fun _ _ _ _ _ r h => by simp [spec_FairTeams.l1] at h, fun _ _ _ _ _ _ _ _ _ _ r h => by simp [spec_FairTeams.l2] at h, fun _ _ _ _ _ _ r h => by simp [spec_FairTeams.l3] at h⟩
 | k + 1 => by
  obtain ⟨ih0, ih1, ih2, ih3, ih4⟩ := spec_FairTeams.mono_l k
  refine ⟨?_, ?_, ?_, ?_, ?_⟩
  ·intro y0 y1
   unfold spec_FairTeams.j0
   repeat' first
   | (with_reducible exact ih0 _ _)
   | (with_reducible exact ih1 _ _ _ _ _)
   | (with_reducible exact ih2 _ _ _ _ _)
   | (with_reducible exact ih3 _ _ _ _ _ _ _ _ _ _)
   | (with_reducible exact ih4 _ _ _ _ _ _)
   | (with_reducible exact spec_GoodPlayers.mono _ _)
   | (with_reducible exact LeO.refl _)
   | (with_reducible exact LeO.none _)
   | (with_reducible refine LeO.ite ?_ ?_)
   | (with_reducible refine LeO.bind ?_ (fun _ => ?_))
   | exact ih0 _ _
   | exact ih1 _ _ _ _ _
   | exact ih2 _ _ _ _ _
   | exact ih3 _ _ _ _ _ _ _ _ _ _
   | exact ih4 _ _ _ _ _ _
   | exact spec_GoodPlayers.mono _ _
   | exact LeO.none _
   | refine LeO.ite ?_ ?_
   | refine LeO.bind ?_ (fun _ => ?_)
  ·intro y0 y1 y2 y3 y4
   unfold spec_FairTeams.l0
   repeat' first
   | (with_reducible exact ih0 _ _)
   | (with_reducible exact ih1 _ _ _ _ _)
   | (with_reducible exact ih2 _ _ _ _ _)
   | (with_reducible exact ih3 _ _ _ _ _ _ _ _ _ _)
   | (with_reducible exact ih4 _ _ _ _ _ _)
   | (with_reducible exact spec_GoodPlayers.mono _ _)
   | (with_reducible exact LeO.refl _)
   | (with_reducible exact LeO.none _)
   | (with_reducible refine LeO.ite ?_ ?_)
   | (with_reducible refine LeO.bind ?_ (fun _ => ?_))
   | exact ih0 _ _
   | exact ih1 _ _ _ _ _
   | exact ih2 _ _ _ _ _
   | exact ih3 _ _ _ _ _ _ _ _ _ _
   | exact ih4 _ _ _ _ _ _
   | exact spec_GoodPlayers.mono _ _
   | exact LeO.none _
   | refine LeO.ite ?_ ?_
   | refine LeO.bind ?_ (fun _ => ?_)
  ·intro y0 y1 y2 y3 y4
   unfold spec_FairTeams.l1
   repeat' first
   | (with_reducible exact ih0 _ _)
   | (with_reducible exact ih1 _ _ _ _ _)
   | (with_reducible exact ih2 _ _ _ _ _)
   | (with_reducible exact ih3 _ _ _ _ _ _ _ _ _ _)
   | (with_reducible exact ih4 _ _ _ _ _ _)
   | (with_reducible exact spec_GoodPlayers.mono _ _)
   | (with_reducible exact LeO.refl _)
   | (with_reducible exact LeO.none _)
   | (with_reducible refine LeO.ite ?_ ?_)
   | (with_reducible refine LeO.bind ?_ (fun _ => ?_))
   | exact ih0 _ _
   | exact ih1 _ _ _ _ _
   | exact ih2 _ _ _ _ _
   | exact ih3 _ _ _ _ _ _ _ _ _ _
   | exact ih4 _ _ _ _ _ _
   | exact spec_GoodPlayers.mono _ _
   | exact LeO.none _
   | refine LeO.ite ?_ ?_
   | refine LeO.bind ?_ (fun _ => ?_)
  ·intro y0 y1 y2 y3 y4 y5 y6 y7 y8 y9
   unfold spec_FairTeams.l2
   repeat' first
   | (with_reducible exact ih0 _ _)
   | (with_reducible exact ih1 _ _ _ _ _)
   | (with_reducible exact ih2 _ _ _ _ _)
   | (with_reducible exact ih3 _ _ _ _ _ _ _ _ _ _)
   | (with_reducible exact ih4 _ _ _ _ _ _)
   | (with_reducible exact spec_GoodPlayers.mono _ _)
   | (with_reducible exact LeO.refl _)
   | (with_reducible exact LeO.none _)
   | (with_reducible refine LeO.ite ?_ ?_)
   | (with_reducible refine LeO.bind ?_ (fun _ => ?_))
   | exact ih0 _ _
   | exact ih1 _ _ _ _ _
   | exact ih2 _ _ _ _ _
   | exact ih3 _ _ _ _ _ _ _ _ _ _
   | exact ih4 _ _ _ _ _ _
   | exact spec_GoodPlayers.mono _ _
   | exact LeO.none _
   | refine LeO.ite ?_ ?_
   | refine LeO.bind ?_ (fun _ => ?_)
  ·intro y0 y1 y2 y3 y4 y5
   unfold spec_FairTeams.l3
   repeat' first
   | (with_reducible exact ih0 _ _)
   | (with_reducible exact ih1 _ _ _ _ _)
   | (with_reducible exact ih2 _ _ _ _ _)
   | (with_reducible exact ih3 _ _ _ _ _ _ _ _ _ _)
   | (with_reducible exact ih4 _ _ _ _ _ _)
   | (with_reducible exact spec_GoodPlayers.mono _ _)
   | (with_reducible exact LeO.refl _)
   | (with_reducible exact LeO.none _)
   | (with_reducible refine LeO.ite ?_ ?_)
   | (with_reducible refine LeO.bind ?_ (fun _ => ?_))
   | exact ih0 _ _
   | exact ih1 _ _ _ _ _
   | exact ih2 _ _ _ _ _
   | exact ih3 _ _ _ _ _ _ _ _ _ _
   | exact ih4 _ _ _ _ _ _
   | exact spec_GoodPlayers.mono _ _
   | exact LeO.none _
   | refine LeO.ite ?_ ?_
   | refine LeO.bind ?_ (fun _ => ?_)
theorem spec_FairTeams.mono : ∀ a0 k, LeO (spec_FairTeams.f k a0) (spec_FairTeams.f (k + 1) a0) := by
 intro a0 k
 obtain ⟨ih0, ih1, ih2, ih3, ih4⟩ := spec_FairTeams.mono_l k
 unfold spec_FairTeams.f
 repeat' first
   | (with_reducible exact ih0 _ _)
   | (with_reducible exact ih1 _ _ _ _ _)
   | (with_reducible exact ih2 _ _ _ _ _)
   | (with_reducible exact ih3 _ _ _ _ _ _ _ _ _ _)
   | (with_reducible exact ih4 _ _ _ _ _ _)
   | (with_reducible exact spec_GoodPlayers.mono _ _)
   | (with_reducible exact LeO.refl _)
   | (with_reducible exact LeO.none _)
   | (with_reducible refine LeO.ite ?_ ?_)
   | (with_reducible refine LeO.bind ?_ (fun _ => ?_))
   | exact ih0 _ _
   | exact ih1 _ _ _ _ _
   | exact ih2 _ _ _ _ _
   | exact ih3 _ _ _ _ _ _ _ _ _ _
   | exact ih4 _ _ _ _ _ _
   | exact spec_GoodPlayers.mono _ _
   | exact LeO.none _
   | refine LeO.ite ?_ ?_
   | refine LeO.bind ?_ (fun _ => ?_)
def spec_FairTeams.T32 : Bool × List (List Nat × List Nat) := (true, [([], []), ([], []), ([], []), ([], []), ([2, 3], [2, 3]), ([4], [4]), ([5], [5]), ([], []), ([7], [7]), ([8], [8]), ([6, 9], [6, 9]), ([0, 1, 0, 1, 2, 3, 4, 5, 6, 7, 8, 9, 10], [0, 1]), ([11, 0, 1, 2, 3, 4, 5, 6, 7, 8, 9, 10], [11]), ([12, 10, 10, 0, 1, 2, 3, 4, 5, 6, 7, 8, 9, 10], [10, 12])])
def spec_FairTeams.B32 : List Nat := [0, 0, 0, 0, 12, 28, 60, 0, 128, 384, 1020, 2047, 4095, 8191]
theorem spec_FairTeams.tab32 : rtab .any (opsOf Try.f36 32) = spec_FairTeams.T32 := by kernel_rfl
theorem spec_FairTeams.bits32 : waitsOk spec_FairTeams.T32.2 spec_FairTeams.B32 = true := by kernel_rfl
def spec_FairTeams.T33 : Bool × List (List Nat × List Nat) := (true, [([], []), ([], []), ([0, 1], [0, 1]), ([2], [2]), ([3], [3]), ([], []), ([5], [5]), ([4, 6], [4, 6]), ([0, 1, 0, 1, 2, 3, 4, 5, 6, 7], [0, 1]), ([8, 0, 1, 2, 3, 4, 5, 6, 7], [8]), ([9, 7, 0, 1, 2, 3, 4, 5, 6, 7], [7, 9])])
def spec_FairTeams.B33 : List Nat := [0, 0, 3, 7, 15, 0, 32, 127, 255, 511, 1023]
theorem spec_FairTeams.tab33 : rtab .any (opsOf Try.f36 33) = spec_FairTeams.T33 := by kernel_rfl
theorem spec_FairTeams.bits33 : waitsOk spec_FairTeams.T33.2 spec_FairTeams.B33 = true := by kernel_rfl
set_option maxHeartbeats 8000000 in
set_option maxRecDepth 100000 in
theorem spec_FairTeams.calls (k : Nat) (A0 : Option Addr) (c0 : Nat) (l0 : List (S106)) (r1 : List (S118)) (r2 : Bool) (w : World) (hr0 : Kd.C k106 w A0 l0.length l0) (hc0 : l0.length ≤ c0) (h : spec_FairTeams.f k l0 = some (r1, r2)) :
  Calls Try.prog 36 #[.slice A0 l0.length c0] w fun e w' => ∃ v0_ : Value, e = .returned (.tuple #[v0_, .bool r2]) ∧ Kd.S k118 118 w' w.heap.size (fun _ => True) v0_ r1 ∧ Below w.heap.size w w' := by
 have hu106 := Try.underlying106
 have HR0 := Aside0.mk hr0
 have HC0 := Aside0.mk hc0
 clear hr0 hc0
 have HB := Aside0.mk (Below.refl w.heap.size w)
 have H : ((spec_GoodPlayers.f k l0).bind fun t138 => (if t138 = true then (if (l0.length : Int) < 2 then (spec_FairTeams.j0 k l0 true) else (spec_FairTeams.j0 k l0 (((l0.length : Int) % 2) == 1))) else (spec_FairTeams.j0 k l0 true))) = some (r1, r2) := h
 clear h
 have HC2 := Aside0.mk H
 clear H
 go_enter Try.func36, Try.ntmps36
 go_upto_region 1 with (fail)
 go_cut [32] (fun v32 wc => ∃ (kq : Nat) (x32_1 : Bool), v32 = .bool x32_1 ∧ Aside0 (spec_FairTeams.j0 kq l0 x32_1 = some (r1, r2)) ∧ Aside0 (kq ≤ k) ∧ Aside0 (Below w.heap.size w wc))
 case first =>
  have H := HC2.out
  clear HC2
  replace H := Option.bind_eq_some_iff.mp H
  obtain ⟨t138, A30, H⟩ := H
  replace H : (if t138 = true then (if (l0.length : Int) < 2 then (spec_FairTeams.j0 k l0 true) else (spec_FairTeams.j0 k l0 (((l0.length : Int) % 2) == 1))) else (spec_FairTeams.j0 k l0 true)) = some (r1, r2) := H
  have A3 := Aside0.mk A30
  clear A30
  by_cases c4 : t138 = true
  ·subst c4
   have H1 : (if (l0.length : Int) < 2 then (spec_FairTeams.j0 k l0 true) else (spec_FairTeams.j0 k l0 (((l0.length : Int) % 2) == 1))) = some (r1, r2) := by rw [if_pos rfl] at H; exact H
   clear H
   have H := H1
   clear H1
   by_cases c5 : (l0.length : Int) < 2
   ·rw [if_pos c5] at H
    have c5b0 : decide ((l0.length : Int) < 2) = true := decide_eq_true c5
    have c5b1 : decide (l0.length < 2) = true := decide_eq_true (by omega)
    clear c5
    (first | rw [c5b0] | (simp only [i64_w, i32_w]; rw [c5b0]) | rw [c5b3] | skip)
    have H' := Aside0.mk H
    clear H
    go_wp2_with (first | ((with_reducible refine gate_callee (f := 69) rfl ?_); refine goesL_ (some 20) rfl rfl Try.func69 (by kernel_rfl) rfl #[.slice A0 l0.length c0] rfl (by (try simp only [List.map_toArray, List.map_cons, List.map_nil]); first | done | rfl | (simp only [List.length_drop, List.length_take]; rfl)) ?_; (with_reducible refine (spec_GoodPlayers.calls k _ _ l0 true _ ?side1 ?side2 A3.out).mono ?_); (case side1 => repeat (first | exact (Kd.C_below HR0.out HB.out) | (with_reducible refine Kd.C_alloc ?_ _) | (with_reducible refine Kd.C_drewN ?_ _) | (with_reducible refine Kd.C_drew ?_))); (case side2 => exact HC0.out); rintro e w6 ⟨rfl, hb⟩; refine ⟨_, rfl, ?_⟩; have n0_ := Aside0.mk (below_step (by repeat (first | (with_reducible first | exact HB.out | apply below_alloc | apply pw_below_drewN | apply below_drew1) | exact HB.out)) hb); clear HB; have HB := n0_; clear n0_; (try clear hb); (try clear hb2); (try clear hk); (try clear hi)))
    go_meet
    case rel => exact ⟨_, (true), (by first | rfl | (simp; done) | (simp [*]; done)), H', ⟨by first | omega | exact Nat.le_refl _⟩, ⟨by repeat (first | (with_reducible first | exact HB.out | apply below_alloc | apply pw_below_drewN | apply below_drew1) | exact HB.out)⟩⟩
   ·rw [if_neg c5] at H
    have c5b0 : decide ((l0.length : Int) < 2) = false := decide_eq_false c5
    have c5b1 : decide (l0.length < 2) = false := decide_eq_false (by omega)
    clear c5
    (first | rw [c5b0] | (simp only [i64_w, i32_w]; rw [c5b0]) | rw [c5b3] | skip)
    have H' := Aside0.mk H
    clear H
    go_wp2_with (first | ((with_reducible refine gate_callee (f := 69) rfl ?_); refine goesL_ (some 20) rfl rfl Try.func69 (by kernel_rfl) rfl #[.slice A0 l0.length c0] rfl (by (try simp only [List.map_toArray, List.map_cons, List.map_nil]); first | done | rfl | (simp only [List.length_drop, List.length_take]; rfl)) ?_; (with_reducible refine (spec_GoodPlayers.calls k _ _ l0 true _ ?side1 ?side2 A3.out).mono ?_); (case side1 => repeat (first | exact (Kd.C_below HR0.out HB.out) | (with_reducible refine Kd.C_alloc ?_ _) | (with_reducible refine Kd.C_drewN ?_ _) | (with_reducible refine Kd.C_drew ?_))); (case side2 => exact HC0.out); rintro e w7 ⟨rfl, hb⟩; refine ⟨_, rfl, ?_⟩; have n0_ := Aside0.mk (below_step (by repeat (first | (with_reducible first | exact HB.out | apply below_alloc | apply pw_below_drewN | apply below_drew1) | exact HB.out)) hb); clear HB; have HB := n0_; clear n0_; (try clear hb); (try clear hb2); (try clear hk); (try clear hi)))
    go_meet
    case rel => exact ⟨_, ((((l0.length : Int) % 2) == 1)), (by first | rfl | (simp; done) | (simp [*]; done)), H', ⟨by first | omega | exact Nat.le_refl _⟩, ⟨by repeat (first | (with_reducible first | exact HB.out | apply below_alloc | apply pw_below_drewN | apply below_drew1) | exact HB.out)⟩⟩
  ·replace c4 := Bool.eq_false_iff.mpr c4
   subst c4
   have H1 : (spec_FairTeams.j0 k l0 true) = some (r1, r2) := by rw [if_neg (show ¬ (false = true) by decide)] at H; exact H
   clear H
   have H := H1
   clear H1
   have H' := Aside0.mk H
   clear H
   go_wp2_with (first | ((with_reducible refine gate_callee (f := 69) rfl ?_); refine goesL_ (some 20) rfl rfl Try.func69 (by kernel_rfl) rfl #[.slice A0 l0.length c0] rfl (by (try simp only [List.map_toArray, List.map_cons, List.map_nil]); first | done | rfl | (simp only [List.length_drop, List.length_take]; rfl)) ?_; (with_reducible refine (spec_GoodPlayers.calls k _ _ l0 false _ ?side1 ?side2 A3.out).mono ?_); (case side1 => repeat (first | exact (Kd.C_below HR0.out HB.out) | (with_reducible refine Kd.C_alloc ?_ _) | (with_reducible refine Kd.C_drewN ?_ _) | (with_reducible refine Kd.C_drew ?_))); (case side2 => exact HC0.out); rintro e w8 ⟨rfl, hb⟩; refine ⟨_, rfl, ?_⟩; have n0_ := Aside0.mk (below_step (by repeat (first | (with_reducible first | exact HB.out | apply below_alloc | apply pw_below_drewN | apply below_drew1) | exact HB.out)) hb); clear HB; have HB := n0_; clear n0_; (try clear hb); (try clear hb2); (try clear hk); (try clear hi)))
   go_meet
   case rel => exact ⟨_, (true), (by first | rfl | (simp; done) | (simp [*]; done)), H', ⟨by first | omega | exact Nat.le_refl _⟩, ⟨by repeat (first | (with_reducible first | exact HB.out | apply below_alloc | apply pw_below_drewN | apply below_drew1) | exact HB.out)⟩⟩
 case rest =>
  clear HC2
  try clear p2
  try clear c3
  try clear c4
  try clear c5
  try clear c5b0
  try clear c5b1
  try clear c6
  obtain ⟨kq, x32_1, rfl, HA, HJ1, HB⟩ := hcut
  cases kq with
  | zero => exact absurd HA.out (by simp [spec_FairTeams.j0])
  | succ kj1 =>
   have H := HA.out
   clear HA
   simp only [spec_FairTeams.j0] at H
   by_cases c9 : x32_1 = true
   ·subst c9
    have H1 : (some (([] : List (S118)), false)) = some (r1, r2) := by rw [if_pos rfl] at H; exact H
    clear H
    have H := H1
    clear H1
    simp only [Option.some.injEq, Prod.mk.injEq] at H
    obtain ⟨rfl, rfl⟩ := H
    go_wp2
    go_ret2
    exact ⟨_, by first | rfl | (simp [errW_none, errW_some] <;> rfl) | (simp [*, errW_none, errW_some] <;> rfl), by first | exact Kd.S_nil _ _ _ _ _ | exact Kd.N_nil _ _ _ _ _ | exact Kd.V_nil _ _ _ _ _ | exact Kd.Q_nil _ _ _ _ _ | exact Kd.R_nil _ _ _ _ _, by repeat (first | (with_reducible first | exact HB.out | apply below_alloc | apply pw_below_drewN | apply below_drew1) | exact HB.out)⟩
   ·replace c9 := Bool.eq_false_iff.mpr c9
    subst c9
    have H1 : (spec_FairTeams.l0 kj1 l0 0 l0 (l0.length : Int) 0) = some (r1, r2) := by rw [if_neg (show ¬ (false = true) by decide)] at H; exact H
    clear H
    have H := H1
    clear H1
    have H' := Aside0.mk H
    clear H
    go_wp2
    go_loopg [4, 35] kj1 (fun kq v4 v35 w' => ∃ (x4_2 : Int) (x35_2 : Int), v4 = .int .i64 x4_2 ∧ v35 = .int .i64 x35_2 ∧ Aside0 (spec_FairTeams.l0 kq l0 x4_2 l0 (l0.length : Int) x35_2 = some (r1, r2)) ∧ Aside0 (kq ≤ kj1) ∧ Aside0 (Below w.heap.size w w'))
    case atStart => exact ⟨(0), (0), (by first | rfl | (simp; done) | (simp [*]; done)), (by first | rfl | (simp; done) | (simp [*]; done)), H', ⟨Nat.le_refl _⟩, ⟨by repeat (first | (with_reducible first | exact HB.out | apply below_alloc | apply pw_below_drewN | apply below_drew1) | exact HB.out)⟩⟩
    case round =>
     clear H'
     try clear p2
     try clear c3
     try clear c4
     try clear c5
     try clear c5b0
     try clear c5b1
     try clear c6
     try clear c9
     try clear p2
     obtain ⟨x4_2, x35_2, rfl, rfl, HA, HK2, HB⟩ := hrel
     cases gk with
     | zero => exact absurd HA.out (by simp [spec_FairTeams.l0])
     | succ k2 =>
      have H := HA.out
      clear HA
      simp only [spec_FairTeams.l0] at H
      by_cases c10 : x35_2 < (l0.length : Int)
      ·rw [if_pos c10] at H
       have c10b0 : decide (x35_2 < (l0.length : Int)) = true := decide_eq_true c10
       clear c10
       by_cases c11 : 0 ≤ x35_2
       ·rw [if_pos c11] at H
        have c11b0 : decide (0 ≤ x35_2) = true := decide_eq_true c11
        clear c11
        by_cases c12 : x35_2 < (l0.length : Int)
        ·rw [if_pos c12] at H
         have c12b0 : decide (x35_2 < (l0.length : Int)) = true := decide_eq_true c12
         clear c12
         have H' := Aside0.mk H
         clear H
         have p139 : 0 ≤ (x35_2 : Int) := of_decide_eq_true (by first | (with_reducible assumption) | assumption)
         have q139 : x35_2 < (l0.length : Int) := of_decide_eq_true (by first | (with_reducible assumption) | assumption)
         obtain ⟨ad139, e139, hx139_0, hx139_1, hx139_2⟩ := at_T106 HR0.out x35_2 p139 q139
         cases e139
         replace hx139_0 := (HB.out.cell (World.block_lt_of_cell? w _ hx139_0)).trans hx139_0
         replace hx139_1 := (HB.out.cell (World.block_lt_of_cell? w _ hx139_1)).trans hx139_1
         replace hx139_2 := (HB.out.cell (World.block_lt_of_cell? w _ hx139_2)).trans hx139_2
         replace p139 := eq_true p139
         replace q139 := eq_true q139
         go_wp2_with (first | ((with_reducible refine gate_dst (N := 6) rfl ?_); (try (refine gate_guard (by rfl) ?_; dsimp only)); refine box_event ?hg (N := 6) ?hd (cs := #[.string (⟨#[]⟩ : ByteArray), .int .i64 0, .int .i64 0]) (t := 106) ?hr ?_; (case hd => rfl); (case hg => rfl); (case hr => first | (go_simp; done) | (go_simp; rfl)); intro gb140 hg w13 hbox hb; have n0_ := Aside0.mk (below_step (by repeat (first | (with_reducible first | exact HB.out | apply below_alloc | apply pw_below_drewN | apply below_drew1) | exact HB.out)) hb); have n1_ := Aside0.mk (hbox); have n2_ := Aside0.mk ((by rw [hg]; exact (below_size (by repeat (first | (with_reducible first | exact HB.out | apply below_alloc | apply pw_below_drewN | apply below_drew1) | exact HB.out))) : w.heap.size ≤ gb140)); have n3_ := Aside0.mk ((by rw [hg]; exact (below_size (by repeat (first | (with_reducible first | exact HB.out | apply below_alloc | apply pw_below_drewN | apply below_drew1) | exact HB.out))) : w.heap.size ≤ gb140)); clear HB; have HB := n0_; have BK140 := n1_; have GW140 := n2_; have GE140 := n3_; clear n0_ n1_ n2_ n3_; clear hb hbox hg; have hcz14_0 : w13.cell? ⟨gb140, 0, none⟩ = some (.string (⟨#[]⟩ : ByteArray)) := (blk_cell BK140.out 0).trans rfl; have hcz14_1 : w13.cell? ⟨gb140, 1, none⟩ = some (.int .i64 0) := (blk_cell BK140.out 1).trans rfl; have hcz14_2 : w13.cell? ⟨gb140, 2, none⟩ = some (.int .i64 0) := (blk_cell BK140.out 2).trans rfl; have hfz14_0 := blk_frozen BK140.out 0; have hfz14_1 := blk_frozen BK140.out 1; have hfz14_2 := blk_frozen BK140.out 2))
         go_roundg k2
         case measure => have := HJ1.out; have := HK2.out; omega
         case rel => exact ⟨(wrap64 (x4_2 + ((rd_T106 l0 x35_2).f1))), (wrap64 (x35_2 + 1)), (by first | rfl | (simp; done) | (simp [*]; done)), (by first | rfl | (simp; done) | (simp [*]; done)), H', ⟨by have := HJ1.out; have := HK2.out; omega⟩, ⟨by repeat (first | (with_reducible first | exact HB.out | apply below_alloc | apply pw_below_drewN | apply below_drew1 | refine below_set ?_ GE140.out) | exact HB.out)⟩⟩
        ·rw [if_neg c12] at H
         exact absurd H (by simp)
       ·rw [if_neg c11] at H
        exact absurd H (by simp)
      ·rw [if_neg c10] at H
       have c10b0 : decide (x35_2 < (l0.length : Int)) = false := decide_eq_false c10
       clear c10
       obtain ⟨ji15, hji15⟩ : ∃ j_ : Int, (IntKind.u64.wrap ((l0.length : Int))) = j_ := ⟨_, rfl⟩
       replace H : (if 0 ≤ (ji15) then (spec_FairTeams.l1 k2 l0 x4_2 (-1) 0 (wrap64 ((shl .i64 1 (ji15)) - 1))) else (none)) = some (r1, r2) := by first | (rw [hji15] at H; exact H) | (simp only [hji15] at H ⊢; exact H)
       by_cases c16 : 0 ≤ (ji15)
       ·rw [if_pos c16] at H
        have c16b0 := eq_true c16
        have c16b1 : decide (0 ≤ (ji15)) = true := decide_eq_true c16
        clear c16
        obtain ⟨ji17, hji17⟩ : ∃ j_ : Int, (shl .i64 1 (ji15)) = j_ := ⟨_, rfl⟩
        replace H : (spec_FairTeams.l1 k2 l0 x4_2 (-1) 0 (wrap64 ((ji17) - 1))) = some (r1, r2) := by first | (rw [hji17] at H; exact H) | (simp only [hji17] at H ⊢; exact H)
        have hji17_ : (IntKind.i64.wrap (1 * 2 ^ min (ji15).toNat 64)) = ji17 := hji17
        have hji17z : (ji15) ≤ 64 → (IntKind.i64.wrap (1 * 2 ^ (ji15).toNat)) = ji17 := shl_small hji17
        have hji17u : (IntKind.i64.wrap (2 ^ min (ji15).toNat 64)) = ji17 := by have h_ := hji17_; rw [Int.one_mul] at h_; exact h_
        have hji17v : (ji15) ≤ 64 → (IntKind.i64.wrap (2 ^ (ji15).toNat)) = ji17 := fun hle_ => by have h_ := hji17z hle_; rw [Int.one_mul] at h_; exact h_
        have hji17y : (wrap64 (1 * 2 ^ min (ji15).toNat 64)) = ji17 := (i64_w _).symm.trans hji17_
        have hji17x : (ji15) ≤ 64 → (wrap64 (1 * 2 ^ (ji15).toNat)) = ji17 := fun h_ => (i64_w _).symm.trans (hji17z h_)
        have H' := Aside0.mk H
        clear H
        go_wp2
        go_loopg [7, 8, 9] k2 (fun kq v7 v8 v9 w' => ∃ (x7_3 : Int) (x8_3 : Int) (x9_3 : Int), v7 = .int .i64 x7_3 ∧ v8 = .int .i64 x8_3 ∧ v9 = .int .i64 x9_3 ∧ Aside0 (spec_FairTeams.l1 kq l0 x4_2 x7_3 x8_3 x9_3 = some (r1, r2)) ∧ Aside0 (kq ≤ k2) ∧ Aside0 (Below w.heap.size w w'))
        case atStart => exact ⟨((-1)), (0), (wrap64 ((ji17) - 1)), (by first | rfl | (simp; done) | (simp [*]; done)), (by first | rfl | (simp; done) | (simp [*]; done)), (by first | rfl | (simp; done) | (simp only [← hji17] <;> (first | rfl | simp)) | (simp [*]; done)), H', ⟨Nat.le_refl _⟩, ⟨by repeat (first | (with_reducible first | exact HB.out | apply below_alloc | apply pw_below_drewN | apply below_drew1) | exact HB.out)⟩⟩
        case round =>
         clear H'
         try clear c1
         try clear p1
         try clear q1
         try clear hx1
         try clear p2
         try clear c3
         try clear c4
         try clear c5
         try clear c5b0
         try clear c5b1
         try clear c6
         try clear p6
         try clear c9
         try clear c10
         try clear c10b0
         try clear c11
         try clear c11b0
         try clear c12
         try clear c12b0
         try clear p13
         try clear q13
         try clear hx13
         try clear c16
         try clear c16b0
         try clear c16b1
         try clear hcz14_0
         try clear hcz14_1
         try clear hcz14_2
         try clear hfz14_0
         try clear hfz14_1
         try clear hfz14_2
         try clear hx139_0
         try clear hx139_1
         try clear hx139_2
         try clear p139
         try clear p2
         try clear q139
         obtain ⟨x7_3, x8_3, x9_3, rfl, rfl, rfl, HA, HK3, HB⟩ := hrel
         cases gk with
         | zero => exact absurd HA.out (by simp [spec_FairTeams.l1])
         | succ k3 =>
          have H := HA.out
          clear HA
          simp only [spec_FairTeams.l1] at H
          obtain ⟨ji18, hji18⟩ : ∃ j_ : Int, (IntKind.u64.wrap (wrap64 ((l0.length : Int) - 1))) = j_ := ⟨_, rfl⟩
          replace H : (if 0 ≤ (ji18) then (if x9_3 ≥ (shl .i64 1 (ji18)) then (spec_FairTeams.l2 k3 l0 x4_2 x7_3 x8_3 x9_3 0 0 l0 (l0.length : Int) 0) else (if 2 ≤ 8796093022208 then (spec_FairTeams.l3 k3 l0 x7_3 (List.replicate 2 z118) l0 (l0.length : Int) 0) else (none))) else (none)) = some (r1, r2) := by first | (rw [hji18] at H; exact H) | (simp only [hji18] at H ⊢; exact H)
          by_cases c19 : 0 ≤ (ji18)
          ·rw [if_pos c19] at H
           have c19b0 := eq_true c19
           have c19b1 : decide (0 ≤ (ji18)) = true := decide_eq_true c19
           clear c19
           obtain ⟨ji20, hji20⟩ : ∃ j_ : Int, (shl .i64 1 (ji18)) = j_ := ⟨_, rfl⟩
           replace H : (if x9_3 ≥ (ji20) then (spec_FairTeams.l2 k3 l0 x4_2 x7_3 x8_3 x9_3 0 0 l0 (l0.length : Int) 0) else (if 2 ≤ 8796093022208 then (spec_FairTeams.l3 k3 l0 x7_3 (List.replicate 2 z118) l0 (l0.length : Int) 0) else (none))) = some (r1, r2) := by first | (rw [hji20] at H; exact H) | (simp only [hji20] at H ⊢; exact H)
           have hji20_ : (IntKind.i64.wrap (1 * 2 ^ min (ji18).toNat 64)) = ji20 := hji20
           have hji20z : (ji18) ≤ 64 → (IntKind.i64.wrap (1 * 2 ^ (ji18).toNat)) = ji20 := shl_small hji20
           have hji20u : (IntKind.i64.wrap (2 ^ min (ji18).toNat 64)) = ji20 := by have h_ := hji20_; rw [Int.one_mul] at h_; exact h_
           have hji20v : (ji18) ≤ 64 → (IntKind.i64.wrap (2 ^ (ji18).toNat)) = ji20 := fun hle_ => by have h_ := hji20z hle_; rw [Int.one_mul] at h_; exact h_
           have hji20y : (wrap64 (1 * 2 ^ min (ji18).toNat 64)) = ji20 := (i64_w _).symm.trans hji20_
           have hji20x : (ji18) ≤ 64 → (wrap64 (1 * 2 ^ (ji18).toNat)) = ji20 := fun h_ => (i64_w _).symm.trans (hji20z h_)
           by_cases c21 : x9_3 ≥ (ji20)
           ·rw [if_pos c21] at H
            have c21b0 : decide ((ji20) ≤ x9_3) = true := decide_eq_true c21
            clear c21
            have H' := Aside0.mk H
            clear H
            go_wp2
            go_loopg [10, 11, 60] k3 (fun kq v10 v11 v60 w' => ∃ (x10_4 : Int) (x11_4 : Int) (x60_4 : Int), v10 = .int .i64 x10_4 ∧ v11 = .int .i64 x11_4 ∧ v60 = .int .i64 x60_4 ∧ Aside0 (spec_FairTeams.l2 kq l0 x4_2 x7_3 x8_3 x9_3 x10_4 x11_4 l0 (l0.length : Int) x60_4 = some (r1, r2)) ∧ Aside0 (kq ≤ k3) ∧ Aside0 (Below w.heap.size w w'))
            case atStart => exact ⟨(0), (0), (0), (by first | rfl | (simp; done) | (simp [*]; done)), (by first | rfl | (simp; done) | (simp [*]; done)), (by first | rfl | (simp; done) | (simp [*]; done)), H', ⟨Nat.le_refl _⟩, ⟨by repeat (first | (with_reducible first | exact HB.out | apply below_alloc | apply pw_below_drewN | apply below_drew1) | exact HB.out)⟩⟩
            case round =>
             clear H'
             try clear c1
             try clear p1
             try clear q1
             try clear hx1
             try clear c2
             try clear p2
             try clear c3
             try clear c4
             try clear c5
             try clear c5b0
             try clear c5b1
             try clear c6
             try clear p6
             try clear c9
             try clear c10
             try clear c10b0
             try clear c11
             try clear c11b0
             try clear c12
             try clear c12b0
             try clear p13
             try clear q13
             try clear hx13
             try clear c16
             try clear c16b0
             try clear c16b1
             try clear c19
             try clear c19b0
             try clear c19b1
             try clear c21
             try clear c21b0
             try clear hcz14_0
             try clear hcz14_1
             try clear hcz14_2
             try clear hfz14_0
             try clear hfz14_1
             try clear hfz14_2
             try clear hx139_0
             try clear hx139_1
             try clear hx139_2
             try clear p1
             try clear p13
             try clear p139
             try clear p2
             try clear p6
             try clear q1
             try clear q13
             try clear q139
             obtain ⟨x10_4, x11_4, x60_4, rfl, rfl, rfl, HA, HK4, HB⟩ := hrel
             cases gk with
             | zero => exact absurd HA.out (by simp [spec_FairTeams.l2])
             | succ k4 =>
              have H := HA.out
              clear HA
              simp only [spec_FairTeams.l2] at H
              by_cases c22 : x60_4 < (l0.length : Int)
              ·rw [if_pos c22] at H
               have c22b0 : decide (x60_4 < (l0.length : Int)) = true := decide_eq_true c22
               clear c22
               by_cases c23 : 0 ≤ x60_4
               ·rw [if_pos c23] at H
                have c23b0 : decide (0 ≤ x60_4) = true := decide_eq_true c23
                clear c23
                by_cases c24 : x60_4 < (l0.length : Int)
                ·rw [if_pos c24] at H
                 have c24b0 : decide (x60_4 < (l0.length : Int)) = true := decide_eq_true c24
                 clear c24
                 obtain ⟨ji25, hji25⟩ : ∃ j_ : Int, (IntKind.u64.wrap (wrap64 ((wrap64 ((l0.length : Int) - 1)) - x60_4))) = j_ := ⟨_, rfl⟩
                 replace H : (if 0 ≤ (ji25) then (if (Go.bits .and .i64 (shr .i64 x9_3 (ji25)) 1) = 1 then (spec_FairTeams.l2 k4 l0 x4_2 x7_3 x8_3 x9_3 (wrap64 (x10_4 + 1)) (wrap64 (x11_4 + ((rd_T106 l0 x60_4).f1))) l0 (l0.length : Int) (wrap64 (x60_4 + 1))) else (spec_FairTeams.l2 k4 l0 x4_2 x7_3 x8_3 x9_3 x10_4 x11_4 l0 (l0.length : Int) (wrap64 (x60_4 + 1)))) else (none)) = some (r1, r2) := by first | (rw [hji25] at H; exact H) | (simp only [hji25] at H ⊢; exact H)
                 by_cases c26 : 0 ≤ (ji25)
                 ·rw [if_pos c26] at H
                  have c26b0 := eq_true c26
                  have c26b1 : decide (0 ≤ (ji25)) = true := decide_eq_true c26
                  clear c26
                  obtain ⟨ji27, hji27⟩ : ∃ j_ : Int, (shr .i64 x9_3 (ji25)) = j_ := ⟨_, rfl⟩
                  replace H : (if (Go.bits .and .i64 (ji27) 1) = 1 then (spec_FairTeams.l2 k4 l0 x4_2 x7_3 x8_3 x9_3 (wrap64 (x10_4 + 1)) (wrap64 (x11_4 + ((rd_T106 l0 x60_4).f1))) l0 (l0.length : Int) (wrap64 (x60_4 + 1))) else (spec_FairTeams.l2 k4 l0 x4_2 x7_3 x8_3 x9_3 x10_4 x11_4 l0 (l0.length : Int) (wrap64 (x60_4 + 1)))) = some (r1, r2) := by first | (rw [hji27] at H; exact H) | (simp only [hji27] at H ⊢; exact H)
                  have hji27_ : (x9_3 / 2 ^ min (ji25).toNat 64) = ji27 := hji27
                  have hji27z : (ji25) ≤ 64 → (x9_3 / 2 ^ (ji25).toNat) = ji27 := shr_small hji27
                  by_cases c28 : (Go.bits .and .i64 (ji27) 1) = 1
                  ·rw [if_pos c28] at H
                   have c28b0 : ((Go.bits .and .i64 (ji27) 1) == 1) = true := beq_iff_eq.mpr c28
                   have c28b1 : ((Go.bits .and .i64 (ji27) 1) != 1) = false := bne_eq_false_iff_eq.mpr c28
                   clear c28
                   have H' := Aside0.mk H
                   clear H
                   have p141 : 0 ≤ (x60_4 : Int) := of_decide_eq_true (by first | (with_reducible assumption) | assumption)
                   have q141 : x60_4 < (l0.length : Int) := of_decide_eq_true (by first | (with_reducible assumption) | assumption)
                   obtain ⟨ad141, e141, hx141_0, hx141_1, hx141_2⟩ := at_T106 HR0.out x60_4 p141 q141
                   cases e141
                   replace hx141_0 := (HB.out.cell (World.block_lt_of_cell? w _ hx141_0)).trans hx141_0
                   replace hx141_1 := (HB.out.cell (World.block_lt_of_cell? w _ hx141_1)).trans hx141_1
                   replace hx141_2 := (HB.out.cell (World.block_lt_of_cell? w _ hx141_2)).trans hx141_2
                   replace p141 := eq_true p141
                   replace q141 := eq_true q141
                   go_wp2_with (first | ((with_reducible refine gate_dst (N := 13) rfl ?_); (try (refine gate_guard (by rfl) ?_; dsimp only)); refine box_event ?hg (N := 13) ?hd (cs := #[.string (⟨#[]⟩ : ByteArray), .int .i64 0, .int .i64 0]) (t := 106) ?hr ?_; (case hd => rfl); (case hg => rfl); (case hr => first | (go_simp; done) | (go_simp; rfl)); intro gb142 hg w29 hbox hb; have n0_ := Aside0.mk (below_step (by repeat (first | (with_reducible first | exact HB.out | apply below_alloc | apply pw_below_drewN | apply below_drew1) | exact HB.out)) hb); have n1_ := Aside0.mk (hbox); have n2_ := Aside0.mk ((by rw [hg]; exact (below_size (by repeat (first | (with_reducible first | exact HB.out | apply below_alloc | apply pw_below_drewN | apply below_drew1) | exact HB.out))) : w.heap.size ≤ gb142)); have n3_ := Aside0.mk ((by rw [hg]; exact (below_size (by repeat (first | (with_reducible first | exact HB.out | apply below_alloc | apply pw_below_drewN | apply below_drew1) | exact HB.out))) : w.heap.size ≤ gb142)); clear HB; have HB := n0_; have BK142 := n1_; have GW142 := n2_; have GE142 := n3_; clear n0_ n1_ n2_ n3_; clear hb hbox hg; have hcz30_0 : w29.cell? ⟨gb142, 0, none⟩ = some (.string (⟨#[]⟩ : ByteArray)) := (blk_cell BK142.out 0).trans rfl; have hcz30_1 : w29.cell? ⟨gb142, 1, none⟩ = some (.int .i64 0) := (blk_cell BK142.out 1).trans rfl; have hcz30_2 : w29.cell? ⟨gb142, 2, none⟩ = some (.int .i64 0) := (blk_cell BK142.out 2).trans rfl; have hfz30_0 := blk_frozen BK142.out 0; have hfz30_1 := blk_frozen BK142.out 1; have hfz30_2 := blk_frozen BK142.out 2))
                   go_roundg k4
                   case measure => have := HJ1.out; have := HK2.out; have := HK3.out; have := HK4.out; omega
                   case rel => exact ⟨(wrap64 (x10_4 + 1)), (wrap64 (x11_4 + ((rd_T106 l0 x60_4).f1))), (wrap64 (x60_4 + 1)), (by first | rfl | (simp; done) | (simp [*]; done)), (by first | rfl | (simp; done) | (simp [*]; done)), (by first | rfl | (simp; done) | (simp [*]; done)), H', ⟨by have := HJ1.out; have := HK2.out; have := HK3.out; have := HK4.out; omega⟩, ⟨by repeat (first | (with_reducible first | exact HB.out | apply below_alloc | apply pw_below_drewN | apply below_drew1 | refine below_set ?_ GE142.out) | exact HB.out)⟩⟩
                  ·rw [if_neg c28] at H
                   have c28b0 : ((Go.bits .and .i64 (ji27) 1) == 1) = false := beq_eq_false_iff_ne.mpr c28
                   have c28b1 : ((Go.bits .and .i64 (ji27) 1) != 1) = true := bne_iff_ne.mpr c28
                   have H' := Aside0.mk H
                   clear H
                   have p141 : 0 ≤ (x60_4 : Int) := of_decide_eq_true (by first | (with_reducible assumption) | assumption)
                   have q141 : x60_4 < (l0.length : Int) := of_decide_eq_true (by first | (with_reducible assumption) | assumption)
                   obtain ⟨ad141, e141, hx141_0, hx141_1, hx141_2⟩ := at_T106 HR0.out x60_4 p141 q141
                   cases e141
                   replace hx141_0 := (HB.out.cell (World.block_lt_of_cell? w _ hx141_0)).trans hx141_0
                   replace hx141_1 := (HB.out.cell (World.block_lt_of_cell? w _ hx141_1)).trans hx141_1
                   replace hx141_2 := (HB.out.cell (World.block_lt_of_cell? w _ hx141_2)).trans hx141_2
                   replace p141 := eq_true p141
                   replace q141 := eq_true q141
                   go_wp2_with (first | ((with_reducible refine gate_dst (N := 13) rfl ?_); (try (refine gate_guard (by rfl) ?_; dsimp only)); refine box_event ?hg (N := 13) ?hd (cs := #[.string (⟨#[]⟩ : ByteArray), .int .i64 0, .int .i64 0]) (t := 106) ?hr ?_; (case hd => rfl); (case hg => rfl); (case hr => first | (go_simp; done) | (go_simp; rfl)); intro gb142 hg w31 hbox hb; have n0_ := Aside0.mk (below_step (by repeat (first | (with_reducible first | exact HB.out | apply below_alloc | apply pw_below_drewN | apply below_drew1) | exact HB.out)) hb); have n1_ := Aside0.mk (hbox); have n2_ := Aside0.mk ((by rw [hg]; exact (below_size (by repeat (first | (with_reducible first | exact HB.out | apply below_alloc | apply pw_below_drewN | apply below_drew1) | exact HB.out))) : w.heap.size ≤ gb142)); have n3_ := Aside0.mk ((by rw [hg]; exact (below_size (by repeat (first | (with_reducible first | exact HB.out | apply below_alloc | apply pw_below_drewN | apply below_drew1) | exact HB.out))) : w.heap.size ≤ gb142)); clear HB; have HB := n0_; have BK142 := n1_; have GW142 := n2_; have GE142 := n3_; clear n0_ n1_ n2_ n3_; clear hb hbox hg; have hcz32_0 : w31.cell? ⟨gb142, 0, none⟩ = some (.string (⟨#[]⟩ : ByteArray)) := (blk_cell BK142.out 0).trans rfl; have hcz32_1 : w31.cell? ⟨gb142, 1, none⟩ = some (.int .i64 0) := (blk_cell BK142.out 1).trans rfl; have hcz32_2 : w31.cell? ⟨gb142, 2, none⟩ = some (.int .i64 0) := (blk_cell BK142.out 2).trans rfl; have hfz32_0 := blk_frozen BK142.out 0; have hfz32_1 := blk_frozen BK142.out 1; have hfz32_2 := blk_frozen BK142.out 2))
                   go_roundg k4
                   case measure => have := HJ1.out; have := HK2.out; have := HK3.out; have := HK4.out; omega
                   case rel => exact ⟨(x10_4), (x11_4), (wrap64 (x60_4 + 1)), (by first | rfl | (simp; done) | (simp [*]; done)), (by first | rfl | (simp; done) | (simp [*]; done)), (by first | rfl | (simp; done) | (simp [*]; done)), H', ⟨by have := HJ1.out; have := HK2.out; have := HK3.out; have := HK4.out; omega⟩, ⟨by repeat (first | (with_reducible first | exact HB.out | apply below_alloc | apply pw_below_drewN | apply below_drew1 | refine below_set ?_ GE142.out) | exact HB.out)⟩⟩
                 ·rw [if_neg c26] at H
                  exact absurd H (by simp)
                ·rw [if_neg c24] at H
                 exact absurd H (by simp)
               ·rw [if_neg c23] at H
                exact absurd H (by simp)
              ·rw [if_neg c22] at H
               have c22b0 : decide (x60_4 < (l0.length : Int)) = false := decide_eq_false c22
               clear c22
               replace H := Option.bind_eq_some_iff.mp H
               obtain ⟨t143, A330, H⟩ := H
               replace H : (if x10_4 = (wrap64 ((l0.length : Int) / 2)) then (if x7_3 < 0 then (spec_FairTeams.l1 k4 l0 x4_2 x9_3 t143 (wrap64 (x9_3 - 1))) else (if t143 < x8_3 then (spec_FairTeams.l1 k4 l0 x4_2 x9_3 t143 (wrap64 (x9_3 - 1))) else (spec_FairTeams.l1 k4 l0 x4_2 x7_3 x8_3 (wrap64 (x9_3 - 1))))) else (spec_FairTeams.l1 k4 l0 x4_2 x7_3 x8_3 (wrap64 (x9_3 - 1)))) = some (r1, r2) := H
               have A33 := Aside0.mk A330
               clear A330
               by_cases c34 : x10_4 = (wrap64 ((l0.length : Int) / 2))
               ·rw [if_pos c34] at H
                have c34b0 : (x10_4 == (wrap64 ((l0.length : Int) / 2))) = true := beq_iff_eq.mpr c34
                have c34b1 : (x10_4 != (wrap64 ((l0.length : Int) / 2))) = false := bne_eq_false_iff_eq.mpr c34
                clear c34
                by_cases c35 : x7_3 < 0
                ·rw [if_pos c35] at H
                 have c35b0 : decide (x7_3 < 0) = true := decide_eq_true c35
                 clear c35
                 have H' := Aside0.mk H
                 clear H
                 go_wp2_with (first | ((with_reducible refine gate_callee (f := 71) rfl ?_); refine goesL_ (some 86) rfl rfl Try.func71 (by kernel_rfl) rfl #[.int .i64 (wrap64 (x4_2 - (wrap64 (2 * x11_4))))] rfl (by (try simp only [List.map_toArray, List.map_cons, List.map_nil]); first | done | rfl | (simp only [List.length_drop, List.length_take]; rfl)) ?_; (with_reducible refine (spec_l1Abs.calls (wrap64 (x4_2 - (wrap64 (2 * x11_4)))) t143 _ A33.out).mono ?_); rintro e w' ⟨rfl, ⟨nd, rfl⟩⟩; refine ⟨_, rfl, ?_⟩))
                 go_roundg k4
                 case measure => have := HJ1.out; have := HK2.out; have := HK3.out; have := HK4.out; omega
                 case rel => exact ⟨(x9_3), (t143), (wrap64 (x9_3 - 1)), (by first | rfl | (simp; done) | (simp [*]; done)), (by first | rfl | (simp; done) | (simp [*]; done)), (by first | rfl | (simp; done) | (simp [*]; done)), H', ⟨by have := HJ1.out; have := HK2.out; have := HK3.out; have := HK4.out; omega⟩, ⟨by repeat (first | (with_reducible first | exact HB.out | apply below_alloc | apply pw_below_drewN | apply below_drew1) | exact HB.out)⟩⟩
                ·rw [if_neg c35] at H
                 have c35b0 : decide (x7_3 < 0) = false := decide_eq_false c35
                 clear c35
                 by_cases c36 : t143 < x8_3
                 ·rw [if_pos c36] at H
                  have c36b0 : decide (t143 < x8_3) = true := decide_eq_true c36
                  clear c36
                  have H' := Aside0.mk H
                  clear H
                  go_wp2_with (first | ((with_reducible refine gate_callee (f := 71) rfl ?_); refine goesL_ (some 86) rfl rfl Try.func71 (by kernel_rfl) rfl #[.int .i64 (wrap64 (x4_2 - (wrap64 (2 * x11_4))))] rfl (by (try simp only [List.map_toArray, List.map_cons, List.map_nil]); first | done | rfl | (simp only [List.length_drop, List.length_take]; rfl)) ?_; (with_reducible refine (spec_l1Abs.calls (wrap64 (x4_2 - (wrap64 (2 * x11_4)))) t143 _ A33.out).mono ?_); rintro e w' ⟨rfl, ⟨nd, rfl⟩⟩; refine ⟨_, rfl, ?_⟩))
                  go_roundg k4
                  case measure => have := HJ1.out; have := HK2.out; have := HK3.out; have := HK4.out; omega
                  case rel => exact ⟨(x9_3), (t143), (wrap64 (x9_3 - 1)), (by first | rfl | (simp; done) | (simp [*]; done)), (by first | rfl | (simp; done) | (simp [*]; done)), (by first | rfl | (simp; done) | (simp [*]; done)), H', ⟨by have := HJ1.out; have := HK2.out; have := HK3.out; have := HK4.out; omega⟩, ⟨by repeat (first | (with_reducible first | exact HB.out | apply below_alloc | apply pw_below_drewN | apply below_drew1) | exact HB.out)⟩⟩
                 ·rw [if_neg c36] at H
                  have c36b0 : decide (t143 < x8_3) = false := decide_eq_false c36
                  clear c36
                  have H' := Aside0.mk H
                  clear H
                  go_wp2_with (first | ((with_reducible refine gate_callee (f := 71) rfl ?_); refine goesL_ (some 86) rfl rfl Try.func71 (by kernel_rfl) rfl #[.int .i64 (wrap64 (x4_2 - (wrap64 (2 * x11_4))))] rfl (by (try simp only [List.map_toArray, List.map_cons, List.map_nil]); first | done | rfl | (simp only [List.length_drop, List.length_take]; rfl)) ?_; (with_reducible refine (spec_l1Abs.calls (wrap64 (x4_2 - (wrap64 (2 * x11_4)))) t143 _ A33.out).mono ?_); rintro e w' ⟨rfl, ⟨nd, rfl⟩⟩; refine ⟨_, rfl, ?_⟩))
                  go_roundg k4
                  case measure => have := HJ1.out; have := HK2.out; have := HK3.out; have := HK4.out; omega
                  case rel => exact ⟨(x7_3), (x8_3), (wrap64 (x9_3 - 1)), (by first | rfl | (simp; done) | (simp [*]; done)), (by first | rfl | (simp; done) | (simp [*]; done)), (by first | rfl | (simp; done) | (simp [*]; done)), H', ⟨by have := HJ1.out; have := HK2.out; have := HK3.out; have := HK4.out; omega⟩, ⟨by repeat (first | (with_reducible first | exact HB.out | apply below_alloc | apply pw_below_drewN | apply below_drew1) | exact HB.out)⟩⟩
               ·rw [if_neg c34] at H
                have c34b0 : (x10_4 == (wrap64 ((l0.length : Int) / 2))) = false := beq_eq_false_iff_ne.mpr c34
                have c34b1 : (x10_4 != (wrap64 ((l0.length : Int) / 2))) = true := bne_iff_ne.mpr c34
                have H' := Aside0.mk H
                clear H
                go_wp2_with (first | ((with_reducible refine gate_callee (f := 71) rfl ?_); refine goesL_ (some 86) rfl rfl Try.func71 (by kernel_rfl) rfl #[.int .i64 (wrap64 (x4_2 - (wrap64 (2 * x11_4))))] rfl (by (try simp only [List.map_toArray, List.map_cons, List.map_nil]); first | done | rfl | (simp only [List.length_drop, List.length_take]; rfl)) ?_; (with_reducible refine (spec_l1Abs.calls (wrap64 (x4_2 - (wrap64 (2 * x11_4)))) t143 _ A33.out).mono ?_); rintro e w' ⟨rfl, ⟨nd, rfl⟩⟩; refine ⟨_, rfl, ?_⟩))
                go_roundg k4
                case measure => have := HJ1.out; have := HK2.out; have := HK3.out; have := HK4.out; omega
                case rel => exact ⟨(x7_3), (x8_3), (wrap64 (x9_3 - 1)), (by first | rfl | (simp; done) | (simp [*]; done)), (by first | rfl | (simp; done) | (simp [*]; done)), (by first | rfl | (simp; done) | (simp [*]; done)), H', ⟨by have := HJ1.out; have := HK2.out; have := HK3.out; have := HK4.out; omega⟩, ⟨by repeat (first | (with_reducible first | exact HB.out | apply below_alloc | apply pw_below_drewN | apply below_drew1) | exact HB.out)⟩⟩
           ·rw [if_neg c21] at H
            have c21b0 : decide ((ji20) ≤ x9_3) = false := decide_eq_false c21
            clear c21
            by_cases c37 : 2 ≤ 8796093022208
            ·rw [if_pos c37] at H
             have c37b0 := eq_true c37
             have c37b1 : decide (2 ≤ 8796093022208) = true := decide_eq_true c37
             clear c37
             obtain ⟨y144, hy144⟩ : ∃ y_ : List (S118), y_ = (List.replicate 2 z118) := ⟨_, rfl⟩
             replace H : (spec_FairTeams.l3 k3 l0 x7_3 y144 l0 (l0.length : Int) 0) = some (r1, r2) := by first | (rw [hy144]; with_reducible exact H) | (have H2_ := (Option.bind_some _ _).symm.trans H; rw [hy144]; with_reducible exact H2_) | (have H2_ := (Option.bind_some _ _).symm.trans H; with_reducible exact H2_) | with_reducible exact H | (rw [hy144]; exact H) | exact H
             have Ny144 := Aside0.mk hy144
             clear hy144
             have H' := Aside0.mk H
             clear H
             go_wp2_with (first | ((with_reducible refine gate_dst (N := 103) rfl ?_); (try (refine gate_guard (by rfl) ?_; dsimp only)); refine Kd.S_make k118 _ 118 rfl (N := 103) rfl 65 _ _ rfl 2 rfl rfl Try.underlying65 (.agg #[(.slice none 0 0), (.int .i64 0)]) 32 info118 rfl (by decide) (by omega) z118 (ok := fun _ => True) (okp := fun _ => True) (k118_mkM _ _ _ z118 (Kd.R_nil _ _ _ _ _)) (fun _ hk => hk) trivial (by omega) (by omega) (Below.refl _ _) (Nat.le_refl _) ?_; intro v145 w38 ho39 hb hg_ hnew_; clear hg_ hnew_; (first | rw [← Ny144.out] at ho39 | (simp only [Int.reduceToNat] at ho39; rw [← Ny144.out] at ho39)); have n0_ := Aside0.mk (Kd.S_lower ho39 (below_size (by repeat (first | (with_reducible first | exact HB.out | apply below_alloc | apply pw_below_drewN | apply below_drew1) | exact HB.out)))); have n1_ := Aside0.mk (below_step (by repeat (first | (with_reducible first | exact HB.out | apply below_alloc | apply pw_below_drewN | apply below_drew1) | exact HB.out)) hb); clear HB; have HO146 := n0_; have HB := n1_; clear n0_ n1_; clear hb ho39))
             go_loopg [106] k3 (fun kq v106 w' => ∃ (x15_4 : List (S118)) (x106_4 : Int), v106 = .int .i64 x106_4 ∧ Aside0 (spec_FairTeams.l3 kq l0 x7_3 x15_4 l0 (l0.length : Int) x106_4 = some (r1, r2)) ∧ Aside0 (kq ≤ k3) ∧ Aside0 (Kd.S k118 118 w' w.heap.size (fun _ => True) v145 x15_4) ∧ Aside0 (Below w.heap.size w w'))
             case atStart => exact ⟨(y144), (0), (by first | rfl | (simp; done) | (simp [*]; done)), H', ⟨Nat.le_refl _⟩, ⟨by (with_reducible repeat (first | apply Kd.S_alloc | apply Kd.S_drewN | apply Kd.S_drew)); exact HO146.out⟩, ⟨by repeat (first | (with_reducible first | exact HB.out | apply below_alloc | apply pw_below_drewN | apply below_drew1) | exact HB.out)⟩⟩
             case round =>
              clear H'
              try clear c1
              try clear p1
              try clear q1
              try clear hx1
              try clear c2
              try clear p2
              try clear c3
              try clear c4
              try clear c5
              try clear c5b0
              try clear c5b1
              try clear c6
              try clear p6
              try clear c7
              try clear c9
              try clear c10
              try clear c10b0
              try clear c11
              try clear c11b0
              try clear c12
              try clear c12b0
              try clear p13
              try clear q13
              try clear hx13
              try clear p14
              try clear q14
              try clear hx14
              try clear c16
              try clear c16b0
              try clear c16b1
              try clear c19
              try clear c19b0
              try clear c19b1
              try clear c21
              try clear c21b0
              try clear c22
              try clear c22b0
              try clear c23
              try clear c23b0
              try clear c24
              try clear c24b0
              try clear c26
              try clear c26b0
              try clear c26b1
              try clear c28
              try clear c28b0
              try clear c28b1
              try clear c34
              try clear c34b0
              try clear c34b1
              try clear c35
              try clear c35b0
              try clear c36
              try clear c36b0
              try clear c37
              try clear c37b0
              try clear c37b1
              try clear hcz14_0
              try clear hcz14_1
              try clear hcz14_2
              try clear hcz30_0
              try clear hcz30_1
              try clear hcz30_2
              try clear hcz32_0
              try clear hcz32_1
              try clear hcz32_2
              try clear hfz14_0
              try clear hfz14_1
              try clear hfz14_2
              try clear hfz30_0
              try clear hfz30_1
              try clear hfz30_2
              try clear hfz32_0
              try clear hfz32_1
              try clear hfz32_2
              try clear hx139_0
              try clear hx139_1
              try clear hx139_2
              try clear hx141_0
              try clear hx141_1
              try clear hx141_2
              try clear p1
              try clear p13
              try clear p139
              try clear p141
              try clear p2
              try clear p6
              try clear q1
              try clear q13
              try clear q139
              try clear q141
              obtain ⟨x15_4, x106_4, rfl, HA, HK4, HO_15, HB⟩ := hrel
              cases gk with
              | zero => exact absurd HA.out (by simp [spec_FairTeams.l3])
              | succ k4 =>
               have H := HA.out
               clear HA
               simp only [spec_FairTeams.l3] at H
               by_cases c40 : x106_4 < (l0.length : Int)
               ·rw [if_pos c40] at H
                have c40b0 : decide (x106_4 < (l0.length : Int)) = true := decide_eq_true c40
                clear c40
                by_cases c41 : 0 ≤ x106_4
                ·rw [if_pos c41] at H
                 have c41b0 : decide (0 ≤ x106_4) = true := decide_eq_true c41
                 clear c41
                 by_cases c42 : x106_4 < (l0.length : Int)
                 ·rw [if_pos c42] at H
                  have c42b0 : decide (x106_4 < (l0.length : Int)) = true := decide_eq_true c42
                  clear c42
                  obtain ⟨ji43, hji43⟩ : ∃ j_ : Int, (IntKind.u64.wrap (wrap64 ((wrap64 ((l0.length : Int) - 1)) - x106_4))) = j_ := ⟨_, rfl⟩
                  replace H : (if 0 ≤ (ji43) then (if 0 ≤ (wrap64 (1 - (Go.bits .and .i64 (shr .i64 x7_3 (ji43)) 1))) then (if (wrap64 (1 - (Go.bits .and .i64 (shr .i64 x7_3 (ji43)) 1))) < (x15_4.length : Int) then (if ((rd_T118 x15_4 (wrap64 (1 - (Go.bits .and .i64 (shr .i64 x7_3 (ji43)) 1)))).f0).length < 8796093022208 then ((some (x15_4.set ((wrap64 (1 - (Go.bits .and .i64 (shr .i64 x7_3 (ji43)) 1))) : Int).toNat (⟨(((rd_T118 x15_4 (wrap64 (1 - (Go.bits .and .i64 (shr .i64 x7_3 (ji43)) 1)))).f0) ++ [(rd_T106 l0 x106_4).f0]), (rd_T118 x15_4 (wrap64 (1 - (Go.bits .and .i64 (shr .i64 x7_3 (ji43)) 1)))).f1⟩ : S118) : List (S118))).bind fun y153 => (spec_FairTeams.l3 k4 l0 x7_3 (y153.set ((wrap64 (1 - (Go.bits .and .i64 (shr .i64 x7_3 (ji43)) 1))) : Int).toNat (⟨(rd_T118 y153 (wrap64 (1 - (Go.bits .and .i64 (shr .i64 x7_3 (ji43)) 1)))).f0, wrap64 (((rd_T118 y153 (wrap64 (1 - (Go.bits .and .i64 (shr .i64 x7_3 (ji43)) 1)))).f1) + ((rd_T106 l0 x106_4).f1))⟩ : S118)) l0 (l0.length : Int) (wrap64 (x106_4 + 1)))) else (none)) else (none)) else (none)) else (none)) = some (r1, r2) := by first | (rw [hji43] at H; exact H) | (simp only [hji43] at H ⊢; exact H)
                  by_cases c44 : 0 ≤ (ji43)
                  ·rw [if_pos c44] at H
                   have c44b0 := eq_true c44
                   have c44b1 : decide (0 ≤ (ji43)) = true := decide_eq_true c44
                   clear c44
                   obtain ⟨ji45, hji45⟩ : ∃ j_ : Int, (shr .i64 x7_3 (ji43)) = j_ := ⟨_, rfl⟩
                   replace H : (if 0 ≤ (wrap64 (1 - (Go.bits .and .i64 (ji45) 1))) then (if (wrap64 (1 - (Go.bits .and .i64 (ji45) 1))) < (x15_4.length : Int) then (if ((rd_T118 x15_4 (wrap64 (1 - (Go.bits .and .i64 (ji45) 1)))).f0).length < 8796093022208 then ((some (x15_4.set ((wrap64 (1 - (Go.bits .and .i64 (ji45) 1))) : Int).toNat (⟨(((rd_T118 x15_4 (wrap64 (1 - (Go.bits .and .i64 (ji45) 1)))).f0) ++ [(rd_T106 l0 x106_4).f0]), (rd_T118 x15_4 (wrap64 (1 - (Go.bits .and .i64 (ji45) 1)))).f1⟩ : S118) : List (S118))).bind fun y153 => (spec_FairTeams.l3 k4 l0 x7_3 (y153.set ((wrap64 (1 - (Go.bits .and .i64 (ji45) 1))) : Int).toNat (⟨(rd_T118 y153 (wrap64 (1 - (Go.bits .and .i64 (ji45) 1)))).f0, wrap64 (((rd_T118 y153 (wrap64 (1 - (Go.bits .and .i64 (ji45) 1)))).f1) + ((rd_T106 l0 x106_4).f1))⟩ : S118)) l0 (l0.length : Int) (wrap64 (x106_4 + 1)))) else (none)) else (none)) else (none)) = some (r1, r2) := by first | (rw [hji45] at H; exact H) | (simp only [hji45] at H ⊢; exact H)
                   have hji45_ : (x7_3 / 2 ^ min (ji43).toNat 64) = ji45 := hji45
                   have hji45z : (ji43) ≤ 64 → (x7_3 / 2 ^ (ji43).toNat) = ji45 := shr_small hji45
                   obtain ⟨ji46, hji46⟩ : ∃ j_ : Int, (wrap64 (1 - (Go.bits .and .i64 (ji45) 1))) = j_ := ⟨_, rfl⟩
                   replace H : (if 0 ≤ (ji46) then (if (ji46) < (x15_4.length : Int) then (if ((rd_T118 x15_4 (ji46)).f0).length < 8796093022208 then ((some (x15_4.set ((ji46) : Int).toNat (⟨(((rd_T118 x15_4 (ji46)).f0) ++ [(rd_T106 l0 x106_4).f0]), (rd_T118 x15_4 (ji46)).f1⟩ : S118) : List (S118))).bind fun y153 => (spec_FairTeams.l3 k4 l0 x7_3 (y153.set ((ji46) : Int).toNat (⟨(rd_T118 y153 (ji46)).f0, wrap64 (((rd_T118 y153 (ji46)).f1) + ((rd_T106 l0 x106_4).f1))⟩ : S118)) l0 (l0.length : Int) (wrap64 (x106_4 + 1)))) else (none)) else (none)) else (none)) = some (r1, r2) := by first | (rw [hji46] at H; exact H) | (simp only [hji46] at H ⊢; exact H)
                   have hji46w : (IntKind.i64.wrap (1 - (Go.bits .and .i64 (ji45) 1))) = ji46 := (i64_w _).trans hji46
                   by_cases c47 : 0 ≤ (ji46)
                   ·rw [if_pos c47] at H
                    have c47b0 : decide (0 ≤ (ji46)) = true := decide_eq_true c47
                    clear c47
                    by_cases c48 : (ji46) < (x15_4.length : Int)
                    ·rw [if_pos c48] at H
                     have c48b0 : decide ((ji46) < (x15_4.length : Int)) = true := decide_eq_true c48
                     clear c48
                     by_cases c49 : ((rd_T118 x15_4 (ji46)).f0).length < 8796093022208
                     ·rw [if_pos c49] at H
                      have LMc49 := Aside0.mk c49
                      clear c49
                      obtain ⟨y150, hy150⟩ : ∃ y_ : List ByteArray, y_ = (((rd_T118 x15_4 (ji46)).f0) ++ [(rd_T106 l0 x106_4).f0]) := ⟨_, rfl⟩
                      replace H : ((some (x15_4.set ((ji46) : Int).toNat (⟨y150, (rd_T118 x15_4 (ji46)).f1⟩ : S118) : List (S118))).bind fun y153 => (spec_FairTeams.l3 k4 l0 x7_3 (y153.set ((ji46) : Int).toNat (⟨(rd_T118 y153 (ji46)).f0, wrap64 (((rd_T118 y153 (ji46)).f1) + ((rd_T106 l0 x106_4).f1))⟩ : S118)) l0 (l0.length : Int) (wrap64 (x106_4 + 1)))) = some (r1, r2) := by first | (rw [hy150]; with_reducible exact H) | (have H2_ := (Option.bind_some _ _).symm.trans H; rw [hy150]; with_reducible exact H2_) | (have H2_ := (Option.bind_some _ _).symm.trans H; with_reducible exact H2_) | with_reducible exact H | (rw [hy150]; exact H) | exact H
                      have Ny150 := Aside0.mk hy150
                      clear hy150
                      obtain ⟨y153, hy153⟩ : ∃ y_ : List (S118), y_ = (x15_4.set ((ji46) : Int).toNat (⟨y150, (rd_T118 x15_4 (ji46)).f1⟩ : S118)) := ⟨_, rfl⟩
                      replace H : (spec_FairTeams.l3 k4 l0 x7_3 (y153.set ((ji46) : Int).toNat (⟨(rd_T118 y153 (ji46)).f0, wrap64 (((rd_T118 y153 (ji46)).f1) + ((rd_T106 l0 x106_4).f1))⟩ : S118)) l0 (l0.length : Int) (wrap64 (x106_4 + 1))) = some (r1, r2) := by first | (rw [hy153]; with_reducible exact H) | (have H2_ := (Option.bind_some _ _).symm.trans H; rw [hy153]; with_reducible exact H2_) | (have H2_ := (Option.bind_some _ _).symm.trans H; with_reducible exact H2_) | with_reducible exact H | (rw [hy153]; exact H) | exact H
                      have Ny153 := Aside0.mk hy153
                      clear hy153
                      obtain ⟨y155, hy155⟩ : ∃ y_ : List (S118), y_ = (y153.set ((ji46) : Int).toNat (⟨(rd_T118 y153 (ji46)).f0, wrap64 (((rd_T118 y153 (ji46)).f1) + ((rd_T106 l0 x106_4).f1))⟩ : S118)) := ⟨_, rfl⟩
                      replace H : (spec_FairTeams.l3 k4 l0 x7_3 y155 l0 (l0.length : Int) (wrap64 (x106_4 + 1))) = some (r1, r2) := by first | (rw [hy155]; with_reducible exact H) | (have H2_ := (Option.bind_some _ _).symm.trans H; rw [hy155]; with_reducible exact H2_) | (have H2_ := (Option.bind_some _ _).symm.trans H; with_reducible exact H2_) | with_reducible exact H | (rw [hy155]; exact H) | exact H
                      have Ny155 := Aside0.mk hy155
                      clear hy155
                      have H' := Aside0.mk H
                      clear H
                      have p147 : 0 ≤ (x106_4 : Int) := of_decide_eq_true (by first | (with_reducible assumption) | assumption)
                      have q147 : x106_4 < (l0.length : Int) := of_decide_eq_true (by first | (with_reducible assumption) | assumption)
                      obtain ⟨ad147, e147, hx147_0, hx147_1, hx147_2⟩ := at_T106 HR0.out x106_4 p147 q147
                      cases e147
                      replace hx147_0 := (HB.out.cell (World.block_lt_of_cell? w _ hx147_0)).trans hx147_0
                      replace hx147_1 := (HB.out.cell (World.block_lt_of_cell? w _ hx147_1)).trans hx147_1
                      replace hx147_2 := (HB.out.cell (World.block_lt_of_cell? w _ hx147_2)).trans hx147_2
                      replace p147 := eq_true p147
                      replace q147 := eq_true q147
                      try go_wp2_with (first | ((with_reducible refine gate_dst (N := 17) rfl ?_); (try (refine gate_guard (by rfl) ?_; dsimp only)); refine box_event ?hg (N := 17) ?hd (cs := #[.string (⟨#[]⟩ : ByteArray), .int .i64 0, .int .i64 0]) (t := 106) ?hr ?_; (case hd => rfl); (case hg => rfl); (case hr => first | (go_simp; done) | (go_simp; rfl)); intro gb148 hg w52 hbox hb; have n0_ := Aside0.mk (Kd.S_below (by (with_reducible repeat (first | apply Kd.S_alloc | apply Kd.S_drewN | apply Kd.S_drew)); exact HO_15.out) hb); have n1_ := Aside0.mk (below_step (by repeat (first | (with_reducible first | exact HB.out | apply below_alloc | apply pw_below_drewN | apply below_drew1) | exact HB.out)) hb); have n2_ := Aside0.mk (hbox); have n3_ := Aside0.mk ((by rw [hg]; exact (below_size (by repeat (first | (with_reducible first | exact HB.out | apply below_alloc | apply pw_below_drewN | apply below_drew1) | exact HB.out))) : w.heap.size ≤ gb148)); have n4_ := Aside0.mk ((by rw [hg]; exact (below_size (by repeat (first | (with_reducible first | exact HB.out | apply below_alloc | apply pw_below_drewN | apply below_drew1) | exact HB.out))) : w.heap.size ≤ gb148)); clear HO_15; clear HB; have HO_15 := n0_; have HB := n1_; have BK148 := n2_; have GW148 := n3_; have GE148 := n4_; clear n0_ n1_ n2_ n3_ n4_; clear hb hbox hg; have hcz53_0 : w52.cell? ⟨gb148, 0, none⟩ = some (.string (⟨#[]⟩ : ByteArray)) := (blk_cell BK148.out 0).trans rfl; have hcz53_1 : w52.cell? ⟨gb148, 1, none⟩ = some (.int .i64 0) := (blk_cell BK148.out 1).trans rfl; have hcz53_2 : w52.cell? ⟨gb148, 2, none⟩ = some (.int .i64 0) := (blk_cell BK148.out 2).trans rfl; have hfz53_0 := blk_frozen BK148.out 0; have hfz53_1 := blk_frozen BK148.out 1; have hfz53_2 := blk_frozen BK148.out 2))
                      have n0_ : Aside0 (Kd.S k118 118 (((w52.setCell ⟨gb148, 0, none⟩ (.string ((rd_T106 l0 x106_4).f0))).setCell ⟨gb148, 1, none⟩ (.int .i64 ((rd_T106 l0 x106_4).f1))).setCell ⟨gb148, 2, none⟩ (.int .i64 ((rd_T106 l0 x106_4).f2))) w.heap.size (fun _ => True) v145 x15_4) := ⟨by (with_reducible repeat (first | apply Kd.S_alloc | apply Kd.S_drewN | apply Kd.S_drew)); exact Kd.S_mono (Kd.S_far (p := ⟨gb148, 2, none⟩) (Kd.S_far (p := ⟨gb148, 1, none⟩) (Kd.S_far (p := ⟨gb148, 0, none⟩) (Kd.S_types HO_15.out BK148.out (by decide)) (fun _ hk => hk.2) (.string ((rd_T106 l0 x106_4).f0))) (fun _ hk => hk.2) (.int .i64 ((rd_T106 l0 x106_4).f1))) (fun _ hk => hk.2) (.int .i64 ((rd_T106 l0 x106_4).f2))) (fun _ hk => trivial)⟩
                      have n1_ : Aside0 ((((w52.setCell ⟨gb148, 0, none⟩ (.string ((rd_T106 l0 x106_4).f0))).setCell ⟨gb148, 1, none⟩ (.int .i64 ((rd_T106 l0 x106_4).f1))).setCell ⟨gb148, 2, none⟩ (.int .i64 ((rd_T106 l0 x106_4).f2))).heap[gb148]? = some (.cells #[.string ((rd_T106 l0 x106_4).f0), .int .i64 ((rd_T106 l0 x106_4).f1), .int .i64 ((rd_T106 l0 x106_4).f2)] 106 (0, 0))) := ⟨by (with_reducible repeat (first | refine blk_drewN ?_ _ | refine blk_drew ?_ | refine blk_alloc ?_ _)); refine blk_put (cs := #[.string ((rd_T106 l0 x106_4).f0), .int .i64 ((rd_T106 l0 x106_4).f1), .int .i64 0]) ?_ 2 _ rfl; (with_reducible repeat (first | refine blk_drewN ?_ _ | refine blk_drew ?_ | refine blk_alloc ?_ _)); refine blk_put (cs := #[.string ((rd_T106 l0 x106_4).f0), .int .i64 0, .int .i64 0]) ?_ 1 _ rfl; (with_reducible repeat (first | refine blk_drewN ?_ _ | refine blk_drew ?_ | refine blk_alloc ?_ _)); refine blk_put (cs := #[.string (⟨#[]⟩ : ByteArray), .int .i64 0, .int .i64 0]) ?_ 0 _ rfl; (with_reducible repeat (first | refine blk_drewN ?_ _ | refine blk_drew ?_ | refine blk_alloc ?_ _)); exact BK148.out⟩
                      have n2_ : Aside0 (Below w.heap.size w (((w52.setCell ⟨gb148, 0, none⟩ (.string ((rd_T106 l0 x106_4).f0))).setCell ⟨gb148, 1, none⟩ (.int .i64 ((rd_T106 l0 x106_4).f1))).setCell ⟨gb148, 2, none⟩ (.int .i64 ((rd_T106 l0 x106_4).f2)))) := ⟨by repeat (first | (with_reducible first | exact HB.out | apply below_alloc | apply pw_below_drewN | apply below_drew1 | refine below_set ?_ GE148.out) | exact HB.out)⟩
                      (try clear HO_15)
                      (try clear BK148)
                      (try clear HB)
                      generalize (((w52.setCell ⟨gb148, 0, none⟩ (.string ((rd_T106 l0 x106_4).f0))).setCell ⟨gb148, 1, none⟩ (.int .i64 ((rd_T106 l0 x106_4).f1))).setCell ⟨gb148, 2, none⟩ (.int .i64 ((rd_T106 l0 x106_4).f2))) = w54 at n0_ n1_ n2_ ⊢
                      have HO_15 := n0_
                      have BK148 := n1_
                      have HB := n2_
                      clear n0_ n1_ n2_
                      have n0_ := Aside0.mk (Kd.S_drew HO_15.out)
                      have n1_ := Aside0.mk (blk_drew BK148.out)
                      have n2_ := Aside0.mk (below_drew1 HB.out)
                      clear HO_15
                      clear BK148
                      clear HB
                      have HO_15 := n0_
                      have BK148 := n1_
                      have HB := n2_
                      clear n0_ n1_ n2_
                      obtain ⟨Ao56, co56, eo56⟩ := Kd.S_slice HO_15.out
                      (first | subst eo56 | (injection eo56 with f1_ f2_ f3_; have f4_ := f1_.symm; have f5_ := f3_.symm; clear f1_ f2_ f3_; subst f4_; subst f5_))
                      have p149 : 0 ≤ ((ji46) : Int) := of_decide_eq_true (by first | (with_reducible assumption) | assumption)
                      have q149 : (ji46) < (x15_4.length : Int) := of_decide_eq_true (by first | (with_reducible assumption) | assumption)
                      obtain ⟨ad149, A149_0, c149_0, e149, hx149_0, hx149_1, hl149_0, hi149_0⟩ := at_T118 (Kd.S_reads' HO_15.out).2.2 (ji46) p149 q149
                      cases e149
                      obtain ⟨ce149, hce149, hMe149, hcc149⟩ := Kd.S_get HO_15.out z118 (ji46) p149 (by first | exact q149 | exact of_decide_eq_true (by first | (with_reducible assumption) | assumption) | (have e_ := (Kd.S_reads' HO_15.out).1; omega))
                      obtain ⟨ve149_0, rfl, ge149_0⟩ := k118_openM hMe149
                      have hv149_0 := hcc149 0 _ rfl
                      rw [Nat.add_zero] at hv149_0
                      replace hv149_0 := Option.some.inj (hv149_0.symm.trans hx149_0)
                      rw [hv149_0] at ge149_0
                      have HL149_0 := Aside0.mk (show Kd.R Kd.string 9 _ _ _ _ ((rd_T118 x15_4 (ji46)).f0) from ge149_0)
                      clear hv149_0 ge149_0
                      have HX149_0 := Aside0.mk hx149_0
                      clear hcc149 hce149
                      have HR149_0 := Aside0.mk hi149_0
                      have HC149_0 := Aside0.mk hl149_0
                      clear hi149_0 hl149_0
                      replace p149 := eq_true p149
                      replace q149 := eq_true q149
                      obtain ⟨go57, co57, eo57, gb57, gl57, cl57, HG57⟩ := Kd.S_form HO_15.out (by have h_ : ((ji46) : Int) < ((x15_4.length : Int) : Int) := of_decide_eq_true (by first | (with_reducible assumption) | assumption); have h2_ : 0 ≤ ((ji46) : Int) := (of_decide_eq_true (by first | (with_reducible assumption) | assumption)); omega)
                      (first | cases eo57 | (injection eo57 with ea_ en_ ec_; (first | subst ea_ | (injection ea_ with ea_; subst ea_)); subst ec_; clear en_))
                      have GB57 := Aside0.mk gb57
                      have GG57 := Aside0.mk HG57
                      clear gb57 gl57 HG57
                      (first | simp only [add_plain] at hx149_0 | skip)
                      (first | simp only [add_plain] at hx149_1 | skip)
                      obtain ⟨oki57, ce57, hcl57, hM57, hcc57, _, _, hH57⟩ := Kd.S_elem HO_15.out z118 ((ji46) : Int) (of_decide_eq_true (by first | (with_reducible assumption) | assumption)) (by have h_ : ((ji46) : Int) < ((x15_4.length : Int) : Int) := of_decide_eq_true (by first | (with_reducible assumption) | assumption); first | exact h_ | (have e_ := (Kd.S_reads' HO_15.out).1; omega) | simpa using h_)
                      obtain ⟨ve57_0, rfl, ge57_0⟩ := k118_openM hM57
                      have hv57 := hcc57 0 _ rfl
                      have hX57 := HX149_0.out
                      (try simp only [add_plain] at hX57)
                      (try simp only [Nat.add_zero] at hv57)
                      replace hv57 := Option.some.inj (hv57.symm.trans hX57)
                      subst hv57
                      clear hX57 hcc57 hcl57
                      have UU57 := Aside0.mk (show Kd.R Kd.string 9 _ w.heap.size oki57 (.slice A149_0 ((rd_T118 x15_4 (ji46)).f0).length c149_0) ((rd_T118 x15_4 (ji46)).f0) from ge57_0)
                      have HH57 := Aside0.mk hH57
                      have HN57 := Aside0.mk (Kd.S_reads' HO_15.out).1
                      clear hH57 ge57_0
                      refine start_ (n := 14) (S := fun w' => w'.cell? ⟨gb148, 0, none⟩ = some (.string ((rd_T106 l0 x106_4).f0)) ∧ w'.cell? ⟨gb148, 1, none⟩ = some (.int .i64 ((rd_T106 l0 x106_4).f1)) ∧ w'.cell? ⟨gb148, 2, none⟩ = some (.int .i64 ((rd_T106 l0 x106_4).f2)) ∧ w'.cell? ⟨go57, ((ji46)).toNat * 2, none⟩ = some (.slice A149_0 ((rd_T118 x15_4 (ji46)).f0).length c149_0) ∧ w'.cell? ⟨go57, ((ji46)).toNat * 2 + 1, none⟩ = some (.int .i64 ((rd_T118 x15_4 (ji46)).f1))) (ds := [13]) #[false, false, false, false, false, false, false, false, false, false, false, false, false, false] (by kernel_rfl) rfl rfl ⟨(blk_cell BK148.out 0).trans rfl, (blk_cell BK148.out 1).trans rfl, (blk_cell BK148.out 2).trans rfl, hx149_0, hx149_1⟩ (fun hHeld => ?_); refine with_tabW spec_FairTeams.tab32 spec_FairTeams.bits32 (fun HT_ HW_ => ?_)
                      generalize w54.drew = w55 at HO_15 BK148 HB GG57 HH57 HL149_0 HR149_0 HX149_0 UU57 hx149_0 hx149_1 hHeld ⊢
                      refine pure_ (i := 0) (N := some 121) (v := ?_) (a' := ?_) #[true, false, false, false, false, false, false, false, false, false, false, false, false, false] rfl rfl (any_of HT_.out (by kernel_rfl)) (fun _ _ _ h => h) (Or.inl ⟨by rfl, ?_⟩) ?_ ?_
                      rotate_left
                      ·intro w'
                       go_simp
                       with_reducible rfl
                      rotate_left
                      ·simp only [Act.put, List.setIfInBounds_toArray, List.set_cons_zero, List.set_cons_succ, i64_w, i32_w]
                       rfl
                      refine pure_ (i := 1) (N := some 122) (v := ?_) (a' := ?_) #[true, true, false, false, false, false, false, false, false, false, false, false, false, false] rfl rfl (any_of HT_.out (by kernel_rfl)) (fun _ _ _ h => h) (Or.inl ⟨by rfl, ?_⟩) ?_ ?_
                      rotate_left
                      ·intro w'
                       go_simp
                       with_reducible rfl
                      rotate_left
                      ·simp only [Act.put, List.setIfInBounds_toArray, List.set_cons_zero, List.set_cons_succ, i64_w, i32_w]
                       rfl
                      refine pure_ (i := 2) (N := some 123) (v := ?_) (a' := ?_) #[true, true, true, false, false, false, false, false, false, false, false, false, false, false] rfl rfl (any_of HT_.out (by kernel_rfl)) (fun _ _ _ h => h) (Or.inl ⟨by rfl, ?_⟩) ?_ ?_
                      rotate_left
                      ·intro w'
                       go_simp
                       with_reducible rfl
                      rotate_left
                      ·simp only [Act.put, List.setIfInBounds_toArray, List.set_cons_zero, List.set_cons_succ, i64_w, i32_w]
                       rfl
                      refine pure_ (i := 3) (N := some 124) (v := ?_) (a' := ?_) #[true, true, true, true, false, false, false, false, false, false, false, false, false, false] rfl rfl (any_of HT_.out (by kernel_rfl)) (fun _ _ _ h => h) (Or.inl ⟨by rfl, ?_⟩) ?_ ?_
                      rotate_left
                      ·intro w'
                       go_simp
                       with_reducible rfl
                      rotate_left
                      ·simp only [Act.put, List.setIfInBounds_toArray, List.set_cons_zero, List.set_cons_succ, i64_w, i32_w]
                       rfl
                      refine pure_ (i := 4) (N := some 125) (v := ?_) (a' := ?_) #[true, true, true, true, true, false, false, false, false, false, false, false, false, false] rfl rfl (any_of HT_.out (by kernel_rfl)) (fun _ _ _ h => h) (Or.inl ⟨by rfl, ?_⟩) ?_ ?_
                      rotate_left
                      ·intro w'
                       go_simp
                       with_reducible rfl
                      rotate_left
                      ·simp only [Act.put, List.setIfInBounds_toArray, List.set_cons_zero, List.set_cons_succ, i64_w, i32_w]
                       rfl
                      refine pure_ (i := 5) (N := some 126) (v := ?_) (a' := ?_) #[true, true, true, true, true, true, false, false, false, false, false, false, false, false] rfl rfl (any_of HT_.out (by kernel_rfl)) (fun _ _ _ h => h) (Or.inl ⟨by rfl, ?_⟩) ?_ ?_
                      rotate_left
                      ·intro w'
                       go_simp
                       with_reducible rfl
                      rotate_left
                      ·simp only [Act.put, List.setIfInBounds_toArray, List.set_cons_zero, List.set_cons_succ, i64_w, i32_w]
                       rfl
                      refine pure_ (i := 7) (N := some 128) (v := ?_) (a' := ?_) #[true, true, true, true, true, true, false, true, false, false, false, false, false, false] rfl rfl (any_of HT_.out (by kernel_rfl)) (fun _ _ _ h => h) (Or.inl ⟨by rfl, ?_⟩) ?_ ?_
                      rotate_left
                      ·intro w'
                       go_simp
                       with_reducible rfl
                      rotate_left
                      ·simp only [Act.put, List.setIfInBounds_toArray, List.set_cons_zero, List.set_cons_succ, i64_w, i32_w]
                       rfl
                      refine take_ (i := 6) (N := some 127) (v := ?_) (a' := ?_) #[true, true, true, true, true, true, true, true, false, false, false, false, false, false] rfl rfl (take_ofW HT_.out HW_.out (by kernel_rfl)) (fun _ _ _ h => h) (Or.inl ⟨by rfl, ?_⟩) hHeld ?_ ?_
                      rotate_left
                      ·rintro w' ⟨s0, s1, s2, s3, s4⟩
                       go_simp
                       with_reducible rfl
                      rotate_left
                      ·simp only [Act.put, List.setIfInBounds_toArray, List.set_cons_zero, List.set_cons_succ, i64_w, i32_w]
                       rfl
                      refine take_ (i := 8) (N := some 129) (v := ?_) (a' := ?_) #[true, true, true, true, true, true, true, true, true, false, false, false, false, false] rfl rfl (take_ofW HT_.out HW_.out (by kernel_rfl)) (fun _ _ _ h => h) (Or.inl ⟨by rfl, ?_⟩) hHeld ?_ ?_
                      rotate_left
                      ·rintro w' ⟨s0, s1, s2, s3, s4⟩
                       go_simp
                       with_reducible rfl
                      rotate_left
                      ·simp only [Act.put, List.setIfInBounds_toArray, List.set_cons_zero, List.set_cons_succ, i64_w, i32_w]
                       rfl
                      refine one_ (i := 9) (N := some 130) #[true, true, true, true, true, true, true, true, true, true, false, false, false, false] rfl rfl (one_of HT_.out (by kernel_rfl)) (by decide) (fun K hK => ?_)
                      refine value_ (w1 := ?_) (v := ?_) (by rfl) rfl ?_ ?_
                      rotate_left 2
                      ·go_simp
                       constructor
                       ·rfl
                       ·rfl
                      refine hK.out _ _ ⟨(blk_cell (blk_alloc BK148.out _) 0).trans rfl, (blk_cell (blk_alloc BK148.out _) 1).trans rfl, (blk_cell (blk_alloc BK148.out _) 2).trans rfl, (World.cell?_alloc_lt _ _ _ (World.block_lt_of_cell? _ _ (hHeld.2.2.2.1))).trans (hHeld.2.2.2.1), (World.cell?_alloc_lt _ _ _ (World.block_lt_of_cell? _ _ (hHeld.2.2.2.2))).trans (hHeld.2.2.2.2)⟩ (fun hHeld => ?_)
                      clear hK K
                      refine norm_ (a' := ?_) ?_ ?_
                      rotate_left
                      ·show Act.put _ (some 130) _ = _
                       simp only [Act.put, List.setIfInBounds_toArray, List.set_cons_zero, List.set_cons_succ, i64_w, i32_w]
                       rfl
                      refine one_ (i := 10) (N := some 131) #[true, true, true, true, true, true, true, true, true, true, true, false, false, false] rfl rfl (one_of HT_.out (by kernel_rfl)) (by decide) (fun K hK => ?_)
                      refine Kd.R_append_step Kd.string (w0 := w) w.heap.size (by rfl) (.tmp 127) (.tmp 130) 55 9 (.string ⟨#[]⟩) 16 rfl Try.underlying55 info9 rfl (by decide) (by omega) (.slice A149_0 ((rd_T118 x15_4 (ji46)).f0).length c149_0) ((rd_T118 x15_4 (ji46)).f0) ((rd_T106 l0 x106_4).f0) [.string ((rd_T106 l0 x106_4).f0)] (fun k_ => oki57 k_ ∨ ((fun _ => True)) k_ ∧ w55.heap.size ≤ k_) (fun _ => False) rfl rfl ?aP (fun _ hk => hk.elim) ?aF ?aO ?aB ?aS ?aL ?_
                      (case aP => exact rfl)
                      (case aB => exact (by repeat (first | (with_reducible first | exact HB.out | apply below_alloc | apply pw_below_drewN | apply below_drew1 | refine below_set ?_ GE148.out) | exact HB.out)))
                      (case aF => exact (fun k_ hk => .inr ⟨trivial, hk⟩))
                      (case aO => exact (by (with_reducible repeat (first | apply Kd.R_alloc | apply Kd.R_drewN | apply Kd.R_drew)); exact Kd.R_mono UU57.out (fun _ hk => .inl hk)))
                      (case aS => exact (below_size (by repeat (first | (with_reducible first | exact HB.out | apply below_alloc | apply pw_below_drewN | apply below_drew1 | refine below_set ?_ GE148.out) | exact HB.out))))
                      (case aL => have := LMc49.out; omega)
                      intro v151 w58 ho hb hg hat
                      (first | have HS3_ := cell_grown hg (hHeld.2.2.2.1) (by first | (rw [add_block]; exact (fun e_ => ((HL149_0.out.1 _ e_.symm).2) rfl)) | (show some (Addr.add _ _).block ≠ _; rw [add_block]; exact (fun e_ => ((HL149_0.out.1 _ e_.symm).2) rfl)) | exact (fun e_ => ((HL149_0.out.1 _ e_.symm).2) rfl)) | have HS3_ := cell_grown hg (cell_unalloc (hHeld.2.2.2.1) (by first | (rw [add_block]; exact Kd.S_lt HO_15.out _ rfl) | (show (Addr.add _ _).block < _; rw [add_block]; exact Kd.S_lt HO_15.out _ rfl) | exact Kd.S_lt HO_15.out _ rfl)) (by first | (rw [add_block]; exact (fun e_ => ((HL149_0.out.1 _ e_.symm).2) rfl)) | (show some (Addr.add _ _).block ≠ _; rw [add_block]; exact (fun e_ => ((HL149_0.out.1 _ e_.symm).2) rfl)) | exact (fun e_ => ((HL149_0.out.1 _ e_.symm).2) rfl)))
                      (first | have HS4_ := cell_grown hg (hHeld.2.2.2.2) (by first | (rw [add_block]; exact (fun e_ => ((HL149_0.out.1 _ e_.symm).2) rfl)) | (show some (Addr.add _ _).block ≠ _; rw [add_block]; exact (fun e_ => ((HL149_0.out.1 _ e_.symm).2) rfl)) | exact (fun e_ => ((HL149_0.out.1 _ e_.symm).2) rfl)) | have HS4_ := cell_grown hg (cell_unalloc (hHeld.2.2.2.2) (by first | (rw [add_block]; exact Kd.S_lt HO_15.out _ rfl) | (show (Addr.add _ _).block < _; rw [add_block]; exact Kd.S_lt HO_15.out _ rfl) | exact Kd.S_lt HO_15.out _ rfl)) (by first | (rw [add_block]; exact (fun e_ => ((HL149_0.out.1 _ e_.symm).2) rfl)) | (show some (Addr.add _ _).block ≠ _; rw [add_block]; exact (fun e_ => ((HL149_0.out.1 _ e_.symm).2) rfl)) | exact (fun e_ => ((HL149_0.out.1 _ e_.symm).2) rfl)))
                      rw [← Ny150.out] at ho
                      have n0_ := Aside0.mk (blk_grown (g := gb148) (o := .cells #[.string ((rd_T106 l0 x106_4).f0), .int .i64 ((rd_T106 l0 x106_4).f1), .int .i64 ((rd_T106 l0 x106_4).f2)] 106 (0, 0)) (by (with_reducible repeat (first | refine blk_drewN ?_ _ | refine blk_drew ?_ | refine blk_alloc ?_ _)); exact BK148.out) hg (Kd.R_ne HL149_0.out BK148.out (by decide)))
                      have n1_ := Aside0.mk (hb)
                      have n2_ := Aside0.mk (Kd.H_grown (Kd.H_widen (by repeat (first | exact HH57.out | refine Kd.H_alloc ?_ _ | refine Kd.H_drewN ?_ _ | refine Kd.H_drew ?_))) hg (fun k_ e_ => .inl (UU57.out.1 k_ e_)))
                      have n3_ := Aside0.mk (ho)
                      clear BK148
                      clear HB
                      clear HH57
                      clear HO_15
                      clear UU57
                      clear HL149_0
                      have BK148 := n0_
                      have HB := n1_
                      have HH57 := n2_
                      have HO152 := n3_
                      clear n0_ n1_ n2_ n3_
                      clear ho hb hg hat
                      have p50 : 0 ≤ ((ji46) : Int) := of_decide_eq_true (by first | (with_reducible assumption) | assumption)
                      have q50 : ((ji46) : Int) < ((x15_4.length : Int) : Int) := of_decide_eq_true (by first | (with_reducible assumption) | assumption)
                      replace p50 := eq_true p50
                      replace q50 := eq_true q50
                      obtain ⟨Ao61, co61, eo61⟩ := Kd.R_slice HO152.out
                      (first | subst eo61 | (injection eo61 with f1_ f2_ f3_; have f4_ := f1_.symm; have f5_ := f3_.symm; clear f1_ f2_ f3_; subst f4_; subst f5_))
                      obtain ⟨_, _, hraw59, _, _, hcc59, _⟩ := Kd.H_raw HH57.out (of_decide_eq_true (by first | (with_reducible assumption) | assumption)) (by have h_ : ((ji46) : Int) < ((x15_4.length : Int) : Int) := of_decide_eq_true (by first | (with_reducible assumption) | assumption); first | exact h_ | (have e_ := (HN57.out); omega) | simpa using h_)
                      obtain ⟨_, hfr59⟩ := Kd.H_at HH57.out (of_decide_eq_true (by first | (with_reducible assumption) | assumption)) (by have h_ : ((ji46) : Int) < ((x15_4.length : Int) : Int) := of_decide_eq_true (by first | (with_reducible assumption) | assumption); first | exact h_ | (have e_ := (HN57.out); omega) | simpa using h_)
                      have hx59_0 := hcc59 0 _ rfl
                      have hf59_0 := hfr59 0
                      (try simp only [Nat.add_zero] at hx59_0 hf59_0)
                      (try rw [show (k118).sz = 2 from rfl] at hx59_0)
                      (try rw [show (k118).sz = 2 from rfl] at hf59_0)
                      have HP59 := Kd.S_seg0 HH57.out (of_decide_eq_true (by first | (with_reducible assumption) | assumption)) (by have h_ : ((ji46) : Int) < ((x15_4.length : Int) : Int) := of_decide_eq_true (by first | (with_reducible assumption) | assumption); first | exact h_ | (have e_ := (HN57.out); omega) | simpa using h_) (seg := [.slice Ao61 y150.length co61]) (j := 0) (show 1 ≤ 2 from by decide) (x' := (⟨y150, (rd_T118 x15_4 (ji46)).f1⟩ : S118)) (k118_mkM _ _ _ (⟨y150, (rd_T118 x15_4 (ji46)).f1⟩ : S118) HO152.out) (fun _ hk => hk)
                      clear hcc59 hfr59
                      have HNB148_go57 := Aside0.mk (show gb148 ≠ go57 from by have h_ := Kd.R_ne hraw59 BK148.out (by decide); intro e_; exact h_ (by rw [e_]; rfl))
                      have HS59 := HP59.1
                      rw [← Ny153.out] at HS59
                      have HQ59 := Aside0.mk HS59
                      obtain ⟨_, hgg59⟩ := Kd.R_typed hraw59 go57 rfl
                      have GG59_ := Aside0.mk hgg59
                      clear HP59 HS59 hgg59
                      refine hK.out _ _ ⟨(blk_cell BK148.out 0).trans rfl, (blk_cell BK148.out 1).trans rfl, (blk_cell BK148.out 2).trans rfl, HS3_, HS4_⟩ (fun hHeld => ?_)
                      clear hK K
                      refine norm_ (a' := ?_) ?_ ?_
                      rotate_left
                      ·show Act.put _ (some 131) _ = _
                       simp only [Act.put, List.setIfInBounds_toArray, List.set_cons_zero, List.set_cons_succ, i64_w, i32_w]
                       rfl
                      refine pure_ (i := 11) (N := some 132) (v := ?_) (a' := ?_) #[true, true, true, true, true, true, true, true, true, true, true, true, false, false] rfl rfl (any_of HT_.out (by kernel_rfl)) (fun _ _ _ h => h) (Or.inl ⟨by rfl, ?_⟩) ?_ ?_
                      rotate_left
                      ·intro w'
                       go_simp
                       with_reducible rfl
                      rotate_left
                      ·simp only [Act.put, List.setIfInBounds_toArray, List.set_cons_zero, List.set_cons_succ, i64_w, i32_w]
                       rfl
                      refine pure_ (i := 12) (N := some 133) (v := ?_) (a' := ?_) #[true, true, true, true, true, true, true, true, true, true, true, true, true, false] rfl rfl (any_of HT_.out (by kernel_rfl)) (fun _ _ _ h => h) (Or.inl ⟨by rfl, ?_⟩) ?_ ?_
                      rotate_left
                      ·intro w'
                       go_simp
                       with_reducible rfl
                      rotate_left
                      ·simp only [Act.put, List.setIfInBounds_toArray, List.set_cons_zero, List.set_cons_succ, i64_w, i32_w]
                       rfl
                      refine last_ (i := 13) (N := none) #[true, true, true, true, true, true, true, true, true, true, true, true, true, true] rfl rfl (one_of HT_.out (by kernel_rfl)) (by decide) (fun K hK => ?_)
                      refine skip_ (w1 := ?_) (by rfl) rfl ?_ ?_
                      rotate_left
                      ·go_simp
                       rfl
                      refine hK.out _ _ ?_
                      clear hK K
                      refine done_ (done_of HT_.out (by kernel_rfl)) ?_
                      try go_wp2
                      have n0_ : Aside0 (Kd.S k118 118 (w58.setCell ⟨go57, ((ji46) : Int).toNat * 2, none⟩ (.slice Ao61 y150.length co61)) w.heap.size (fun _ => True) (.slice (some ⟨go57, 0, none⟩) x15_4.length co56) y153) := ⟨by (with_reducible repeat (first | apply Kd.S_alloc | apply Kd.S_drewN | apply Kd.S_drew)); exact HQ59.out⟩
                      have n1_ : Aside0 ((w58.setCell ⟨go57, ((ji46) : Int).toNat * 2, none⟩ (.slice Ao61 y150.length co61)).heap[gb148]? = some (.cells #[.string ((rd_T106 l0 x106_4).f0), .int .i64 ((rd_T106 l0 x106_4).f1), .int .i64 ((rd_T106 l0 x106_4).f2)] 106 (0, 0))) := ⟨by (with_reducible repeat (first | refine blk_drewN ?_ _ | refine blk_drew ?_ | refine blk_alloc ?_ _)); refine blk_far ?_ HNB148_go57.out _; (with_reducible repeat (first | refine blk_drewN ?_ _ | refine blk_drew ?_ | refine blk_alloc ?_ _)); exact BK148.out⟩
                      have n2_ : Aside0 (Below w.heap.size w (w58.setCell ⟨go57, ((ji46) : Int).toNat * 2, none⟩ (.slice Ao61 y150.length co61))) := ⟨by repeat (first | (with_reducible first | exact HB.out | apply below_alloc | apply pw_below_drewN | apply below_drew1 | refine below_set ?_ GB57.out | refine below_set ?_ GE148.out) | exact HB.out)⟩
                      (try clear HO_15)
                      (try clear BK148)
                      (try clear HB)
                      generalize (w58.setCell ⟨go57, ((ji46) : Int).toNat * 2, none⟩ (.slice Ao61 y150.length co61)) = w62 at n0_ n1_ n2_ ⊢
                      have HO_15 := n0_
                      have BK148 := n1_
                      have HB := n2_
                      clear n0_ n1_ n2_
                      have n0_ := Aside0.mk (Kd.S_drew HO_15.out)
                      have n1_ := Aside0.mk (blk_drew BK148.out)
                      have n2_ := Aside0.mk (below_drew1 HB.out)
                      clear HO_15
                      clear BK148
                      clear HB
                      have HO_15 := n0_
                      have BK148 := n1_
                      have HB := n2_
                      clear n0_ n1_ n2_
                      have p154 : 0 ≤ ((ji46) : Int) := of_decide_eq_true (by first | (with_reducible assumption) | assumption)
                      have q154 : (ji46) < (y153.length : Int) := (by have h_ : ((ji46) : Int) < ((x15_4.length : Int) : Int) := of_decide_eq_true (by first | (with_reducible assumption) | assumption); first | (have e_ := (Kd.S_reads' HO_15.out).1; omega) | simpa only [Ny153.out, List.length_set] using h_)
                      have ql154 : (((ji46) : Int) < ((x15_4.length : Int) : Int)) = True := eq_true (of_decide_eq_true (by first | (with_reducible assumption) | assumption))
                      obtain ⟨ad154, A154_0, c154_0, e154, hx154_0, hx154_1, hl154_0, hi154_0⟩ := at_T118 (Kd.S_reads' HO_15.out).2.2 (ji46) p154 q154
                      obtain rfl : (⟨go57, 0, none⟩ : Addr) = ad154 := (by injection e154)
                      obtain ⟨ce154, hce154, hMe154, hcc154⟩ := Kd.S_get HO_15.out z118 (ji46) p154 (by first | exact q154 | exact of_decide_eq_true (by first | (with_reducible assumption) | assumption) | (have e_ := (Kd.S_reads' HO_15.out).1; omega))
                      obtain ⟨ve154_0, rfl, ge154_0⟩ := k118_openM hMe154
                      have hv154_0 := hcc154 0 _ rfl
                      rw [Nat.add_zero] at hv154_0
                      replace hv154_0 := Option.some.inj (hv154_0.symm.trans hx154_0)
                      rw [hv154_0] at ge154_0
                      have HL154_0 := Aside0.mk (show Kd.R Kd.string 9 _ _ _ _ ((rd_T118 y153 (ji46)).f0) from ge154_0)
                      clear hv154_0 ge154_0
                      have HX154_0 := Aside0.mk hx154_0
                      clear hcc154 hce154
                      (first | simp only [add_plain] at hx154_0 | simp only [add_at] at hx154_0 | simp only [Addr.add, Nat.zero_add] at hx154_0 | skip)
                      (first | simp only [add_plain] at hx154_1 | simp only [add_at] at hx154_1 | simp only [Addr.add, Nat.zero_add] at hx154_1 | skip)
                      have HR154_0 := Aside0.mk hi154_0
                      have HC154_0 := Aside0.mk hl154_0
                      clear hi154_0 hl154_0
                      replace p154 := eq_true p154
                      replace q154 := eq_true q154
                      have p51 : 0 ≤ ((ji46) : Int) := of_decide_eq_true (by first | (with_reducible assumption) | assumption)
                      have q51 : ((ji46) : Int) < ((x15_4.length : Int) : Int) := of_decide_eq_true (by first | (with_reducible assumption) | assumption)
                      obtain ⟨_, ce51, hcl51, hM51, hcc51, hfr51, _, _⟩ := Kd.S_elem HO_15.out z118 ((ji46) : Int) p51 q51
                      obtain ⟨ve51_0, rfl, ge51_0⟩ := k118_openM hM51
                      have hx51_0 : World.cell? _ ⟨go57, ((ji46) : Int).toNat * 2, none⟩ = some (ve51_0) := hcc51 0 _ rfl
                      have hx51_1 : World.cell? _ ⟨go57, ((ji46) : Int).toNat * 2 + 1, none⟩ = some (.int .i64 ((rd_T118 y153 (ji46)).f1)) := hcc51 1 _ rfl
                      have hf51_0 : World.frozen? _ ⟨go57, ((ji46) : Int).toNat * 2, none⟩ = false := hfr51 0
                      have hf51_1 : World.frozen? _ ⟨go57, ((ji46) : Int).toNat * 2 + 1, none⟩ = false := hfr51 1
                      clear hcl51 hcc51 hfr51 hM51
                      replace p51 := eq_true p51
                      replace q51 := eq_true q51
                      have HX64 := Aside0.mk (show Kd.S k118 118 _ w.heap.size (fun k_ => ((fun _ => True)) k_ ∧ ¬ (fun _ => False) k_) (.slice (some ⟨go57, 0, none⟩) x15_4.length co56) y153 from (by exact Kd.S_mono HO_15.out (fun k_ hk => ⟨trivial, fun e_ => e_⟩)))
                      obtain ⟨oki64, ce64, hcl64, hM64, hcc64, hfr64, hoki64, hH64⟩ := Kd.S_elem HX64.out z118 ((ji46) : Int) (of_decide_eq_true (by first | (with_reducible assumption) | assumption)) (by have h_ : ((ji46) : Int) < ((x15_4.length : Int) : Int) := of_decide_eq_true (by first | (with_reducible assumption) | assumption); first | exact h_ | (have e_ := (Kd.S_reads' HO_15.out).1; omega) | simpa using h_)
                      obtain ⟨ve64_0, rfl, ge64_0⟩ := k118_openM hM64
                      have HP64 := (Kd.S_seg hH64 (of_decide_eq_true (by first | (with_reducible assumption) | assumption)) (by have h_ : ((ji46) : Int) < ((x15_4.length : Int) : Int) := of_decide_eq_true (by first | (with_reducible assumption) | assumption); first | exact h_ | (have e_ := (Kd.S_reads' HO_15.out).1; omega) | simpa using h_) (seg := [.int .i64 (wrap64 (((rd_T118 y153 (ji46)).f1) + ((rd_T106 l0 x106_4).f1)))]) (j := 1) (show 2 ≤ 2 from by decide) (x' := (⟨(rd_T118 y153 (ji46)).f0, wrap64 (((rd_T118 y153 (ji46)).f1) + ((rd_T106 l0 x106_4).f1))⟩ : S118)) (k118_mkM _ _ _ (⟨(rd_T118 y153 (ji46)).f0, wrap64 (((rd_T118 y153 (ji46)).f1) + ((rd_T106 l0 x106_4).f1))⟩ : S118) ge64_0) (fun _ hk => Or.inl hk) (fun _ hk => hk.elim)).1
                      rw [← Ny155.out] at HP64
                      have HQ64 := Aside0.mk HP64
                      clear hcl64 hcc64 hfr64 hM64 HP64
                      refine start_ (n := 11) (S := fun w' => w'.cell? ⟨gb148, 0, none⟩ = some (.string ((rd_T106 l0 x106_4).f0)) ∧ w'.cell? ⟨gb148, 1, none⟩ = some (.int .i64 ((rd_T106 l0 x106_4).f1)) ∧ w'.cell? ⟨gb148, 2, none⟩ = some (.int .i64 ((rd_T106 l0 x106_4).f2)) ∧ w'.cell? ⟨go57, ((ji46)).toNat * 2, none⟩ = some (.slice A154_0 ((rd_T118 y153 (ji46)).f0).length c154_0) ∧ w'.cell? ⟨go57, ((ji46)).toNat * 2 + 1, none⟩ = some (.int .i64 ((rd_T118 y153 (ji46)).f1))) (ds := [10]) #[false, false, false, false, false, false, false, false, false, false, false] (by kernel_rfl) rfl rfl ⟨(blk_cell BK148.out 0).trans rfl, (blk_cell BK148.out 1).trans rfl, (blk_cell BK148.out 2).trans rfl, hx154_0, hx154_1⟩ (fun hHeld => ?_); refine with_tabW spec_FairTeams.tab33 spec_FairTeams.bits33 (fun HT_ HW_ => ?_)
                      generalize w62.drew = w63 at HO_15 BK148 HB HL154_0 HQ59 HQ64 HR154_0 HX154_0 hf51_0 hf51_1 hx154_0 hx154_1 hx51_0 hx51_1 hHeld ⊢
                      refine pure_ (i := 0) (N := some 134) (v := ?_) (a' := ?_) #[true, false, false, false, false, false, false, false, false, false, false] rfl rfl (any_of HT_.out (by kernel_rfl)) (fun _ _ _ h => h) (Or.inl ⟨by rfl, ?_⟩) ?_ ?_
                      rotate_left
                      ·intro w'
                       go_simp
                       with_reducible rfl
                      rotate_left
                      ·simp only [Act.put, List.setIfInBounds_toArray, List.set_cons_zero, List.set_cons_succ, i64_w, i32_w]
                       rfl
                      refine pure_ (i := 1) (N := some 135) (v := ?_) (a' := ?_) #[true, true, false, false, false, false, false, false, false, false, false] rfl rfl (any_of HT_.out (by kernel_rfl)) (fun _ _ _ h => h) (Or.inl ⟨by rfl, ?_⟩) ?_ ?_
                      rotate_left
                      ·intro w'
                       go_simp
                       with_reducible rfl
                      rotate_left
                      ·simp only [Act.put, List.setIfInBounds_toArray, List.set_cons_zero, List.set_cons_succ, i64_w, i32_w]
                       rfl
                      refine pure_ (i := 2) (N := some 136) (v := ?_) (a' := ?_) #[true, true, true, false, false, false, false, false, false, false, false] rfl rfl (any_of HT_.out (by kernel_rfl)) (fun _ _ _ h => h) (Or.inl ⟨by rfl, ?_⟩) ?_ ?_
                      rotate_left
                      ·intro w'
                       go_simp
                       with_reducible rfl
                      rotate_left
                      ·simp only [Act.put, List.setIfInBounds_toArray, List.set_cons_zero, List.set_cons_succ, i64_w, i32_w]
                       rfl
                      refine pure_ (i := 3) (N := some 137) (v := ?_) (a' := ?_) #[true, true, true, true, false, false, false, false, false, false, false] rfl rfl (any_of HT_.out (by kernel_rfl)) (fun _ _ _ h => h) (Or.inl ⟨by rfl, ?_⟩) ?_ ?_
                      rotate_left
                      ·intro w'
                       go_simp
                       with_reducible rfl
                      rotate_left
                      ·simp only [Act.put, List.setIfInBounds_toArray, List.set_cons_zero, List.set_cons_succ, i64_w, i32_w]
                       rfl
                      refine pure_ (i := 5) (N := some 139) (v := ?_) (a' := ?_) #[true, true, true, true, false, true, false, false, false, false, false] rfl rfl (any_of HT_.out (by kernel_rfl)) (fun _ _ _ h => h) (Or.inl ⟨by rfl, ?_⟩) ?_ ?_
                      rotate_left
                      ·intro w'
                       go_simp
                       with_reducible rfl
                      rotate_left
                      ·simp only [Act.put, List.setIfInBounds_toArray, List.set_cons_zero, List.set_cons_succ, i64_w, i32_w]
                       rfl
                      refine take_ (i := 4) (N := some 138) (v := ?_) (a' := ?_) #[true, true, true, true, true, true, false, false, false, false, false] rfl rfl (take_ofW HT_.out HW_.out (by kernel_rfl)) (fun _ _ _ h => h) (Or.inl ⟨by rfl, ?_⟩) hHeld ?_ ?_
                      rotate_left
                      ·rintro w' ⟨s0, s1, s2, s3, s4⟩
                       go_simp
                       with_reducible rfl
                      rotate_left
                      ·simp only [Act.put, List.setIfInBounds_toArray, List.set_cons_zero, List.set_cons_succ, i64_w, i32_w]
                       rfl
                      refine take_ (i := 6) (N := some 140) (v := ?_) (a' := ?_) #[true, true, true, true, true, true, true, false, false, false, false] rfl rfl (take_ofW HT_.out HW_.out (by kernel_rfl)) (fun _ _ _ h => h) (Or.inl ⟨by rfl, ?_⟩) hHeld ?_ ?_
                      rotate_left
                      ·rintro w' ⟨s0, s1, s2, s3, s4⟩
                       go_simp
                       with_reducible rfl
                      rotate_left
                      ·simp only [Act.put, List.setIfInBounds_toArray, List.set_cons_zero, List.set_cons_succ, i64_w, i32_w]
                       rfl
                      refine pure_ (i := 7) (N := some 141) (v := ?_) (a' := ?_) #[true, true, true, true, true, true, true, true, false, false, false] rfl rfl (any_of HT_.out (by kernel_rfl)) (fun _ _ _ h => h) (Or.inl ⟨by rfl, ?_⟩) ?_ ?_
                      rotate_left
                      ·intro w'
                       go_simp
                       with_reducible rfl
                      rotate_left
                      ·simp only [Act.put, List.setIfInBounds_toArray, List.set_cons_zero, List.set_cons_succ, i64_w, i32_w]
                       rfl
                      refine pure_ (i := 8) (N := some 142) (v := ?_) (a' := ?_) #[true, true, true, true, true, true, true, true, true, false, false] rfl rfl (any_of HT_.out (by kernel_rfl)) (fun _ _ _ h => h) (Or.inl ⟨by rfl, ?_⟩) ?_ ?_
                      rotate_left
                      ·intro w'
                       go_simp
                       with_reducible rfl
                      rotate_left
                      ·simp only [Act.put, List.setIfInBounds_toArray, List.set_cons_zero, List.set_cons_succ, i64_w, i32_w]
                       rfl
                      refine pure_ (i := 9) (N := some 143) (v := ?_) (a' := ?_) #[true, true, true, true, true, true, true, true, true, true, false] rfl rfl (any_of HT_.out (by kernel_rfl)) (fun _ _ _ h => h) (Or.inl ⟨by rfl, ?_⟩) ?_ ?_
                      rotate_left
                      ·intro w'
                       go_simp
                       with_reducible rfl
                      rotate_left
                      ·simp only [Act.put, List.setIfInBounds_toArray, List.set_cons_zero, List.set_cons_succ, i64_w, i32_w]
                       rfl
                      refine last_ (i := 10) (N := none) #[true, true, true, true, true, true, true, true, true, true, true] rfl rfl (one_of HT_.out (by kernel_rfl)) (by decide) (fun K hK => ?_)
                      refine skip_ (w1 := ?_) (by rfl) rfl ?_ ?_
                      rotate_left
                      ·go_simp
                       rfl
                      refine hK.out _ _ ?_
                      clear hK K
                      refine done_ (done_of HT_.out (by kernel_rfl)) ?_
                      try go_wp2
                      go_roundg k4
                      case measure => have := HJ1.out; have := HK2.out; have := HK3.out; have := HK4.out; omega
                      case rel => exact ⟨(y155), (wrap64 (x106_4 + 1)), (by first | rfl | (simp; done) | (simp [*]; done)), H', ⟨by have := HJ1.out; have := HK2.out; have := HK3.out; have := HK4.out; omega⟩, ⟨by (with_reducible repeat (first | apply Kd.S_alloc | apply Kd.S_drewN | apply Kd.S_drew)); exact HQ64.out⟩, ⟨by repeat (first | (with_reducible first | exact HB.out | apply below_alloc | apply pw_below_drewN | apply below_drew1 | refine below_set ?_ GB57.out | refine below_set ?_ GE148.out) | exact HB.out)⟩⟩
                     ·rw [if_neg c49] at H
                      exact absurd H (by simp)
                    ·rw [if_neg c48] at H
                     exact absurd H (by simp)
                   ·rw [if_neg c47] at H
                    exact absurd H (by simp)
                  ·rw [if_neg c44] at H
                   exact absurd H (by simp)
                 ·rw [if_neg c42] at H
                  exact absurd H (by simp)
                ·rw [if_neg c41] at H
                 exact absurd H (by simp)
               ·rw [if_neg c40] at H
                have c40b0 : decide (x106_4 < (l0.length : Int)) = false := decide_eq_false c40
                clear c40
                simp only [Option.some.injEq, Prod.mk.injEq] at H
                obtain ⟨rfl, rfl⟩ := H
                go_wp2
                go_ret2
                exact ⟨_, by first | rfl | (simp [errW_none, errW_some] <;> rfl) | (simp only [← hji15, ← hji17, ← hji18, ← hji20]; first | rfl | (simp [errW_none, errW_some] <;> rfl)) | (simp [*, errW_none, errW_some] <;> rfl), by (with_reducible repeat (first | apply Kd.S_alloc | apply Kd.S_drewN | apply Kd.S_drew)); exact HO_15.out, by repeat (first | (with_reducible first | exact HB.out | apply below_alloc | apply pw_below_drewN | apply below_drew1) | exact HB.out)⟩
            ·rw [if_neg c37] at H
             exact absurd H (by simp)
          ·rw [if_neg c19] at H
           exact absurd H (by simp)
       ·rw [if_neg c16] at H
        exact absurd H (by simp)

end Go.Proofs.Ytjbkagmfkcoclaa.XFnExactFairTeams
