-- Lean text written by a program of this session out of the translation
import Derived.Test.YtjbkagmfkcoclaaXFnExactNextMatchx0
import Derived.Test.YtjbkagmfkcoclaaXFnExactNextMatchx1
import Derived.Test.YtjbkagmfkcoclaaXFnExactNextMatchx2
import Derived.Test.YtjbkagmfkcoclaaXFnExactNextMatchx3
namespace Go.Proofs.Ytjbkagmfkcoclaa.XFnExactNextMatch
open Go.RowKit Go.Proofs.YtjbkagmfkcoclaaW.PrintWords Go.Proofs.YtjbkagmfkcoclaaW.PrintLast Go.Proofs.YtjbkagmfkcoclaaW.PrintMore
attribute [local go_sem] max2_int min2_int max_two min_two max_three min_three max_four min_four   -- for this text's walks alone
set_option linter.unusedVariables false
set_option linter.unusedSimpArgs false

/-! ### spec_NextMatch: function 28 -/
mutual
def spec_NextMatch.j0 : Nat → List (S106) → Int → Bool → Option (List ByteArray × Bool)
 | 0, _, _, _ => none
 | k + 1, x0, x1, x24 => if x24 = true then (some (([] : List ByteArray), false)) else (spec_NextMatch.l0 k x0 x1 x0 (x0.length : Int) 0)
def spec_NextMatch.l0 : Nat → List (S106) → Int → List (S106) → Int → Int → Option (List ByteArray × Bool)
 | 0, _, _, _, _, _ => none
 | k + 1, x0, x1, x25, x26, x27 => if x27 < x26 then (if 0 ≤ x27 then (if x27 < (x25.length : Int) then (if ((rd_T106 x25 x27).f2) > x1 then (some (([] : List ByteArray), false)) else (spec_NextMatch.l0 k x0 x1 x25 x26 (wrap64 (x27 + 1)))) else (none)) else (none)) else (spec_NextMatch.l1 k x0 x1 ([] : List ByteArray) 0 0 x0 (x0.length : Int) 0)
def spec_NextMatch.l1 : Nat → List (S106) → Int → List ByteArray → Int → Int → List (S106) → Int → Int → Option (List ByteArray × Bool)
 | 0, _, _, _, _, _, _, _, _ => none
 | k + 1, x0, x1, x8, x9, x10, x36, x37, x38 => if x38 < x37 then (if 0 ≤ x38 then (if x38 < (x36.length : Int) then (if 0 ≤ (wrap64 (x38 + 1)) then (if (wrap64 (x38 + 1)) ≤ (x0.length : Int) then ((some (x0.drop ((wrap64 (x38 + 1)) : Int).toNat : List (S106))).bind fun y122 => (spec_NextMatch.l2 k x0 x1 x8 x9 x10 x36 x37 x38 y122 (y122.length : Int) 0 ((rd_T106 x36 x38).f0) ((rd_T106 x36 x38).f1) ((rd_T106 x36 x38).f2))) else (none)) else (none)) else (none)) else (none)) else (some (x8, true))
def spec_NextMatch.l2 : Nat → List (S106) → Int → List ByteArray → Int → Int → List (S106) → Int → Int → List (S106) → Int → Int → ByteArray → Int → Int → Option (List ByteArray × Bool)
 | 0, _, _, _, _, _, _, _, _, _, _, _, _, _, _ => none
 | k + 1, x0, x1, x8, x9, x10, x36, x37, x38, x46, x47, x48, x122000, x122001, x122002 => if x48 < x47 then (if 0 ≤ x48 then (if x48 < (x46.length : Int) then ((spec_l1Abs.f (wrap64 (x122001 - ((rd_T106 x46 x48).f1)))).bind fun t128 => ((spec_l25Wide.f x122000 x122001 x122002 x1).bind fun t129 => (if t128 > t129 then (spec_NextMatch.j4 k x0 x1 x8 x9 x10 t128 (wrap64 (x122002 + ((rd_T106 x46 x48).f2))) x36 x37 x38 x46 x47 x48 true x122000 x122001 x122002 ((rd_T106 x46 x48).f0) ((rd_T106 x46 x48).f1) ((rd_T106 x46 x48).f2)) else ((spec_l25Wide.f ((rd_T106 x46 x48).f0) ((rd_T106 x46 x48).f1) ((rd_T106 x46 x48).f2) x1).bind fun t130 => (spec_NextMatch.j4 k x0 x1 x8 x9 x10 t128 (wrap64 (x122002 + ((rd_T106 x46 x48).f2))) x36 x37 x38 x46 x47 x48 (decide (t128 > t130)) x122000 x122001 x122002 ((rd_T106 x46 x48).f0) ((rd_T106 x46 x48).f1) ((rd_T106 x46 x48).f2)))))) else (none)) else (none)) else (spec_NextMatch.l1 k x0 x1 x8 x9 x10 x36 x37 (wrap64 (x38 + 1)))
def spec_NextMatch.j4 : Nat → List (S106) → Int → List ByteArray → Int → Int → Int → Int → List (S106) → Int → Int → List (S106) → Int → Int → Bool → ByteArray → Int → Int → ByteArray → Int → Int → Option (List ByteArray × Bool)
 | 0, _, _, _, _, _, _, _, _, _, _, _, _, _, _, _, _, _, _, _, _ => none
 | k + 1, x0, x1, x8, x9, x10, x15, x16, x36, x37, x38, x46, x47, x48, x74, x122000, x122001, x122002, x128000, x128001, x128002 => if x74 = true then (spec_NextMatch.l2 k x0 x1 x8 x9 x10 x36 x37 x38 x46 x47 (wrap64 (x48 + 1)) x122000 x122001 x122002) else (if (x8.length : Int) = 0 then (spec_NextMatch.l2 k x0 x1 (([x122000, x128000] : List ByteArray)) x16 x15 x36 x37 x38 x46 x47 (wrap64 (x48 + 1)) x122000 x122001 x122002) else (if x16 < x9 then (spec_NextMatch.l2 k x0 x1 (([x122000, x128000] : List ByteArray)) x16 x15 x36 x37 x38 x46 x47 (wrap64 (x48 + 1)) x122000 x122001 x122002) else (if x16 = x9 then (if x15 < x10 then (spec_NextMatch.l2 k x0 x1 (([x122000, x128000] : List ByteArray)) x16 x15 x36 x37 x38 x46 x47 (wrap64 (x48 + 1)) x122000 x122001 x122002) else (spec_NextMatch.l2 k x0 x1 x8 x9 x10 x36 x37 x38 x46 x47 (wrap64 (x48 + 1)) x122000 x122001 x122002)) else (spec_NextMatch.l2 k x0 x1 x8 x9 x10 x36 x37 x38 x46 x47 (wrap64 (x48 + 1)) x122000 x122001 x122002))))
end
def spec_NextMatch.f (k : Nat) (l0 : List (S106)) (a1 : Int) : Option (List ByteArray × Bool) := (spec_GoodPlayers.f k l0).bind fun t116 => (if t116 = true then ((spec_l1In.f a1 0 100000).bind fun t117 => (spec_NextMatch.j0 k l0 a1 (!t117))) else (spec_NextMatch.j0 k l0 a1 true))
theorem spec_NextMatch.mono_l : ∀ k, (∀ y0 y1 y2, LeO (spec_NextMatch.j0 k y0 y1 y2) (spec_NextMatch.j0 (k + 1) y0 y1 y2)) ∧ (∀ y0 y1 y2 y3 y4, LeO (spec_NextMatch.l0 k y0 y1 y2 y3 y4) (spec_NextMatch.l0 (k + 1) y0 y1 y2 y3 y4)) ∧ (∀ y0 y1 y2 y3 y4 y5 y6 y7, LeO (spec_NextMatch.l1 k y0 y1 y2 y3 y4 y5 y6 y7) (spec_NextMatch.l1 (k + 1) y0 y1 y2 y3 y4 y5 y6 y7)) ∧ (∀ y0 y1 y2 y3 y4 y5 y6 y7 y8 y9 y10 y11 y12 y13, LeO (spec_NextMatch.l2 k y0 y1 y2 y3 y4 y5 y6 y7 y8 y9 y10 y11 y12 y13) (spec_NextMatch.l2 (k + 1) y0 y1 y2 y3 y4 y5 y6 y7 y8 y9 y10 y11 y12 y13)) ∧ (∀ y0 y1 y2 y3 y4 y5 y6 y7 y8 y9 y10 y11 y12 y13 y14 y15 y16 y17 y18 y19, LeO (spec_NextMatch.j4 k y0 y1 y2 y3 y4 y5 y6 y7 y8 y9 y10 y11 y12 y13 y14 y15 y16 y17 y18 y19) (spec_NextMatch.j4 (k + 1) y0 y1 y2 y3 y4 y5 y6 y7 y8 y9 y10 y11 y12 y13 y14 y15 y16 y17 y18 y19))
 | 0 => ⟨fun _ _ _ r h => by simp [spec_NextMatch.j0] at h, fun _ _ _ _ _ r h => by simp [spec_NextMatch.l0] at h, fun _ _ _ _ _ _ _ _ r h => by simp [spec_NextMatch.l1] at h, fun _ _ _ _ _ _ _ _ _ _ _ _ _ _ r h => by simp [spec_NextMatch.l2] at h, fun _ _ _ _ _ _ _ _ _ _ _ _ _ _ _ _ _ _ _ _ r h => by simp [spec_NextMatch.j4] at h⟩
 | k + 1 => by
  obtain ⟨ih0, ih1, ih2, ih3, ih4⟩ := spec_NextMatch.mono_l k
  refine ⟨?_, ?_, ?_, ?_, ?_⟩
  ·intro y0 y1 y2
   unfold spec_NextMatch.j0
   repeat' first
   | (with_reducible exact ih0 _ _ _)
   | (with_reducible exact ih1 _ _ _ _ _)
   | (with_reducible exact ih2 _ _ _ _ _ _ _ _)
   | (with_reducible exact ih3 _ _ _ _ _ _ _ _ _ _ _ _ _ _)
   | (with_reducible exact ih4 _ _ _ _ _ _ _ _ _ _ _ _ _ _ _ _ _ _ _ _)
   | (with_reducible exact spec_GoodPlayers.mono _ _)
   | (with_reducible exact LeO.refl _)
   | (with_reducible exact LeO.none _)
   | (with_reducible refine LeO.ite ?_ ?_)
   | (with_reducible refine LeO.bind ?_ (fun _ => ?_))
   | exact ih0 _ _ _
   | exact ih1 _ _ _ _ _
   | exact ih2 _ _ _ _ _ _ _ _
   | exact ih3 _ _ _ _ _ _ _ _ _ _ _ _ _ _
   | exact ih4 _ _ _ _ _ _ _ _ _ _ _ _ _ _ _ _ _ _ _ _
   | exact spec_GoodPlayers.mono _ _
   | exact LeO.none _
   | refine LeO.ite ?_ ?_
   | refine LeO.bind ?_ (fun _ => ?_)
  ·intro y0 y1 y2 y3 y4
   unfold spec_NextMatch.l0
   repeat' first
   | (with_reducible exact ih0 _ _ _)
   | (with_reducible exact ih1 _ _ _ _ _)
   | (with_reducible exact ih2 _ _ _ _ _ _ _ _)
   | (with_reducible exact ih3 _ _ _ _ _ _ _ _ _ _ _ _ _ _)
   | (with_reducible exact ih4 _ _ _ _ _ _ _ _ _ _ _ _ _ _ _ _ _ _ _ _)
   | (with_reducible exact spec_GoodPlayers.mono _ _)
   | (with_reducible exact LeO.refl _)
   | (with_reducible exact LeO.none _)
   | (with_reducible refine LeO.ite ?_ ?_)
   | (with_reducible refine LeO.bind ?_ (fun _ => ?_))
   | exact ih0 _ _ _
   | exact ih1 _ _ _ _ _
   | exact ih2 _ _ _ _ _ _ _ _
   | exact ih3 _ _ _ _ _ _ _ _ _ _ _ _ _ _
   | exact ih4 _ _ _ _ _ _ _ _ _ _ _ _ _ _ _ _ _ _ _ _
   | exact spec_GoodPlayers.mono _ _
   | exact LeO.none _
   | refine LeO.ite ?_ ?_
   | refine LeO.bind ?_ (fun _ => ?_)
  ·intro y0 y1 y2 y3 y4 y5 y6 y7
   unfold spec_NextMatch.l1
   repeat' first
   | (with_reducible exact ih0 _ _ _)
   | (with_reducible exact ih1 _ _ _ _ _)
   | (with_reducible exact ih2 _ _ _ _ _ _ _ _)
   | (with_reducible exact ih3 _ _ _ _ _ _ _ _ _ _ _ _ _ _)
   | (with_reducible exact ih4 _ _ _ _ _ _ _ _ _ _ _ _ _ _ _ _ _ _ _ _)
   | (with_reducible exact spec_GoodPlayers.mono _ _)
   | (with_reducible exact LeO.refl _)
   | (with_reducible exact LeO.none _)
   | (with_reducible refine LeO.ite ?_ ?_)
   | (with_reducible refine LeO.bind ?_ (fun _ => ?_))
   | exact ih0 _ _ _
   | exact ih1 _ _ _ _ _
   | exact ih2 _ _ _ _ _ _ _ _
   | exact ih3 _ _ _ _ _ _ _ _ _ _ _ _ _ _
   | exact ih4 _ _ _ _ _ _ _ _ _ _ _ _ _ _ _ _ _ _ _ _
   | exact spec_GoodPlayers.mono _ _
   | exact LeO.none _
   | refine LeO.ite ?_ ?_
   | refine LeO.bind ?_ (fun _ => ?_)
  ·intro y0 y1 y2 y3 y4 y5 y6 y7 y8 y9 y10 y11 y12 y13
   unfold spec_NextMatch.l2
   repeat' first
   | (with_reducible exact ih0 _ _ _)
   | (with_reducible exact ih1 _ _ _ _ _)
   | (with_reducible exact ih2 _ _ _ _ _ _ _ _)
   | (with_reducible exact ih3 _ _ _ _ _ _ _ _ _ _ _ _ _ _)
   | (with_reducible exact ih4 _ _ _ _ _ _ _ _ _ _ _ _ _ _ _ _ _ _ _ _)
   | (with_reducible exact spec_GoodPlayers.mono _ _)
   | (with_reducible exact LeO.refl _)
   | (with_reducible exact LeO.none _)
   | (with_reducible refine LeO.ite ?_ ?_)
   | (with_reducible refine LeO.bind ?_ (fun _ => ?_))
   | exact ih0 _ _ _
   | exact ih1 _ _ _ _ _
   | exact ih2 _ _ _ _ _ _ _ _
   | exact ih3 _ _ _ _ _ _ _ _ _ _ _ _ _ _
   | exact ih4 _ _ _ _ _ _ _ _ _ _ _ _ _ _ _ _ _ _ _ _
   | exact spec_GoodPlayers.mono _ _
   | exact LeO.none _
   | refine LeO.ite ?_ ?_
   | refine LeO.bind ?_ (fun _ => ?_)
  ·intro y0 y1 y2 y3 y4 y5 y6 y7 y8 y9 y10 y11 y12 y13 y14 y15 y16 y17 y18 y19
   unfold spec_NextMatch.j4
   repeat' first
   | (with_reducible exact ih0 _ _ _)
   | (with_reducible exact ih1 _ _ _ _ _)
   | (with_reducible exact ih2 _ _ _ _ _ _ _ _)
   | (with_reducible exact ih3 _ _ _ _ _ _ _ _ _ _ _ _ _ _)
   | (with_reducible exact ih4 _ _ _ _ _ _ _ _ _ _ _ _ _ _ _ _ _ _ _ _)
   | (with_reducible exact spec_GoodPlayers.mono _ _)
   | (with_reducible exact LeO.refl _)
   | (with_reducible exact LeO.none _)
   | (with_reducible refine LeO.ite ?_ ?_)
   | (with_reducible refine LeO.bind ?_ (fun _ => ?_))
   | exact ih0 _ _ _
   | exact ih1 _ _ _ _ _
   | exact ih2 _ _ _ _ _ _ _ _
   | exact ih3 _ _ _ _ _ _ _ _ _ _ _ _ _ _
   | exact ih4 _ _ _ _ _ _ _ _ _ _ _ _ _ _ _ _ _ _ _ _
   | exact spec_GoodPlayers.mono _ _
   | exact LeO.none _
   | refine LeO.ite ?_ ?_
   | refine LeO.bind ?_ (fun _ => ?_)
theorem spec_NextMatch.mono : ∀ a0 a1 k, LeO (spec_NextMatch.f k a0 a1) (spec_NextMatch.f (k + 1) a0 a1) := by
 intro a0 a1 k
 obtain ⟨ih0, ih1, ih2, ih3, ih4⟩ := spec_NextMatch.mono_l k
 unfold spec_NextMatch.f
 repeat' first
   | (with_reducible exact ih0 _ _ _)
   | (with_reducible exact ih1 _ _ _ _ _)
   | (with_reducible exact ih2 _ _ _ _ _ _ _ _)
   | (with_reducible exact ih3 _ _ _ _ _ _ _ _ _ _ _ _ _ _)
   | (with_reducible exact ih4 _ _ _ _ _ _ _ _ _ _ _ _ _ _ _ _ _ _ _ _)
   | (with_reducible exact spec_GoodPlayers.mono _ _)
   | (with_reducible exact LeO.refl _)
   | (with_reducible exact LeO.none _)
   | (with_reducible refine LeO.ite ?_ ?_)
   | (with_reducible refine LeO.bind ?_ (fun _ => ?_))
   | exact ih0 _ _ _
   | exact ih1 _ _ _ _ _
   | exact ih2 _ _ _ _ _ _ _ _
   | exact ih3 _ _ _ _ _ _ _ _ _ _ _ _ _ _
   | exact ih4 _ _ _ _ _ _ _ _ _ _ _ _ _ _ _ _ _ _ _ _
   | exact spec_GoodPlayers.mono _ _
   | exact LeO.none _
   | refine LeO.ite ?_ ?_
   | refine LeO.bind ?_ (fun _ => ?_)
set_option maxHeartbeats 8000000 in
set_option maxRecDepth 100000 in
theorem spec_NextMatch.calls (k : Nat) (A0 : Option Addr) (c0 : Nat) (l0 : List (S106)) (a1 : Int) (r1 : List ByteArray) (r2 : Bool) (w : World) (hr0 : Kd.C k106 w A0 l0.length l0) (hc0 : l0.length ≤ c0) (h : spec_NextMatch.f k l0 a1 = some (r1, r2)) :
  Calls Try.prog 28 #[.slice A0 l0.length c0, .int .i64 a1] w fun e w' => ∃ v0_ : Value, e = .returned (.tuple #[v0_, .bool r2]) ∧ Kd.R Kd.string 9 w' w.heap.size (fun _ => True) v0_ r1 ∧ Below w.heap.size w w' := by
 have hu106 := Try.underlying106
 have HR0 := Aside0.mk hr0
 have HC0 := Aside0.mk hc0
 clear hr0 hc0
 have HB := Aside0.mk (Below.refl w.heap.size w)
 have H : ((spec_GoodPlayers.f k l0).bind fun t116 => (if t116 = true then ((spec_l1In.f a1 0 100000).bind fun t117 => (spec_NextMatch.j0 k l0 a1 (!t117))) else (spec_NextMatch.j0 k l0 a1 true))) = some (r1, r2) := h
 clear h
 have HC3 := Aside0.mk H
 clear H
 go_enter Try.func28, Try.ntmps28
 go_upto_region 1 with (fail)
 go_cut [24] (fun v24 wc => ∃ (kq : Nat) (x24_2 : Bool), v24 = .bool x24_2 ∧ Aside0 (spec_NextMatch.j0 kq l0 a1 x24_2 = some (r1, r2)) ∧ Aside0 (kq ≤ k) ∧ Aside0 (Below w.heap.size w wc))
 case first =>
  have H := HC3.out
  clear HC3
  replace H := Option.bind_eq_some_iff.mp H
  obtain ⟨t116, A40, H⟩ := H
  replace H : (if t116 = true then ((spec_l1In.f a1 0 100000).bind fun t117 => (spec_NextMatch.j0 k l0 a1 (!t117))) else (spec_NextMatch.j0 k l0 a1 true)) = some (r1, r2) := H
  have A4 := Aside0.mk A40
  clear A40
  by_cases c5 : t116 = true
  ·subst c5
   have H1 : ((spec_l1In.f a1 0 100000).bind fun t117 => (spec_NextMatch.j0 k l0 a1 (!t117))) = some (r1, r2) := by rw [if_pos rfl] at H; exact H
   clear H
   have H := H1
   clear H1
   replace H := Option.bind_eq_some_iff.mp H
   obtain ⟨t117, A60, H⟩ := H
   replace H : (spec_NextMatch.j0 k l0 a1 (!t117)) = some (r1, r2) := H
   have A6 := Aside0.mk A60
   clear A60
   have H' := Aside0.mk H
   clear H
   go_wp2_with (first | ((with_reducible refine gate_callee (f := 69) rfl ?_); refine goesL_ (some 18) rfl rfl Try.func69 (by kernel_rfl) rfl #[.slice A0 l0.length c0] rfl (by (try simp only [List.map_toArray, List.map_cons, List.map_nil]); first | done | rfl | (simp only [List.length_drop, List.length_take]; rfl)) ?_; (with_reducible refine (spec_GoodPlayers.calls k _ _ l0 true _ ?side1 ?side2 A4.out).mono ?_); (case side1 => repeat (first | exact (Kd.C_below HR0.out HB.out) | (with_reducible refine Kd.C_alloc ?_ _) | (with_reducible refine Kd.C_drewN ?_ _) | (with_reducible refine Kd.C_drew ?_))); (case side2 => exact HC0.out); rintro e w7 ⟨rfl, hb⟩; refine ⟨_, rfl, ?_⟩; have n0_ := Aside0.mk (below_step (by repeat (first | (with_reducible first | exact HB.out | apply below_alloc | apply pw_below_drewN | apply below_drew1) | exact HB.out)) hb); clear HB; have HB := n0_; clear n0_; (try clear hb); (try clear hb2); (try clear hk); (try clear hi)) | (go_at_call 70; (with_reducible refine (spec_l1In.calls a1 0 100000 t117 _ A6.out).mono ?_); rintro e w' ⟨rfl, ⟨nd, rfl⟩⟩))
   go_meet
   case rel => exact ⟨_, (!t117), (by first | rfl | (simp; done) | (simp [*]; done)), H', ⟨by first | omega | exact Nat.le_refl _⟩, ⟨by repeat (first | (with_reducible first | exact HB.out | apply below_alloc | apply pw_below_drewN | apply below_drew1) | exact HB.out)⟩⟩
  ·replace c5 := Bool.eq_false_iff.mpr c5
   subst c5
   have H1 : (spec_NextMatch.j0 k l0 a1 true) = some (r1, r2) := by rw [if_neg (show ¬ (false = true) by decide)] at H; exact H
   clear H
   have H := H1
   clear H1
   have H' := Aside0.mk H
   clear H
   go_wp2_with (first | ((with_reducible refine gate_callee (f := 69) rfl ?_); refine goesL_ (some 18) rfl rfl Try.func69 (by kernel_rfl) rfl #[.slice A0 l0.length c0] rfl (by (try simp only [List.map_toArray, List.map_cons, List.map_nil]); first | done | rfl | (simp only [List.length_drop, List.length_take]; rfl)) ?_; (with_reducible refine (spec_GoodPlayers.calls k _ _ l0 false _ ?side1 ?side2 A4.out).mono ?_); (case side1 => repeat (first | exact (Kd.C_below HR0.out HB.out) | (with_reducible refine Kd.C_alloc ?_ _) | (with_reducible refine Kd.C_drewN ?_ _) | (with_reducible refine Kd.C_drew ?_))); (case side2 => exact HC0.out); rintro e w8 ⟨rfl, hb⟩; refine ⟨_, rfl, ?_⟩; have n0_ := Aside0.mk (below_step (by repeat (first | (with_reducible first | exact HB.out | apply below_alloc | apply pw_below_drewN | apply below_drew1) | exact HB.out)) hb); clear HB; have HB := n0_; clear n0_; (try clear hb); (try clear hb2); (try clear hk); (try clear hi)))
   go_meet
   case rel => exact ⟨_, (true), (by first | rfl | (simp; done) | (simp [*]; done)), H', ⟨by first | omega | exact Nat.le_refl _⟩, ⟨by repeat (first | (with_reducible first | exact HB.out | apply below_alloc | apply pw_below_drewN | apply below_drew1) | exact HB.out)⟩⟩
 case rest =>
  clear HC3
  try clear c2
  try clear p2
  try clear c5
  try clear c6
  obtain ⟨kq, x24_2, rfl, HA, HJ2, HB⟩ := hcut
  cases kq with
  | zero => exact absurd HA.out (by simp [spec_NextMatch.j0])
  | succ kj2 =>
   have H := HA.out
   clear HA
   simp only [spec_NextMatch.j0] at H
   by_cases c9 : x24_2 = true
   ·subst c9
    have H1 : (some (([] : List ByteArray), false)) = some (r1, r2) := by rw [if_pos rfl] at H; exact H
    clear H
    have H := H1
    clear H1
    simp only [Option.some.injEq, Prod.mk.injEq] at H
    obtain ⟨rfl, rfl⟩ := H
    go_wp2
    go_ret2
    exact ⟨_, by first | rfl | (simp [errW_none, errW_some] <;> rfl) | (simp [*, errW_none, errW_some] <;> rfl), by first | exact Kd.R_nil _ _ _ _ _ | exact Kd.N_nil _ _ _ _ _ | exact Kd.V_nil _ _ _ _ _ | exact Kd.Q_nil _ _ _ _ _ | exact Kd.S_nil _ _ _ _ _, by repeat (first | (with_reducible first | exact HB.out | apply below_alloc | apply pw_below_drewN | apply below_drew1) | exact HB.out)⟩
   ·replace c9 := Bool.eq_false_iff.mpr c9
    subst c9
    have H1 : (spec_NextMatch.l0 kj2 l0 a1 l0 (l0.length : Int) 0) = some (r1, r2) := by rw [if_neg (show ¬ (false = true) by decide)] at H; exact H
    clear H
    have H := H1
    clear H1
    have H' := Aside0.mk H
    clear H
    go_wp2
    go_loopg [27] kj2 (fun kq v27 w' => ∃ (x27_2 : Int), v27 = .int .i64 x27_2 ∧ Aside0 (spec_NextMatch.l0 kq l0 a1 l0 (l0.length : Int) x27_2 = some (r1, r2)) ∧ Aside0 (kq ≤ kj2) ∧ Aside0 (Below w.heap.size w w'))
    case atStart => exact ⟨(0), (by first | rfl | (simp; done) | (simp [*]; done)), H', ⟨Nat.le_refl _⟩, ⟨by repeat (first | (with_reducible first | exact HB.out | apply below_alloc | apply pw_below_drewN | apply below_drew1) | exact HB.out)⟩⟩
    case round =>
     clear H'
     try clear c2
     try clear p2
     try clear c5
     try clear c6
     try clear c9
     try clear p2
     obtain ⟨x27_2, rfl, HA, HK2, HB⟩ := hrel
     cases gk with
     | zero => exact absurd HA.out (by simp [spec_NextMatch.l0])
     | succ k2 =>
      have H := HA.out
      clear HA
      simp only [spec_NextMatch.l0] at H
      by_cases c10 : x27_2 < (l0.length : Int)
      ·rw [if_pos c10] at H
       have c10b0 : decide (x27_2 < (l0.length : Int)) = true := decide_eq_true c10
       clear c10
       by_cases c11 : 0 ≤ x27_2
       ·rw [if_pos c11] at H
        have c11b0 : decide (0 ≤ x27_2) = true := decide_eq_true c11
        clear c11
        by_cases c12 : x27_2 < (l0.length : Int)
        ·rw [if_pos c12] at H
         have c12b0 : decide (x27_2 < (l0.length : Int)) = true := decide_eq_true c12
         clear c12
         by_cases c13 : ((rd_T106 l0 x27_2).f2) > a1
         ·rw [if_pos c13] at H
          have c13b0 : decide (a1 < ((rd_T106 l0 x27_2).f2)) = true := decide_eq_true c13
          clear c13
          simp only [Option.some.injEq, Prod.mk.injEq] at H
          obtain ⟨rfl, rfl⟩ := H
          have p118 : 0 ≤ (x27_2 : Int) := of_decide_eq_true (by first | (with_reducible assumption) | assumption)
          have q118 : x27_2 < (l0.length : Int) := of_decide_eq_true (by first | (with_reducible assumption) | assumption)
          obtain ⟨ad118, e118, hx118_0, hx118_1, hx118_2⟩ := at_T106 HR0.out x27_2 p118 q118
          cases e118
          replace hx118_0 := (HB.out.cell (World.block_lt_of_cell? w _ hx118_0)).trans hx118_0
          replace hx118_1 := (HB.out.cell (World.block_lt_of_cell? w _ hx118_1)).trans hx118_1
          replace hx118_2 := (HB.out.cell (World.block_lt_of_cell? w _ hx118_2)).trans hx118_2
          replace p118 := eq_true p118
          replace q118 := eq_true q118
          go_wp2_with (first | ((with_reducible refine gate_dst (N := 7) rfl ?_); refine box_event ?hg (N := 7) ?hd (cs := #[.string (⟨#[]⟩ : ByteArray), .int .i64 0, .int .i64 0]) (t := 106) ?hr ?_; (case hd => rfl); (case hg => rfl); (case hr => first | (go_simp; done) | (go_simp; rfl)); intro gb119 hg w14 hbox hb; have n0_ := Aside0.mk (below_step (by repeat (first | (with_reducible first | exact HB.out | apply below_alloc | apply pw_below_drewN | apply below_drew1) | exact HB.out)) hb); have n1_ := Aside0.mk (hbox); have n2_ := Aside0.mk ((by rw [hg]; exact (below_size (by repeat (first | (with_reducible first | exact HB.out | apply below_alloc | apply pw_below_drewN | apply below_drew1) | exact HB.out))) : w.heap.size ≤ gb119)); have n3_ := Aside0.mk ((by rw [hg]; exact (below_size (by repeat (first | (with_reducible first | exact HB.out | apply below_alloc | apply pw_below_drewN | apply below_drew1) | exact HB.out))) : w.heap.size ≤ gb119)); clear HB; have HB := n0_; have BK119 := n1_; have GW119 := n2_; have GE119 := n3_; clear n0_ n1_ n2_ n3_; clear hb hbox hg; have hcz15_0 : w14.cell? ⟨gb119, 0, none⟩ = some (.string (⟨#[]⟩ : ByteArray)) := (blk_cell BK119.out 0).trans rfl; have hcz15_1 : w14.cell? ⟨gb119, 1, none⟩ = some (.int .i64 0) := (blk_cell BK119.out 1).trans rfl; have hcz15_2 : w14.cell? ⟨gb119, 2, none⟩ = some (.int .i64 0) := (blk_cell BK119.out 2).trans rfl; have hfz15_0 := blk_frozen BK119.out 0; have hfz15_1 := blk_frozen BK119.out 1; have hfz15_2 := blk_frozen BK119.out 2))
          go_ret2
          exact ⟨_, by first | rfl | (simp [errW_none, errW_some] <;> rfl) | (simp [*, errW_none, errW_some] <;> rfl), by first | exact Kd.R_nil _ _ _ _ _ | exact Kd.N_nil _ _ _ _ _ | exact Kd.V_nil _ _ _ _ _ | exact Kd.Q_nil _ _ _ _ _ | exact Kd.S_nil _ _ _ _ _, by repeat (first | (with_reducible first | exact HB.out | apply below_alloc | apply pw_below_drewN | apply below_drew1 | refine below_set ?_ GE119.out) | exact HB.out)⟩
         ·rw [if_neg c13] at H
          have c13b0 : decide (a1 < ((rd_T106 l0 x27_2).f2)) = false := decide_eq_false c13
          clear c13
          have H' := Aside0.mk H
          clear H
          have p118 : 0 ≤ (x27_2 : Int) := of_decide_eq_true (by first | (with_reducible assumption) | assumption)
          have q118 : x27_2 < (l0.length : Int) := of_decide_eq_true (by first | (with_reducible assumption) | assumption)
          obtain ⟨ad118, e118, hx118_0, hx118_1, hx118_2⟩ := at_T106 HR0.out x27_2 p118 q118
          cases e118
          replace hx118_0 := (HB.out.cell (World.block_lt_of_cell? w _ hx118_0)).trans hx118_0
          replace hx118_1 := (HB.out.cell (World.block_lt_of_cell? w _ hx118_1)).trans hx118_1
          replace hx118_2 := (HB.out.cell (World.block_lt_of_cell? w _ hx118_2)).trans hx118_2
          replace p118 := eq_true p118
          replace q118 := eq_true q118
          go_wp2_with (first | ((with_reducible refine gate_dst (N := 7) rfl ?_); refine box_event ?hg (N := 7) ?hd (cs := #[.string (⟨#[]⟩ : ByteArray), .int .i64 0, .int .i64 0]) (t := 106) ?hr ?_; (case hd => rfl); (case hg => rfl); (case hr => first | (go_simp; done) | (go_simp; rfl)); intro gb119 hg w16 hbox hb; have n0_ := Aside0.mk (below_step (by repeat (first | (with_reducible first | exact HB.out | apply below_alloc | apply pw_below_drewN | apply below_drew1) | exact HB.out)) hb); have n1_ := Aside0.mk (hbox); have n2_ := Aside0.mk ((by rw [hg]; exact (below_size (by repeat (first | (with_reducible first | exact HB.out | apply below_alloc | apply pw_below_drewN | apply below_drew1) | exact HB.out))) : w.heap.size ≤ gb119)); have n3_ := Aside0.mk ((by rw [hg]; exact (below_size (by repeat (first | (with_reducible first | exact HB.out | apply below_alloc | apply pw_below_drewN | apply below_drew1) | exact HB.out))) : w.heap.size ≤ gb119)); clear HB; have HB := n0_; have BK119 := n1_; have GW119 := n2_; have GE119 := n3_; clear n0_ n1_ n2_ n3_; clear hb hbox hg; have hcz17_0 : w16.cell? ⟨gb119, 0, none⟩ = some (.string (⟨#[]⟩ : ByteArray)) := (blk_cell BK119.out 0).trans rfl; have hcz17_1 : w16.cell? ⟨gb119, 1, none⟩ = some (.int .i64 0) := (blk_cell BK119.out 1).trans rfl; have hcz17_2 : w16.cell? ⟨gb119, 2, none⟩ = some (.int .i64 0) := (blk_cell BK119.out 2).trans rfl; have hfz17_0 := blk_frozen BK119.out 0; have hfz17_1 := blk_frozen BK119.out 1; have hfz17_2 := blk_frozen BK119.out 2))
          go_roundg k2
          case measure => have := HJ2.out; have := HK2.out; omega
          case rel => exact ⟨(wrap64 (x27_2 + 1)), (by first | rfl | (simp; done) | (simp [*]; done)), H', ⟨by have := HJ2.out; have := HK2.out; omega⟩, ⟨by repeat (first | (with_reducible first | exact HB.out | apply below_alloc | apply pw_below_drewN | apply below_drew1 | refine below_set ?_ GE119.out) | exact HB.out)⟩⟩
        ·rw [if_neg c12] at H
         exact absurd H (by simp)
       ·rw [if_neg c11] at H
        exact absurd H (by simp)
      ·rw [if_neg c10] at H
       have c10b0 : decide (x27_2 < (l0.length : Int)) = false := decide_eq_false c10
       clear c10
       have H' := Aside0.mk H
       clear H
       go_wp2
       go_loopg [8, 9, 10, 38] k2 (fun kq v8 v9 v10 v38 w' => ∃ (x8_3 : List ByteArray) (x9_3 : Int) (x10_3 : Int) (x38_3 : Int), v9 = .int .i64 x9_3 ∧ v10 = .int .i64 x10_3 ∧ v38 = .int .i64 x38_3 ∧ Aside0 (spec_NextMatch.l1 kq l0 a1 x8_3 x9_3 x10_3 l0 (l0.length : Int) x38_3 = some (r1, r2)) ∧ Aside0 (kq ≤ k2) ∧ Aside0 (Kd.R Kd.string 9 w' w.heap.size (fun _ => True) v8 x8_3) ∧ Aside0 (Below w.heap.size w w'))
       case atStart => exact ⟨(([] : List ByteArray)), (0), (0), (0), (by first | rfl | (simp; done) | (simp [*]; done)), (by first | rfl | (simp; done) | (simp [*]; done)), (by first | rfl | (simp; done) | (simp [*]; done)), H', ⟨Nat.le_refl _⟩, ⟨by first | exact Kd.R_nil _ _ _ _ _ | exact Kd.N_nil _ _ _ _ _ | exact Kd.V_nil _ _ _ _ _ | exact Kd.Q_nil _ _ _ _ _ | exact Kd.S_nil _ _ _ _ _⟩, ⟨by repeat (first | (with_reducible first | exact HB.out | apply below_alloc | apply pw_below_drewN | apply below_drew1) | exact HB.out)⟩⟩
       case round =>
        clear H'
        try clear c1
        try clear p1
        try clear q1
        try clear hx1
        try clear c2
        try clear p2
        try clear c5
        try clear c6
        try clear p6
        try clear c9
        try clear c10
        try clear c10b0
        try clear c11
        try clear c11b0
        try clear p11
        try clear q11
        try clear hx11
        try clear c12
        try clear c12b0
        try clear c13
        try clear c13b0
        try clear hcz15_0
        try clear hcz15_1
        try clear hcz15_2
        try clear hcz17_0
        try clear hcz17_1
        try clear hcz17_2
        try clear hfz15_0
        try clear hfz15_1
        try clear hfz15_2
        try clear hfz17_0
        try clear hfz17_1
        try clear hfz17_2
        try clear hx118_0
        try clear hx118_1
        try clear hx118_2
        try clear p118
        try clear p2
        try clear q118
        obtain ⟨x8_3, x9_3, x10_3, x38_3, rfl, rfl, rfl, HA, HK3, HO_8, HB⟩ := hrel
        cases gk with
        | zero => exact absurd HA.out (by simp [spec_NextMatch.l1])
        | succ k3 =>
         have H := HA.out
         clear HA
         simp only [spec_NextMatch.l1] at H
         by_cases c18 : x38_3 < (l0.length : Int)
         ·rw [if_pos c18] at H
          have c18b0 : decide (x38_3 < (l0.length : Int)) = true := decide_eq_true c18
          clear c18
          by_cases c19 : 0 ≤ x38_3
          ·rw [if_pos c19] at H
           have c19b0 : decide (0 ≤ x38_3) = true := decide_eq_true c19
           clear c19
           by_cases c20 : x38_3 < (l0.length : Int)
           ·rw [if_pos c20] at H
            have c20b0 : decide (x38_3 < (l0.length : Int)) = true := decide_eq_true c20
            clear c20
            obtain ⟨ji21, hji21⟩ : ∃ j_ : Int, (wrap64 (x38_3 + 1)) = j_ := ⟨_, rfl⟩
            replace H : (if 0 ≤ (ji21) then (if (ji21) ≤ (l0.length : Int) then ((some (l0.drop ((ji21) : Int).toNat : List (S106))).bind fun y122 => (spec_NextMatch.l2 k3 l0 a1 x8_3 x9_3 x10_3 l0 (l0.length : Int) x38_3 y122 (y122.length : Int) 0 ((rd_T106 l0 x38_3).f0) ((rd_T106 l0 x38_3).f1) ((rd_T106 l0 x38_3).f2))) else (none)) else (none)) = some (r1, r2) := by first | (rw [hji21] at H; exact H) | (simp only [hji21] at H ⊢; exact H)
            have hji21w : (IntKind.i64.wrap (x38_3 + 1)) = ji21 := (i64_w _).trans hji21
            by_cases c22 : 0 ≤ (ji21)
            ·rw [if_pos c22] at H
             have c22b0 := eq_true c22
             have c22b1 : decide (0 ≤ (ji21)) = true := decide_eq_true c22
             clear c22
             by_cases c23 : (ji21) ≤ (l0.length : Int)
             ·rw [if_pos c23] at H
              have c23b0 := eq_true c23
              have c23b1 : decide ((ji21) ≤ (l0.length : Int)) = true := decide_eq_true c23
              clear c23
              obtain ⟨y122, hy122⟩ : ∃ y_ : List (S106), y_ = (l0.drop ((ji21) : Int).toNat) := ⟨_, rfl⟩
              replace H : (spec_NextMatch.l2 k3 l0 a1 x8_3 x9_3 x10_3 l0 (l0.length : Int) x38_3 y122 (y122.length : Int) 0 ((rd_T106 l0 x38_3).f0) ((rd_T106 l0 x38_3).f1) ((rd_T106 l0 x38_3).f2)) = some (r1, r2) := by first | (rw [hy122]; with_reducible exact H) | (have H2_ := (Option.bind_some _ _).symm.trans H; rw [hy122]; with_reducible exact H2_) | (have H2_ := (Option.bind_some _ _).symm.trans H; with_reducible exact H2_) | with_reducible exact H | (rw [hy122]; exact H) | exact H
              have Ny122 := Aside0.mk hy122
              clear hy122
              have H' := Aside0.mk H
              clear H
              have p120 : 0 ≤ (x38_3 : Int) := of_decide_eq_true (by first | (with_reducible assumption) | assumption)
              have q120 : x38_3 < (l0.length : Int) := of_decide_eq_true (by first | (with_reducible assumption) | assumption)
              obtain ⟨ad120, e120, hx120_0, hx120_1, hx120_2⟩ := at_T106 HR0.out x38_3 p120 q120
              cases e120
              replace hx120_0 := (HB.out.cell (World.block_lt_of_cell? w _ hx120_0)).trans hx120_0
              replace hx120_1 := (HB.out.cell (World.block_lt_of_cell? w _ hx120_1)).trans hx120_1
              replace hx120_2 := (HB.out.cell (World.block_lt_of_cell? w _ hx120_2)).trans hx120_2
              replace p120 := eq_true p120
              replace q120 := eq_true q120
              go_wp2_with (first | ((with_reducible refine gate_dst (N := 12) rfl ?_); refine box_event ?hg (N := 12) ?hd (cs := #[.string (⟨#[]⟩ : ByteArray), .int .i64 0, .int .i64 0]) (t := 106) ?hr ?_; (case hd => rfl); (case hg => rfl); (case hr => first | (go_simp; done) | (go_simp; rfl)); intro gb121 hg w24 hbox hb; have n0_ := Aside0.mk (Kd.R_below (by (with_reducible repeat (first | apply Kd.R_alloc | apply Kd.R_drewN | apply Kd.R_drew)); exact HO_8.out) hb); have n1_ := Aside0.mk (below_step (by repeat (first | (with_reducible first | exact HB.out | apply below_alloc | apply pw_below_drewN | apply below_drew1) | exact HB.out)) hb); have n2_ := Aside0.mk (hbox); have n3_ := Aside0.mk ((by rw [hg]; exact (below_size (by repeat (first | (with_reducible first | exact HB.out | apply below_alloc | apply pw_below_drewN | apply below_drew1) | exact HB.out))) : w.heap.size ≤ gb121)); have n4_ := Aside0.mk ((by rw [hg]; exact (below_size (by repeat (first | (with_reducible first | exact HB.out | apply below_alloc | apply pw_below_drewN | apply below_drew1) | exact HB.out))) : w.heap.size ≤ gb121)); clear HO_8; clear HB; have HO_8 := n0_; have HB := n1_; have BK121 := n2_; have GW121 := n3_; have GE121 := n4_; clear n0_ n1_ n2_ n3_ n4_; clear hb hbox hg; have hcz25_0 : w24.cell? ⟨gb121, 0, none⟩ = some (.string (⟨#[]⟩ : ByteArray)) := (blk_cell BK121.out 0).trans rfl; have hcz25_1 : w24.cell? ⟨gb121, 1, none⟩ = some (.int .i64 0) := (blk_cell BK121.out 1).trans rfl; have hcz25_2 : w24.cell? ⟨gb121, 2, none⟩ = some (.int .i64 0) := (blk_cell BK121.out 2).trans rfl; have hfz25_0 := blk_frozen BK121.out 0; have hfz25_1 := blk_frozen BK121.out 1; have hfz25_2 := blk_frozen BK121.out 2) | ((with_reducible refine gate_store (t := 106) (p := 12) rfl ?_); refine store_event (t := 106) (p := 12) (v := ?vo_w26) (w1 := (((w24.setCell ⟨gb121, 0, none⟩ (.string ((rd_T106 l0 x38_3).f0))).setCell ⟨gb121, 1, none⟩ (.int .i64 ((rd_T106 l0 x38_3).f1))).setCell ⟨gb121, 2, none⟩ (.int .i64 ((rd_T106 l0 x38_3).f2)))) ?hg ?ho ?hn ?hr ?_; (case ho => rfl); (case hg => rfl); (case hn => rfl); (case hr => first | (go_simp; done) | (go_simp; rfl)); intro w26 hw; have n0_ : Aside0 (Kd.R Kd.string 9 w26 w.heap.size (fun _ => True) u8 x8_3) := ⟨(by rw [hw]; exact (by (with_reducible repeat (first | apply Kd.R_alloc | apply Kd.R_drewN | apply Kd.R_drew)); exact Kd.R_mono (Kd.R_far (p := ⟨gb121, 2, none⟩) (Kd.R_far (p := ⟨gb121, 1, none⟩) (Kd.R_far (p := ⟨gb121, 0, none⟩) (Kd.R_types HO_8.out BK121.out (by decide)) (fun _ hk => hk.2) (.string ((rd_T106 l0 x38_3).f0))) (fun _ hk => hk.2) (.int .i64 ((rd_T106 l0 x38_3).f1))) (fun _ hk => hk.2) (.int .i64 ((rd_T106 l0 x38_3).f2))) (fun _ hk => trivial)))⟩; have n1_ : Aside0 (w26.heap[gb121]? = some (.cells #[.string ((rd_T106 l0 x38_3).f0), .int .i64 ((rd_T106 l0 x38_3).f1), .int .i64 ((rd_T106 l0 x38_3).f2)] 106 (0, 0))) := ⟨(by rw [hw]; exact (by (with_reducible repeat (first | refine blk_drewN ?_ _ | refine blk_drew ?_ | refine blk_alloc ?_ _)); refine blk_put (cs := #[.string ((rd_T106 l0 x38_3).f0), .int .i64 ((rd_T106 l0 x38_3).f1), .int .i64 0]) ?_ 2 _ rfl; (with_reducible repeat (first | refine blk_drewN ?_ _ | refine blk_drew ?_ | refine blk_alloc ?_ _)); refine blk_put (cs := #[.string ((rd_T106 l0 x38_3).f0), .int .i64 0, .int .i64 0]) ?_ 1 _ rfl; (with_reducible repeat (first | refine blk_drewN ?_ _ | refine blk_drew ?_ | refine blk_alloc ?_ _)); refine blk_put (cs := #[.string (⟨#[]⟩ : ByteArray), .int .i64 0, .int .i64 0]) ?_ 0 _ rfl; (with_reducible repeat (first | refine blk_drewN ?_ _ | refine blk_drew ?_ | refine blk_alloc ?_ _)); exact BK121.out))⟩; have n2_ : Aside0 (Below w.heap.size w w26) := ⟨(by rw [hw]; exact (by repeat (first | (with_reducible first | exact HB.out | apply below_alloc | apply pw_below_drewN | apply below_drew1 | refine below_set ?_ GE121.out) | exact HB.out)))⟩; clear hw; clear HO_8; clear BK121; clear HB; have HO_8 := n0_; have BK121 := n1_; have HB := n2_; clear n0_ n1_ n2_; have q27 : ((ji21) : Int) ≤ ((l0.length : Int) : Int) := of_decide_eq_true (by first | (with_reducible assumption) | assumption); obtain ⟨i027, hi027, _, hsz27, _⟩ := info_parts info106; have hroom27 : l0.length ≤ c0 := HC0.out; have hC27 : Kd.C k106 _ (some ad120) l0.length l0 := HR0.out; have q027 : (0 : Int) ≤ ((ji21) : Int) := of_decide_eq_true (by first | (with_reducible assumption) | assumption); have hcut27 := cut_from (P := Try.prog) 58 106 .i64 Try.underlying58 hi027 3 hsz27 (some ad120) l0.length c0 (ji21) q027 q27; have hr27 := Kd.C_drop (m := ((ji21) : Int).toNat) (c := c0) hC27 (by omega) hroom27; obtain ⟨A27, hA27⟩ : ∃ A1, A1 = (if c0 = ((ji21) : Int).toNat then (some ad120) else ((some ad120) : Option Addr).map (·.add (((ji21) : Int).toNat * 3))) := ⟨_, rfl⟩; obtain ⟨c27, hc27⟩ : ∃ c1, c1 = c0 - ((ji21) : Int).toNat := ⟨_, rfl⟩; have hy27 : y122.length = l0.length - ((ji21) : Int).toNat := (by rw [Ny122.out, List.length_drop] <;> omega); rw [show (l0).drop ((ji21) : Int).toNat = y122 from Ny122.out.symm] at hr27; replace hr27 : Kd.C k106 _ A27 y122.length y122 := (by rw [hA27]; exact hr27); rw [← hy27, ← hA27, ← hc27] at hcut27; have HR125 := Aside0.mk hr27; have HC125 := Aside0.mk (show y122.length ≤ c27 from by rw [hy27, hc27]; exact Nat.sub_le_sub_right hroom27 _); clear hr27 hC27 hroom27 hi027 hsz27 hc27; have KY27 := Aside0.mk hy27; have KA27 := Aside0.mk hA27; clear hy27 hA27; replace q27 := eq_true q27))
              go_loopg [8, 9, 10, 48] k3 (fun kq v8 v9 v10 v48 w' => ∃ (x8_4 : List ByteArray) (x9_4 : Int) (x10_4 : Int) (x48_4 : Int), v9 = .int .i64 x9_4 ∧ v10 = .int .i64 x10_4 ∧ v48 = .int .i64 x48_4 ∧ Aside0 (spec_NextMatch.l2 kq l0 a1 x8_4 x9_4 x10_4 l0 (l0.length : Int) x38_3 y122 (y122.length : Int) x48_4 ((rd_T106 l0 x38_3).f0) ((rd_T106 l0 x38_3).f1) ((rd_T106 l0 x38_3).f2) = some (r1, r2)) ∧ Aside0 (kq ≤ k3) ∧ Aside0 (Kd.R Kd.string 9 w' w.heap.size (fun _ => True) v8 x8_4) ∧ Aside0 (w'.heap[gb121]? = some (.cells #[.string ((rd_T106 l0 x38_3).f0), .int .i64 ((rd_T106 l0 x38_3).f1), .int .i64 ((rd_T106 l0 x38_3).f2)] 106 (0, 0))) ∧ Aside0 (Below w.heap.size w w'))
              case atStart => exact ⟨(x8_3), (x9_3), (x10_3), (0), (by first | rfl | (simp; done) | (simp [*]; done)), (by first | rfl | (simp; done) | (simp [*]; done)), (by first | rfl | (simp; done) | (simp [*]; done)), H', ⟨Nat.le_refl _⟩, ⟨by (with_reducible repeat (first | apply Kd.R_alloc | apply Kd.R_drewN | apply Kd.R_drew)); exact HO_8.out⟩, ⟨by (with_reducible repeat (first | refine blk_drewN ?_ _ | refine blk_drew ?_ | refine blk_alloc ?_ _)); exact BK121.out⟩, ⟨by repeat (first | (with_reducible first | exact HB.out | apply below_alloc | apply pw_below_drewN | apply below_drew1 | refine below_set ?_ GE121.out) | exact HB.out)⟩⟩
              case round =>
               clear H'
               try clear c1
               try clear p1
               try clear q1
               try clear hx1
               try clear c2
               try clear p2
               try clear q2
               try clear c5
               try clear c6
               try clear p6
               try clear c9
               try clear c10
               try clear c10b0
               try clear c11
               try clear c11b0
               try clear p11
               try clear q11
               try clear hx11
               try clear c12
               try clear c12b0
               try clear p12
               try clear q12
               try clear hx12
               try clear c13
               try clear c13b0
               try clear c18
               try clear c18b0
               try clear c19
               try clear c19b0
               try clear c20
               try clear c20b0
               try clear c22
               try clear c22b0
               try clear c22b1
               try clear c23
               try clear c23b0
               try clear c23b1
               try clear c27
               try clear q27
               try clear hcz15_0
               try clear hcz15_1
               try clear hcz15_2
               try clear hcz17_0
               try clear hcz17_1
               try clear hcz17_2
               try clear hcz25_0
               try clear hcz25_1
               try clear hcz25_2
               try clear hfz15_0
               try clear hfz15_1
               try clear hfz15_2
               try clear hfz17_0
               try clear hfz17_1
               try clear hfz17_2
               try clear hfz25_0
               try clear hfz25_1
               try clear hfz25_2
               try clear hx118_0
               try clear hx118_1
               try clear hx118_2
               try clear hx120_0
               try clear hx120_1
               try clear hx120_2
               try clear p1
               try clear p11
               try clear p118
               try clear p120
               try clear p2
               try clear p6
               try clear q027
               try clear q1
               try clear q11
               try clear q118
               try clear q120
               try clear q27
               obtain ⟨x8_4, x9_4, x10_4, x48_4, rfl, rfl, rfl, HA, HK4, HO_8, BK121, HB⟩ := hrel
               cases gk with
               | zero => exact absurd HA.out (by simp [spec_NextMatch.l2])
               | succ k4 =>
                have H := HA.out
                clear HA
                simp only [spec_NextMatch.l2] at H
                by_cases c28 : x48_4 < (y122.length : Int)
                ·rw [if_pos c28] at H
                 have c28b0 : decide (x48_4 < (y122.length : Int)) = true := decide_eq_true c28
                 clear c28
                 by_cases c29 : 0 ≤ x48_4
                 ·rw [if_pos c29] at H
                  have c29b0 : decide (0 ≤ x48_4) = true := decide_eq_true c29
                  clear c29
                  by_cases c30 : x48_4 < (y122.length : Int)
                  ·rw [if_pos c30] at H
                   have c30b0 : decide (x48_4 < (y122.length : Int)) = true := decide_eq_true c30
                   clear c30
                   replace H := Option.bind_eq_some_iff.mp H
                   obtain ⟨t128, A310, H⟩ := H
                   replace H : ((spec_l25Wide.f ((rd_T106 l0 x38_3).f0) ((rd_T106 l0 x38_3).f1) ((rd_T106 l0 x38_3).f2) a1).bind fun t129 => (if t128 > t129 then (spec_NextMatch.j4 k4 l0 a1 x8_4 x9_4 x10_4 t128 (wrap64 (((rd_T106 l0 x38_3).f2) + ((rd_T106 y122 x48_4).f2))) l0 (l0.length : Int) x38_3 y122 (y122.length : Int) x48_4 true ((rd_T106 l0 x38_3).f0) ((rd_T106 l0 x38_3).f1) ((rd_T106 l0 x38_3).f2) ((rd_T106 y122 x48_4).f0) ((rd_T106 y122 x48_4).f1) ((rd_T106 y122 x48_4).f2)) else ((spec_l25Wide.f ((rd_T106 y122 x48_4).f0) ((rd_T106 y122 x48_4).f1) ((rd_T106 y122 x48_4).f2) a1).bind fun t130 => (spec_NextMatch.j4 k4 l0 a1 x8_4 x9_4 x10_4 t128 (wrap64 (((rd_T106 l0 x38_3).f2) + ((rd_T106 y122 x48_4).f2))) l0 (l0.length : Int) x38_3 y122 (y122.length : Int) x48_4 (decide (t128 > t130)) ((rd_T106 l0 x38_3).f0) ((rd_T106 l0 x38_3).f1) ((rd_T106 l0 x38_3).f2) ((rd_T106 y122 x48_4).f0) ((rd_T106 y122 x48_4).f1) ((rd_T106 y122 x48_4).f2))))) = some (r1, r2) := H
                   have A31 := Aside0.mk A310
                   clear A310
                   have HC32 := Aside0.mk H
                   clear H
                   have p126 : 0 ≤ (x48_4 : Int) := of_decide_eq_true (by first | (with_reducible assumption) | assumption)
                   have q126 : x48_4 < (y122.length : Int) := of_decide_eq_true (by first | (with_reducible assumption) | assumption)
                   obtain ⟨ad126, e126, hx126_0, hx126_1, hx126_2⟩ := at_T106 HR125.out x48_4 p126 q126
                   cases e126
                   replace hx126_0 := (HB.out.cell (World.block_lt_of_cell? w _ hx126_0)).trans hx126_0
                   replace hx126_1 := (HB.out.cell (World.block_lt_of_cell? w _ hx126_1)).trans hx126_1
                   replace hx126_2 := (HB.out.cell (World.block_lt_of_cell? w _ hx126_2)).trans hx126_2
                   replace p126 := eq_true p126
                   replace q126 := eq_true q126
                   go_upto_region 20 with (first | ((with_reducible refine gate_dst (N := 14) rfl ?_); refine box_event ?hg (N := 14) ?hd (cs := #[.string (⟨#[]⟩ : ByteArray), .int .i64 0, .int .i64 0]) (t := 106) ?hr ?_; (case hd => rfl); (case hg => rfl); (case hr => first | (go_simp; done) | (go_simp; rfl)); intro gb127 hg w33 hbox hb; have n0_ := Aside0.mk (Kd.R_below (by (with_reducible repeat (first | apply Kd.R_alloc | apply Kd.R_drewN | apply Kd.R_drew)); exact HO_8.out) hb); have n1_ := Aside0.mk (blk_below (g := gb121) (o := .cells #[.string ((rd_T106 l0 x38_3).f0), .int .i64 ((rd_T106 l0 x38_3).f1), .int .i64 ((rd_T106 l0 x38_3).f2)] 106 (0, 0)) (by (with_reducible repeat (first | refine blk_drewN ?_ _ | refine blk_drew ?_ | refine blk_alloc ?_ _)); exact BK121.out) hb); have n2_ := Aside0.mk (below_step (by repeat (first | (with_reducible first | exact HB.out | apply below_alloc | apply pw_below_drewN | apply below_drew1 | refine below_set ?_ GE121.out) | exact HB.out)) hb); have n3_ := Aside0.mk (hbox); have n4_ := Aside0.mk ((by rw [hg]; exact (below_size (by repeat (first | (with_reducible first | exact HB.out | apply below_alloc | apply pw_below_drewN | apply below_drew1 | refine below_set ?_ GE121.out) | exact HB.out))) : w.heap.size ≤ gb127)); have n5_ := Aside0.mk ((by rw [hg]; exact (below_size (by repeat (first | (with_reducible first | exact HB.out | apply below_alloc | apply pw_below_drewN | apply below_drew1 | refine below_set ?_ GE121.out) | exact HB.out))) : w.heap.size ≤ gb127)); have n6_ := Aside0.mk ((by rw [hg]; exact Nat.ne_of_lt (blk_lt (g := gb121) (o := .cells #[.string ((rd_T106 l0 x38_3).f0), .int .i64 ((rd_T106 l0 x38_3).f1), .int .i64 ((rd_T106 l0 x38_3).f2)] 106 (0, 0)) (by (with_reducible repeat (first | refine blk_drewN ?_ _ | refine blk_drew ?_ | refine blk_alloc ?_ _)); exact BK121.out)) : gb121 ≠ gb127)); have n7_ := Aside0.mk ((by rw [hg]; exact Nat.ne_of_gt (blk_lt (g := gb121) (o := .cells #[.string ((rd_T106 l0 x38_3).f0), .int .i64 ((rd_T106 l0 x38_3).f1), .int .i64 ((rd_T106 l0 x38_3).f2)] 106 (0, 0)) (by (with_reducible repeat (first | refine blk_drewN ?_ _ | refine blk_drew ?_ | refine blk_alloc ?_ _)); exact BK121.out)) : gb127 ≠ gb121)); clear HO_8; clear BK121; clear HB; have HO_8 := n0_; have BK121 := n1_; have HB := n2_; have BK127 := n3_; have GW127 := n4_; have GE127 := n5_; have NB121_127 := n6_; have NB127_121 := n7_; clear n0_ n1_ n2_ n3_ n4_ n5_ n6_ n7_; clear hb hbox hg; have hnb34 := NB127_121.out; have hnc34 := NB121_127.out; have hcz35_0 : w33.cell? ⟨gb127, 0, none⟩ = some (.string (⟨#[]⟩ : ByteArray)) := (blk_cell BK127.out 0).trans rfl; have hcz35_1 : w33.cell? ⟨gb127, 1, none⟩ = some (.int .i64 0) := (blk_cell BK127.out 1).trans rfl; have hcz35_2 : w33.cell? ⟨gb127, 2, none⟩ = some (.int .i64 0) := (blk_cell BK127.out 2).trans rfl; have hfz35_0 := blk_frozen BK127.out 0; have hfz35_1 := blk_frozen BK127.out 1; have hfz35_2 := blk_frozen BK127.out 2; have hcz36_0 : w33.cell? ⟨gb121, 0, none⟩ = some (.string ((rd_T106 l0 x38_3).f0)) := (blk_cell BK121.out 0).trans rfl; have hcz36_1 : w33.cell? ⟨gb121, 1, none⟩ = some (.int .i64 ((rd_T106 l0 x38_3).f1)) := (blk_cell BK121.out 1).trans rfl; have hcz36_2 : w33.cell? ⟨gb121, 2, none⟩ = some (.int .i64 ((rd_T106 l0 x38_3).f2)) := (blk_cell BK121.out 2).trans rfl; have hfz36_0 := blk_frozen BK121.out 0; have hfz36_1 := blk_frozen BK121.out 1; have hfz36_2 := blk_frozen BK121.out 2) | ((with_reducible refine gate_callee (f := 71) rfl ?_); refine goesL_ (some 57) rfl rfl Try.func71 (by kernel_rfl) rfl #[.int .i64 (wrap64 (((rd_T106 l0 x38_3).f1) - ((rd_T106 y122 x48_4).f1)))] rfl (by (try simp only [List.map_toArray, List.map_cons, List.map_nil]); first | done | rfl | (simp only [List.length_drop, List.length_take]; rfl)) ?_; (with_reducible refine (spec_l1Abs.calls (wrap64 (((rd_T106 l0 x38_3).f1) - ((rd_T106 y122 x48_4).f1))) t128 _ A31.out).mono ?_); rintro e w' ⟨rfl, ⟨nd, rfl⟩⟩; refine ⟨_, rfl, ?_⟩))
                   (try simp only [Act.put, List.setIfInBounds_toArray, List.set_cons_zero, List.set_cons_succ])
                   go_cut [74] (fun v74 wc => ∃ (kq : Nat) (x74_31 : Bool), v74 = .bool x74_31 ∧ Aside0 (spec_NextMatch.j4 kq l0 a1 x8_4 x9_4 x10_4 t128 (wrap64 (((rd_T106 l0 x38_3).f2) + ((rd_T106 y122 x48_4).f2))) l0 (l0.length : Int) x38_3 y122 (y122.length : Int) x48_4 x74_31 ((rd_T106 l0 x38_3).f0) ((rd_T106 l0 x38_3).f1) ((rd_T106 l0 x38_3).f2) ((rd_T106 y122 x48_4).f0) ((rd_T106 y122 x48_4).f1) ((rd_T106 y122 x48_4).f2) = some (r1, r2)) ∧ Aside0 (kq ≤ k4) ∧ Aside0 (Kd.R Kd.string 9 wc w.heap.size (fun _ => True) u8 x8_4) ∧ Aside0 (wc.heap[gb121]? = some (.cells #[.string ((rd_T106 l0 x38_3).f0), .int .i64 ((rd_T106 l0 x38_3).f1), .int .i64 ((rd_T106 l0 x38_3).f2)] 106 (0, 0))) ∧ Aside0 (wc.heap[gb127]? = some (.cells #[.string ((rd_T106 y122 x48_4).f0), .int .i64 ((rd_T106 y122 x48_4).f1), .int .i64 ((rd_T106 y122 x48_4).f2)] 106 (0, 0))) ∧ Aside0 (Below w.heap.size w wc))
                   case first =>
                    have H := HC32.out
                    clear HC32
                    replace H := Option.bind_eq_some_iff.mp H
                    obtain ⟨t129, A370, H⟩ := H
                    replace H : (if t128 > t129 then (spec_NextMatch.j4 k4 l0 a1 x8_4 x9_4 x10_4 t128 (wrap64 (((rd_T106 l0 x38_3).f2) + ((rd_T106 y122 x48_4).f2))) l0 (l0.length : Int) x38_3 y122 (y122.length : Int) x48_4 true ((rd_T106 l0 x38_3).f0) ((rd_T106 l0 x38_3).f1) ((rd_T106 l0 x38_3).f2) ((rd_T106 y122 x48_4).f0) ((rd_T106 y122 x48_4).f1) ((rd_T106 y122 x48_4).f2)) else ((spec_l25Wide.f ((rd_T106 y122 x48_4).f0) ((rd_T106 y122 x48_4).f1) ((rd_T106 y122 x48_4).f2) a1).bind fun t130 => (spec_NextMatch.j4 k4 l0 a1 x8_4 x9_4 x10_4 t128 (wrap64 (((rd_T106 l0 x38_3).f2) + ((rd_T106 y122 x48_4).f2))) l0 (l0.length : Int) x38_3 y122 (y122.length : Int) x48_4 (decide (t128 > t130)) ((rd_T106 l0 x38_3).f0) ((rd_T106 l0 x38_3).f1) ((rd_T106 l0 x38_3).f2) ((rd_T106 y122 x48_4).f0) ((rd_T106 y122 x48_4).f1) ((rd_T106 y122 x48_4).f2)))) = some (r1, r2) := H
                    have A37 := Aside0.mk A370
                    clear A370
                    by_cases c38 : t128 > t129
                    ·rw [if_pos c38] at H
                     have c38b0 : decide (t129 < t128) = true := decide_eq_true c38
                     clear c38
                     (first | rw [c38b0] | (simp only [i64_w, i32_w]; rw [c38b0]) | rw [c38b3] | skip)
                     have H' := Aside0.mk H
                     clear H
                     have hnb39 := NB121_127.out
                     have hnc39 := NB127_121.out
                     have hcz40_0 : w33.cell? ⟨gb121, 0, none⟩ = some (.string ((rd_T106 l0 x38_3).f0)) := (blk_cell BK121.out 0).trans rfl
                     have hcz40_1 : w33.cell? ⟨gb121, 1, none⟩ = some (.int .i64 ((rd_T106 l0 x38_3).f1)) := (blk_cell BK121.out 1).trans rfl
                     have hcz40_2 : w33.cell? ⟨gb121, 2, none⟩ = some (.int .i64 ((rd_T106 l0 x38_3).f2)) := (blk_cell BK121.out 2).trans rfl
                     have hfz40_0 := blk_frozen BK121.out 0
                     have hfz40_1 := blk_frozen BK121.out 1
                     have hfz40_2 := blk_frozen BK121.out 2
                     go_wp2_with (first | ((with_reducible refine gate_callee (f := 72) rfl ?_); refine goesL_ (some 66) rfl rfl Try.func72 (by kernel_rfl) rfl #[.agg #[.string ((rd_T106 l0 x38_3).f0), .int .i64 ((rd_T106 l0 x38_3).f1), .int .i64 ((rd_T106 l0 x38_3).f2)], .int .i64 a1] rfl (by (try simp only [List.map_toArray, List.map_cons, List.map_nil]); first | done | rfl | (simp only [List.length_drop, List.length_take]; rfl)) ?_; (with_reducible refine (spec_l25Wide.calls ((rd_T106 l0 x38_3).f0) ((rd_T106 l0 x38_3).f1) ((rd_T106 l0 x38_3).f2) a1 t129 _ A37.out).mono ?_); rintro e w41 ⟨rfl, hb⟩; refine ⟨_, rfl, ?_⟩; have n0_ := Aside0.mk (Kd.R_below (by (with_reducible repeat (first | apply Kd.R_alloc | apply Kd.R_drewN | apply Kd.R_drew)); exact (Kd.R_mono (Kd.R_far (p := ⟨gb127, 2, none⟩) (Kd.R_far (p := ⟨gb127, 1, none⟩) (Kd.R_far (p := ⟨gb127, 0, none⟩) (Kd.R_types HO_8.out BK127.out (by decide)) (fun _ hk => hk.2) (.string ((rd_T106 y122 x48_4).f0))) (fun _ hk => hk.2) (.int .i64 ((rd_T106 y122 x48_4).f1))) (fun _ hk => hk.2) (.int .i64 ((rd_T106 y122 x48_4).f2))) (fun _ h_ => h_.1))) hb); have n1_ := Aside0.mk (blk_below (g := gb121) (o := .cells #[.string ((rd_T106 l0 x38_3).f0), .int .i64 ((rd_T106 l0 x38_3).f1), .int .i64 ((rd_T106 l0 x38_3).f2)] 106 (0, 0)) (by (with_reducible repeat (first | refine blk_drewN ?_ _ | refine blk_drew ?_ | refine blk_alloc ?_ _)); refine blk_far ?_ NB121_127.out _; (with_reducible repeat (first | refine blk_drewN ?_ _ | refine blk_drew ?_ | refine blk_alloc ?_ _)); refine blk_far ?_ NB121_127.out _; (with_reducible repeat (first | refine blk_drewN ?_ _ | refine blk_drew ?_ | refine blk_alloc ?_ _)); refine blk_far ?_ NB121_127.out _; (with_reducible repeat (first | refine blk_drewN ?_ _ | refine blk_drew ?_ | refine blk_alloc ?_ _)); exact BK121.out) hb); have n2_ := Aside0.mk (blk_below (g := gb127) (o := .cells #[.string ((rd_T106 y122 x48_4).f0), .int .i64 ((rd_T106 y122 x48_4).f1), .int .i64 ((rd_T106 y122 x48_4).f2)] 106 (0, 0)) (by (with_reducible repeat (first | refine blk_drewN ?_ _ | refine blk_drew ?_ | refine blk_alloc ?_ _)); refine blk_put (cs := #[.string ((rd_T106 y122 x48_4).f0), .int .i64 ((rd_T106 y122 x48_4).f1), .int .i64 0]) ?_ 2 _ rfl; (with_reducible repeat (first | refine blk_drewN ?_ _ | refine blk_drew ?_ | refine blk_alloc ?_ _)); refine blk_put (cs := #[.string ((rd_T106 y122 x48_4).f0), .int .i64 0, .int .i64 0]) ?_ 1 _ rfl; (with_reducible repeat (first | refine blk_drewN ?_ _ | refine blk_drew ?_ | refine blk_alloc ?_ _)); refine blk_put (cs := #[.string (⟨#[]⟩ : ByteArray), .int .i64 0, .int .i64 0]) ?_ 0 _ rfl; (with_reducible repeat (first | refine blk_drewN ?_ _ | refine blk_drew ?_ | refine blk_alloc ?_ _)); exact BK127.out) hb); have n3_ := Aside0.mk (below_step (by repeat (first | (with_reducible first | exact HB.out | apply below_alloc | apply pw_below_drewN | apply below_drew1 | refine below_set ?_ GE121.out | refine below_set ?_ GE127.out) | exact HB.out)) hb); clear HO_8; clear BK121; clear BK127; clear HB; have HO_8 := n0_; have BK121 := n1_; have BK127 := n2_; have HB := n3_; clear n0_ n1_ n2_ n3_; (try clear hb); (try clear hb2); (try clear hk); (try clear hi)))
                     go_meet
                     case rel => exact ⟨_, (true), (by first | rfl | (simp; done) | (simp [*]; done)), H', ⟨by have := HJ2.out; have := HK2.out; have := HK3.out; have := HK4.out; first | omega | exact Nat.le_refl _⟩, ⟨by (with_reducible repeat (first | apply Kd.R_alloc | apply Kd.R_drewN | apply Kd.R_drew)); exact HO_8.out⟩, ⟨by (with_reducible repeat (first | refine blk_drewN ?_ _ | refine blk_drew ?_ | refine blk_alloc ?_ _)); exact BK121.out⟩, ⟨by (with_reducible repeat (first | refine blk_drewN ?_ _ | refine blk_drew ?_ | refine blk_alloc ?_ _)); exact BK127.out⟩, ⟨by repeat (first | (with_reducible first | exact HB.out | apply below_alloc | apply pw_below_drewN | apply below_drew1 | refine below_set ?_ GE121.out | refine below_set ?_ GE127.out) | exact HB.out)⟩⟩
                    ·rw [if_neg c38] at H
                     have c38b0 : decide (t129 < t128) = false := decide_eq_false c38
                     clear c38
                     (first | rw [c38b0] | (simp only [i64_w, i32_w]; rw [c38b0]) | rw [c38b3] | skip)
                     replace H := Option.bind_eq_some_iff.mp H
                     obtain ⟨t130, A420, H⟩ := H
                     replace H : (spec_NextMatch.j4 k4 l0 a1 x8_4 x9_4 x10_4 t128 (wrap64 (((rd_T106 l0 x38_3).f2) + ((rd_T106 y122 x48_4).f2))) l0 (l0.length : Int) x38_3 y122 (y122.length : Int) x48_4 (decide (t128 > t130)) ((rd_T106 l0 x38_3).f0) ((rd_T106 l0 x38_3).f1) ((rd_T106 l0 x38_3).f2) ((rd_T106 y122 x48_4).f0) ((rd_T106 y122 x48_4).f1) ((rd_T106 y122 x48_4).f2)) = some (r1, r2) := H
                     have A42 := Aside0.mk A420
                     clear A420
                     have H' := Aside0.mk H
                     clear H
                     have hnb43 := NB121_127.out
                     have hnc43 := NB127_121.out
                     have hcz44_0 : w33.cell? ⟨gb121, 0, none⟩ = some (.string ((rd_T106 l0 x38_3).f0)) := (blk_cell BK121.out 0).trans rfl
                     have hcz44_1 : w33.cell? ⟨gb121, 1, none⟩ = some (.int .i64 ((rd_T106 l0 x38_3).f1)) := (blk_cell BK121.out 1).trans rfl
                     have hcz44_2 : w33.cell? ⟨gb121, 2, none⟩ = some (.int .i64 ((rd_T106 l0 x38_3).f2)) := (blk_cell BK121.out 2).trans rfl
                     have hfz44_0 := blk_frozen BK121.out 0
                     have hfz44_1 := blk_frozen BK121.out 1
                     have hfz44_2 := blk_frozen BK121.out 2
                     go_wp2_with (first | ((with_reducible refine gate_callee (f := 72) rfl ?_); refine goesL_ (some 66) rfl rfl Try.func72 (by kernel_rfl) rfl #[.agg #[.string ((rd_T106 l0 x38_3).f0), .int .i64 ((rd_T106 l0 x38_3).f1), .int .i64 ((rd_T106 l0 x38_3).f2)], .int .i64 a1] rfl (by (try simp only [List.map_toArray, List.map_cons, List.map_nil]); first | done | rfl | (simp only [List.length_drop, List.length_take]; rfl)) ?_; (with_reducible refine (spec_l25Wide.calls ((rd_T106 l0 x38_3).f0) ((rd_T106 l0 x38_3).f1) ((rd_T106 l0 x38_3).f2) a1 t129 _ A37.out).mono ?_); rintro e w45 ⟨rfl, hb⟩; refine ⟨_, rfl, ?_⟩; have n0_ := Aside0.mk (Kd.R_below (by (with_reducible repeat (first | apply Kd.R_alloc | apply Kd.R_drewN | apply Kd.R_drew)); exact (Kd.R_mono (Kd.R_far (p := ⟨gb127, 2, none⟩) (Kd.R_far (p := ⟨gb127, 1, none⟩) (Kd.R_far (p := ⟨gb127, 0, none⟩) (Kd.R_types HO_8.out BK127.out (by decide)) (fun _ hk => hk.2) (.string ((rd_T106 y122 x48_4).f0))) (fun _ hk => hk.2) (.int .i64 ((rd_T106 y122 x48_4).f1))) (fun _ hk => hk.2) (.int .i64 ((rd_T106 y122 x48_4).f2))) (fun _ h_ => h_.1))) hb); have n1_ := Aside0.mk (blk_below (g := gb121) (o := .cells #[.string ((rd_T106 l0 x38_3).f0), .int .i64 ((rd_T106 l0 x38_3).f1), .int .i64 ((rd_T106 l0 x38_3).f2)] 106 (0, 0)) (by (with_reducible repeat (first | refine blk_drewN ?_ _ | refine blk_drew ?_ | refine blk_alloc ?_ _)); refine blk_far ?_ NB121_127.out _; (with_reducible repeat (first | refine blk_drewN ?_ _ | refine blk_drew ?_ | refine blk_alloc ?_ _)); refine blk_far ?_ NB121_127.out _; (with_reducible repeat (first | refine blk_drewN ?_ _ | refine blk_drew ?_ | refine blk_alloc ?_ _)); refine blk_far ?_ NB121_127.out _; (with_reducible repeat (first | refine blk_drewN ?_ _ | refine blk_drew ?_ | refine blk_alloc ?_ _)); exact BK121.out) hb); have n2_ := Aside0.mk (blk_below (g := gb127) (o := .cells #[.string ((rd_T106 y122 x48_4).f0), .int .i64 ((rd_T106 y122 x48_4).f1), .int .i64 ((rd_T106 y122 x48_4).f2)] 106 (0, 0)) (by (with_reducible repeat (first | refine blk_drewN ?_ _ | refine blk_drew ?_ | refine blk_alloc ?_ _)); refine blk_put (cs := #[.string ((rd_T106 y122 x48_4).f0), .int .i64 ((rd_T106 y122 x48_4).f1), .int .i64 0]) ?_ 2 _ rfl; (with_reducible repeat (first | refine blk_drewN ?_ _ | refine blk_drew ?_ | refine blk_alloc ?_ _)); refine blk_put (cs := #[.string ((rd_T106 y122 x48_4).f0), .int .i64 0, .int .i64 0]) ?_ 1 _ rfl; (with_reducible repeat (first | refine blk_drewN ?_ _ | refine blk_drew ?_ | refine blk_alloc ?_ _)); refine blk_put (cs := #[.string (⟨#[]⟩ : ByteArray), .int .i64 0, .int .i64 0]) ?_ 0 _ rfl; (with_reducible repeat (first | refine blk_drewN ?_ _ | refine blk_drew ?_ | refine blk_alloc ?_ _)); exact BK127.out) hb); have n3_ := Aside0.mk (below_step (by repeat (first | (with_reducible first | exact HB.out | apply below_alloc | apply pw_below_drewN | apply below_drew1 | refine below_set ?_ GE121.out | refine below_set ?_ GE127.out) | exact HB.out)) hb); clear HO_8; clear BK121; clear BK127; clear HB; have HO_8 := n0_; have BK121 := n1_; have BK127 := n2_; have HB := n3_; clear n0_ n1_ n2_ n3_; (try clear hb); (try clear hb2); (try clear hk); (try clear hi); have hcz46_0 : w45.cell? ⟨gb127, 0, none⟩ = some (.string ((rd_T106 y122 x48_4).f0)) := (blk_cell BK127.out 0).trans rfl; have hcz46_1 : w45.cell? ⟨gb127, 1, none⟩ = some (.int .i64 ((rd_T106 y122 x48_4).f1)) := (blk_cell BK127.out 1).trans rfl; have hcz46_2 : w45.cell? ⟨gb127, 2, none⟩ = some (.int .i64 ((rd_T106 y122 x48_4).f2)) := (blk_cell BK127.out 2).trans rfl; have hfz46_0 := blk_frozen BK127.out 0; have hfz46_1 := blk_frozen BK127.out 1; have hfz46_2 := blk_frozen BK127.out 2) | (go_at_call 72; (with_reducible refine (spec_l25Wide.calls ((rd_T106 y122 x48_4).f0) ((rd_T106 y122 x48_4).f1) ((rd_T106 y122 x48_4).f2) a1 t130 _ A42.out).mono ?_); rintro e w47 ⟨rfl, hb⟩; have n0_ := Aside0.mk (Kd.R_below (by (with_reducible repeat (first | apply Kd.R_alloc | apply Kd.R_drewN | apply Kd.R_drew)); exact HO_8.out) hb); have n1_ := Aside0.mk (blk_below (g := gb121) (o := .cells #[.string ((rd_T106 l0 x38_3).f0), .int .i64 ((rd_T106 l0 x38_3).f1), .int .i64 ((rd_T106 l0 x38_3).f2)] 106 (0, 0)) (by (with_reducible repeat (first | refine blk_drewN ?_ _ | refine blk_drew ?_ | refine blk_alloc ?_ _)); exact BK121.out) hb); have n2_ := Aside0.mk (blk_below (g := gb127) (o := .cells #[.string ((rd_T106 y122 x48_4).f0), .int .i64 ((rd_T106 y122 x48_4).f1), .int .i64 ((rd_T106 y122 x48_4).f2)] 106 (0, 0)) (by (with_reducible repeat (first | refine blk_drewN ?_ _ | refine blk_drew ?_ | refine blk_alloc ?_ _)); exact BK127.out) hb); have n3_ := Aside0.mk (below_step (by repeat (first | (with_reducible first | exact HB.out | apply below_alloc | apply pw_below_drewN | apply below_drew1 | refine below_set ?_ GE121.out | refine below_set ?_ GE127.out) | exact HB.out)) hb); clear HO_8; clear BK121; clear BK127; clear HB; have HO_8 := n0_; have BK121 := n1_; have BK127 := n2_; have HB := n3_; clear n0_ n1_ n2_ n3_; (try clear hb); (try clear hb2); (try clear hk); (try clear hi)))
                     go_meet
                     case rel => exact ⟨_, (decide (t128 > t130)), (by first | rfl | (simp; done) | (simp [*]; done)), H', ⟨by have := HJ2.out; have := HK2.out; have := HK3.out; have := HK4.out; first | omega | exact Nat.le_refl _⟩, ⟨by (with_reducible repeat (first | apply Kd.R_alloc | apply Kd.R_drewN | apply Kd.R_drew)); exact HO_8.out⟩, ⟨by (with_reducible repeat (first | refine blk_drewN ?_ _ | refine blk_drew ?_ | refine blk_alloc ?_ _)); exact BK121.out⟩, ⟨by (with_reducible repeat (first | refine blk_drewN ?_ _ | refine blk_drew ?_ | refine blk_alloc ?_ _)); exact BK127.out⟩, ⟨by repeat (first | (with_reducible first | exact HB.out | apply below_alloc | apply pw_below_drewN | apply below_drew1 | refine below_set ?_ GE121.out | refine below_set ?_ GE127.out) | exact HB.out)⟩⟩
                   case rest =>
                    clear HC32
                    try clear c1
                    try clear p1
                    try clear q1
                    try clear hx1
                    try clear c2
                    try clear p2
                    try clear q2
                    try clear c3
                    try clear c4
                    try clear c5
                    try clear c6
                    try clear p6
                    try clear c7
                    try clear c9
                    try clear c10
                    try clear c10b0
                    try clear c11
                    try clear c11b0
                    try clear p11
                    try clear q11
                    try clear hx11
                    try clear c12
                    try clear c12b0
                    try clear p12
                    try clear q12
                    try clear hx12
                    try clear c13
                    try clear c13b0
                    try clear c18
                    try clear c18b0
                    try clear c19
                    try clear c19b0
                    try clear c20
                    try clear c20b0
                    try clear c22
                    try clear c22b0
                    try clear c22b1
                    try clear c23
                    try clear c23b0
                    try clear c23b1
                    try clear c27
                    try clear q27
                    try clear c28
                    try clear c28b0
                    try clear c29
                    try clear c29b0
                    try clear c30
                    try clear c30b0
                    try clear c34
                    try clear c38
                    try clear c38b0
                    try clear c39
                    try clear c43
                    try clear hcz15_0
                    try clear hcz15_1
                    try clear hcz15_2
                    try clear hcz17_0
                    try clear hcz17_1
                    try clear hcz17_2
                    try clear hcz25_0
                    try clear hcz25_1
                    try clear hcz25_2
                    try clear hcz35_0
                    try clear hcz35_1
                    try clear hcz35_2
                    try clear hcz36_0
                    try clear hcz36_1
                    try clear hcz36_2
                    try clear hcz40_0
                    try clear hcz40_1
                    try clear hcz40_2
                    try clear hcz44_0
                    try clear hcz44_1
                    try clear hcz44_2
                    try clear hcz46_0
                    try clear hcz46_1
                    try clear hcz46_2
                    try clear hfz15_0
                    try clear hfz15_1
                    try clear hfz15_2
                    try clear hfz17_0
                    try clear hfz17_1
                    try clear hfz17_2
                    try clear hfz25_0
                    try clear hfz25_1
                    try clear hfz25_2
                    try clear hfz35_0
                    try clear hfz35_1
                    try clear hfz35_2
                    try clear hfz36_0
                    try clear hfz36_1
                    try clear hfz36_2
                    try clear hfz40_0
                    try clear hfz40_1
                    try clear hfz40_2
                    try clear hfz44_0
                    try clear hfz44_1
                    try clear hfz44_2
                    try clear hfz46_0
                    try clear hfz46_1
                    try clear hfz46_2
                    try clear hx118_0
                    try clear hx118_1
                    try clear hx118_2
                    try clear hx120_0
                    try clear hx120_1
                    try clear hx120_2
                    try clear hx126_0
                    try clear hx126_1
                    try clear hx126_2
                    try clear p1
                    try clear p11
                    try clear p118
                    try clear p12
                    try clear p120
                    try clear p126
                    try clear p2
                    try clear p6
                    try clear q027
                    try clear q1
                    try clear q11
                    try clear q118
                    try clear q12
                    try clear q120
                    try clear q126
                    try clear q2
                    try clear q27
                    obtain ⟨kq, x74_31, rfl, HA, HJ31, HO_8, BK121, BK127, HB⟩ := hcut
                    cases kq with
                    | zero => exact absurd HA.out (by simp [spec_NextMatch.j4])
                    | succ kj31 =>
                     have H := HA.out
                     clear HA
                     simp only [spec_NextMatch.j4] at H
                     by_cases c48 : x74_31 = true
                     ·subst c48
                      have H1 : (spec_NextMatch.l2 kj31 l0 a1 x8_4 x9_4 x10_4 l0 (l0.length : Int) x38_3 y122 (y122.length : Int) (wrap64 (x48_4 + 1)) ((rd_T106 l0 x38_3).f0) ((rd_T106 l0 x38_3).f1) ((rd_T106 l0 x38_3).f2)) = some (r1, r2) := by rw [if_pos rfl] at H; exact H
                      clear H
                      have H := H1
                      clear H1
                      have H' := Aside0.mk H
                      clear H
                      go_wp2
                      go_roundg kj31
                      case measure => have := HJ2.out; have := HK2.out; have := HK3.out; have := HK4.out; have := HJ31.out; omega
                      case rel => exact ⟨(x8_4), (x9_4), (x10_4), (wrap64 (x48_4 + 1)), (by first | rfl | (simp; done) | (simp [*]; done)), (by first | rfl | (simp; done) | (simp [*]; done)), (by first | rfl | (simp; done) | (simp [*]; done)), H', ⟨by have := HJ2.out; have := HK2.out; have := HK3.out; have := HK4.out; have := HJ31.out; omega⟩, ⟨by (with_reducible repeat (first | apply Kd.R_alloc | apply Kd.R_drewN | apply Kd.R_drew)); exact HO_8.out⟩, ⟨by (with_reducible repeat (first | refine blk_drewN ?_ _ | refine blk_drew ?_ | refine blk_alloc ?_ _)); exact BK121.out⟩, ⟨by repeat (first | (with_reducible first | exact HB.out | apply below_alloc | apply pw_below_drewN | apply below_drew1 | refine below_set ?_ GE121.out | refine below_set ?_ GE127.out) | exact HB.out)⟩⟩
                     ·replace c48 := Bool.eq_false_iff.mpr c48
                      subst c48
                      have H1 : (if (x8_4.length : Int) = 0 then (spec_NextMatch.l2 kj31 l0 a1 (([((rd_T106 l0 x38_3).f0), ((rd_T106 y122 x48_4).f0)] : List ByteArray)) (wrap64 (((rd_T106 l0 x38_3).f2) + ((rd_T106 y122 x48_4).f2))) t128 l0 (l0.length : Int) x38_3 y122 (y122.length : Int) (wrap64 (x48_4 + 1)) ((rd_T106 l0 x38_3).f0) ((rd_T106 l0 x38_3).f1) ((rd_T106 l0 x38_3).f2)) else (if (wrap64 (((rd_T106 l0 x38_3).f2) + ((rd_T106 y122 x48_4).f2))) < x9_4 then (spec_NextMatch.l2 kj31 l0 a1 (([((rd_T106 l0 x38_3).f0), ((rd_T106 y122 x48_4).f0)] : List ByteArray)) (wrap64 (((rd_T106 l0 x38_3).f2) + ((rd_T106 y122 x48_4).f2))) t128 l0 (l0.length : Int) x38_3 y122 (y122.length : Int) (wrap64 (x48_4 + 1)) ((rd_T106 l0 x38_3).f0) ((rd_T106 l0 x38_3).f1) ((rd_T106 l0 x38_3).f2)) else (if (wrap64 (((rd_T106 l0 x38_3).f2) + ((rd_T106 y122 x48_4).f2))) = x9_4 then (if t128 < x10_4 then (spec_NextMatch.l2 kj31 l0 a1 (([((rd_T106 l0 x38_3).f0), ((rd_T106 y122 x48_4).f0)] : List ByteArray)) (wrap64 (((rd_T106 l0 x38_3).f2) + ((rd_T106 y122 x48_4).f2))) t128 l0 (l0.length : Int) x38_3 y122 (y122.length : Int) (wrap64 (x48_4 + 1)) ((rd_T106 l0 x38_3).f0) ((rd_T106 l0 x38_3).f1) ((rd_T106 l0 x38_3).f2)) else (spec_NextMatch.l2 kj31 l0 a1 x8_4 x9_4 x10_4 l0 (l0.length : Int) x38_3 y122 (y122.length : Int) (wrap64 (x48_4 + 1)) ((rd_T106 l0 x38_3).f0) ((rd_T106 l0 x38_3).f1) ((rd_T106 l0 x38_3).f2))) else (spec_NextMatch.l2 kj31 l0 a1 x8_4 x9_4 x10_4 l0 (l0.length : Int) x38_3 y122 (y122.length : Int) (wrap64 (x48_4 + 1)) ((rd_T106 l0 x38_3).f0) ((rd_T106 l0 x38_3).f1) ((rd_T106 l0 x38_3).f2))))) = some (r1, r2) := by rw [if_neg (show ¬ (false = true) by decide)] at H; exact H
                      clear H
                      have H := H1
                      clear H1
                      by_cases c49 : (x8_4.length : Int) = 0
                      ·rw [if_pos c49] at H
                       have c49b0 : ((x8_4.length : Int) == 0) = true := beq_iff_eq.mpr c49
                       have c49b1 : ((x8_4.length : Int) != 0) = false := bne_eq_false_iff_eq.mpr c49
                       clear c49
                       obtain ⟨y131, hy131⟩ : ∃ y_ : List ByteArray, y_ = (([((rd_T106 l0 x38_3).f0), ((rd_T106 y122 x48_4).f0)] : List ByteArray)) := ⟨_, rfl⟩
                       replace H : (spec_NextMatch.l2 kj31 l0 a1 y131 (wrap64 (((rd_T106 l0 x38_3).f2) + ((rd_T106 y122 x48_4).f2))) t128 l0 (l0.length : Int) x38_3 y122 (y122.length : Int) (wrap64 (x48_4 + 1)) ((rd_T106 l0 x38_3).f0) ((rd_T106 l0 x38_3).f1) ((rd_T106 l0 x38_3).f2)) = some (r1, r2) := by first | (rw [hy131]; with_reducible exact H) | (have H2_ := (Option.bind_some _ _).symm.trans H; rw [hy131]; with_reducible exact H2_) | (have H2_ := (Option.bind_some _ _).symm.trans H; with_reducible exact H2_) | with_reducible exact H | (rw [hy131]; exact H) | exact H
                       have Ny131 := Aside0.mk hy131
                       clear hy131
                       have H' := Aside0.mk H
                       clear H
                       obtain ⟨Ao50, co50, eo50⟩ := Kd.R_slice HO_8.out
                       subst eo50
                       have hnb51 := NB121_127.out
                       have hnc51 := NB127_121.out
                       have hcz52_0 : wc.cell? ⟨gb121, 0, none⟩ = some (.string ((rd_T106 l0 x38_3).f0)) := (blk_cell BK121.out 0).trans rfl
                       have hcz52_1 : wc.cell? ⟨gb121, 1, none⟩ = some (.int .i64 ((rd_T106 l0 x38_3).f1)) := (blk_cell BK121.out 1).trans rfl
                       have hcz52_2 : wc.cell? ⟨gb121, 2, none⟩ = some (.int .i64 ((rd_T106 l0 x38_3).f2)) := (blk_cell BK121.out 2).trans rfl
                       have hfz52_0 := blk_frozen BK121.out 0
                       have hfz52_1 := blk_frozen BK121.out 1
                       have hfz52_2 := blk_frozen BK121.out 2
                       have hcz53_0 : wc.cell? ⟨gb127, 0, none⟩ = some (.string ((rd_T106 y122 x48_4).f0)) := (blk_cell BK127.out 0).trans rfl
                       have hcz53_1 : wc.cell? ⟨gb127, 1, none⟩ = some (.int .i64 ((rd_T106 y122 x48_4).f1)) := (blk_cell BK127.out 1).trans rfl
                       have hcz53_2 : wc.cell? ⟨gb127, 2, none⟩ = some (.int .i64 ((rd_T106 y122 x48_4).f2)) := (blk_cell BK127.out 2).trans rfl
                       have hfz53_0 := blk_frozen BK127.out 0
                       have hfz53_1 := blk_frozen BK127.out 1
                       have hfz53_2 := blk_frozen BK127.out 2
                       go_wp2_with (first | ((with_reducible refine gate_dst (N := 97) rfl ?_); refine Kd.R_lit Kd.string _ 9 ?hg (N := 97) ?hd (xs := ([((rd_T106 l0 x38_3).f0), ((rd_T106 y122 x48_4).f0)] : List ByteArray)) (inner := [.string ((rd_T106 l0 x38_3).f0), .string ((rd_T106 y122 x48_4).f0)]) (ok := fun _ => True) (okp := fun _ => True) ?hr ?hp (fun _ hk => hk) trivial (Below.refl _ _) (Nat.le_refl _) (by simp) ?_; (case hd => rfl); (case hg => rfl); (case hr => first | (go_simp; done) | (go_simp; rfl)); (case hp => exact (Reps.one (show Kd.M Kd.string _ _ _ ((rd_T106 l0 x38_3).f0) [.string ((rd_T106 l0 x38_3).f0)] from rfl) (Reps.one (show Kd.M Kd.string _ _ _ ((rd_T106 y122 x48_4).f0) [.string ((rd_T106 y122 x48_4).f0)] from rfl) (Reps.none _ _)))); intro v132 w54 ho55 hb hg_ hnew_; clear hg_ hnew_; (first | rw [← Ny131.out] at ho55 | (simp only [Int.reduceToNat] at ho55; rw [← Ny131.out] at ho55)); have n0_ := Aside0.mk (Kd.R_elder' (by (with_reducible repeat (first | apply Kd.R_alloc | apply Kd.R_drewN | apply Kd.R_drew)); exact HO_8.out) (Kd.R_base ho55) hb); have n1_ := Aside0.mk (Kd.R_lower (Kd.R_new' ho55 (Kd.R_lt (by (with_reducible repeat (first | apply Kd.R_alloc | apply Kd.R_drewN | apply Kd.R_drew)); exact HO_8.out))) (below_size (by repeat (first | (with_reducible first | exact HB.out | apply below_alloc | apply pw_below_drewN | apply below_drew1 | refine below_set ?_ GE121.out | refine below_set ?_ GE127.out) | exact HB.out)))); have n2_ := Aside0.mk (blk_below (g := gb121) (o := .cells #[.string ((rd_T106 l0 x38_3).f0), .int .i64 ((rd_T106 l0 x38_3).f1), .int .i64 ((rd_T106 l0 x38_3).f2)] 106 (0, 0)) (by (with_reducible repeat (first | refine blk_drewN ?_ _ | refine blk_drew ?_ | refine blk_alloc ?_ _)); exact BK121.out) hb); have n3_ := Aside0.mk (blk_below (g := gb127) (o := .cells #[.string ((rd_T106 y122 x48_4).f0), .int .i64 ((rd_T106 y122 x48_4).f1), .int .i64 ((rd_T106 y122 x48_4).f2)] 106 (0, 0)) (by (with_reducible repeat (first | refine blk_drewN ?_ _ | refine blk_drew ?_ | refine blk_alloc ?_ _)); exact BK127.out) hb); have n4_ := Aside0.mk (below_step (by repeat (first | (with_reducible first | exact HB.out | apply below_alloc | apply pw_below_drewN | apply below_drew1 | refine below_set ?_ GE121.out | refine below_set ?_ GE127.out) | exact HB.out)) hb); clear HO_8; clear BK121; clear BK127; clear HB; have HO_8 := n0_; have HO133 := n1_; have BK121 := n2_; have BK127 := n3_; have HB := n4_; clear n0_ n1_ n2_ n3_ n4_; clear hb ho55))
                       go_roundg kj31
                       case measure => have := HJ2.out; have := HK2.out; have := HK3.out; have := HK4.out; have := HJ31.out; omega
                       case rel => exact ⟨(y131), ((wrap64 (((rd_T106 l0 x38_3).f2) + ((rd_T106 y122 x48_4).f2)))), (t128), (wrap64 (x48_4 + 1)), (by first | rfl | (simp; done) | (simp [*]; done)), (by first | rfl | (simp; done) | (simp [*]; done)), (by first | rfl | (simp; done) | (simp [*]; done)), H', ⟨by have := HJ2.out; have := HK2.out; have := HK3.out; have := HK4.out; have := HJ31.out; omega⟩, ⟨by (with_reducible repeat (first | apply Kd.R_alloc | apply Kd.R_drewN | apply Kd.R_drew)); exact Kd.R_mono HO133.out (fun _ hk => trivial)⟩, ⟨by (with_reducible repeat (first | refine blk_drewN ?_ _ | refine blk_drew ?_ | refine blk_alloc ?_ _)); exact BK121.out⟩, ⟨by repeat (first | (with_reducible first | exact HB.out | apply below_alloc | apply pw_below_drewN | apply below_drew1 | refine below_set ?_ GE121.out | refine below_set ?_ GE127.out) | exact HB.out)⟩⟩
                      ·rw [if_neg c49] at H
                       have c49b0 : ((x8_4.length : Int) == 0) = false := beq_eq_false_iff_ne.mpr c49
                       have c49b1 : ((x8_4.length : Int) != 0) = true := bne_iff_ne.mpr c49
                       have c49b2 : ¬ (x8_4 = []) := fun h_ => c49 (by rw [h_]; rfl)
                       by_cases c56 : (wrap64 (((rd_T106 l0 x38_3).f2) + ((rd_T106 y122 x48_4).f2))) < x9_4
                       ·rw [if_pos c56] at H
                        have c56b0 : decide ((wrap64 (((rd_T106 l0 x38_3).f2) + ((rd_T106 y122 x48_4).f2))) < x9_4) = true := decide_eq_true c56
                        clear c56
                        obtain ⟨y134, hy134⟩ : ∃ y_ : List ByteArray, y_ = (([((rd_T106 l0 x38_3).f0), ((rd_T106 y122 x48_4).f0)] : List ByteArray)) := ⟨_, rfl⟩
                        replace H : (spec_NextMatch.l2 kj31 l0 a1 y134 (wrap64 (((rd_T106 l0 x38_3).f2) + ((rd_T106 y122 x48_4).f2))) t128 l0 (l0.length : Int) x38_3 y122 (y122.length : Int) (wrap64 (x48_4 + 1)) ((rd_T106 l0 x38_3).f0) ((rd_T106 l0 x38_3).f1) ((rd_T106 l0 x38_3).f2)) = some (r1, r2) := by first | (rw [hy134]; with_reducible exact H) | (have H2_ := (Option.bind_some _ _).symm.trans H; rw [hy134]; with_reducible exact H2_) | (have H2_ := (Option.bind_some _ _).symm.trans H; with_reducible exact H2_) | with_reducible exact H | (rw [hy134]; exact H) | exact H
                        have Ny134 := Aside0.mk hy134
                        clear hy134
                        have H' := Aside0.mk H
                        clear H
                        obtain ⟨Ao57, co57, eo57⟩ := Kd.R_slice HO_8.out
                        subst eo57
                        have hnb58 := NB121_127.out
                        have hnc58 := NB127_121.out
                        have hcz59_0 : wc.cell? ⟨gb121, 0, none⟩ = some (.string ((rd_T106 l0 x38_3).f0)) := (blk_cell BK121.out 0).trans rfl
                        have hcz59_1 : wc.cell? ⟨gb121, 1, none⟩ = some (.int .i64 ((rd_T106 l0 x38_3).f1)) := (blk_cell BK121.out 1).trans rfl
                        have hcz59_2 : wc.cell? ⟨gb121, 2, none⟩ = some (.int .i64 ((rd_T106 l0 x38_3).f2)) := (blk_cell BK121.out 2).trans rfl
                        have hfz59_0 := blk_frozen BK121.out 0
                        have hfz59_1 := blk_frozen BK121.out 1
                        have hfz59_2 := blk_frozen BK121.out 2
                        have hcz60_0 : wc.cell? ⟨gb127, 0, none⟩ = some (.string ((rd_T106 y122 x48_4).f0)) := (blk_cell BK127.out 0).trans rfl
                        have hcz60_1 : wc.cell? ⟨gb127, 1, none⟩ = some (.int .i64 ((rd_T106 y122 x48_4).f1)) := (blk_cell BK127.out 1).trans rfl
                        have hcz60_2 : wc.cell? ⟨gb127, 2, none⟩ = some (.int .i64 ((rd_T106 y122 x48_4).f2)) := (blk_cell BK127.out 2).trans rfl
                        have hfz60_0 := blk_frozen BK127.out 0
                        have hfz60_1 := blk_frozen BK127.out 1
                        have hfz60_2 := blk_frozen BK127.out 2
                        go_wp2_with (first | ((with_reducible refine gate_dst (N := 97) rfl ?_); refine Kd.R_lit Kd.string _ 9 ?hg (N := 97) ?hd (xs := ([((rd_T106 l0 x38_3).f0), ((rd_T106 y122 x48_4).f0)] : List ByteArray)) (inner := [.string ((rd_T106 l0 x38_3).f0), .string ((rd_T106 y122 x48_4).f0)]) (ok := fun _ => True) (okp := fun _ => True) ?hr ?hp (fun _ hk => hk) trivial (Below.refl _ _) (Nat.le_refl _) (by simp) ?_; (case hd => rfl); (case hg => rfl); (case hr => first | (go_simp; done) | (go_simp; rfl)); (case hp => exact (Reps.one (show Kd.M Kd.string _ _ _ ((rd_T106 l0 x38_3).f0) [.string ((rd_T106 l0 x38_3).f0)] from rfl) (Reps.one (show Kd.M Kd.string _ _ _ ((rd_T106 y122 x48_4).f0) [.string ((rd_T106 y122 x48_4).f0)] from rfl) (Reps.none _ _)))); intro v135 w61 ho62 hb hg_ hnew_; clear hg_ hnew_; (first | rw [← Ny134.out] at ho62 | (simp only [Int.reduceToNat] at ho62; rw [← Ny134.out] at ho62)); have n0_ := Aside0.mk (Kd.R_elder' (by (with_reducible repeat (first | apply Kd.R_alloc | apply Kd.R_drewN | apply Kd.R_drew)); exact HO_8.out) (Kd.R_base ho62) hb); have n1_ := Aside0.mk (Kd.R_lower (Kd.R_new' ho62 (Kd.R_lt (by (with_reducible repeat (first | apply Kd.R_alloc | apply Kd.R_drewN | apply Kd.R_drew)); exact HO_8.out))) (below_size (by repeat (first | (with_reducible first | exact HB.out | apply below_alloc | apply pw_below_drewN | apply below_drew1 | refine below_set ?_ GE121.out | refine below_set ?_ GE127.out) | exact HB.out)))); have n2_ := Aside0.mk (blk_below (g := gb121) (o := .cells #[.string ((rd_T106 l0 x38_3).f0), .int .i64 ((rd_T106 l0 x38_3).f1), .int .i64 ((rd_T106 l0 x38_3).f2)] 106 (0, 0)) (by (with_reducible repeat (first | refine blk_drewN ?_ _ | refine blk_drew ?_ | refine blk_alloc ?_ _)); exact BK121.out) hb); have n3_ := Aside0.mk (blk_below (g := gb127) (o := .cells #[.string ((rd_T106 y122 x48_4).f0), .int .i64 ((rd_T106 y122 x48_4).f1), .int .i64 ((rd_T106 y122 x48_4).f2)] 106 (0, 0)) (by (with_reducible repeat (first | refine blk_drewN ?_ _ | refine blk_drew ?_ | refine blk_alloc ?_ _)); exact BK127.out) hb); have n4_ := Aside0.mk (below_step (by repeat (first | (with_reducible first | exact HB.out | apply below_alloc | apply pw_below_drewN | apply below_drew1 | refine below_set ?_ GE121.out | refine below_set ?_ GE127.out) | exact HB.out)) hb); clear HO_8; clear BK121; clear BK127; clear HB; have HO_8 := n0_; have HO136 := n1_; have BK121 := n2_; have BK127 := n3_; have HB := n4_; clear n0_ n1_ n2_ n3_ n4_; clear hb ho62))
                        go_roundg kj31
                        case measure => have := HJ2.out; have := HK2.out; have := HK3.out; have := HK4.out; have := HJ31.out; omega
                        case rel => exact ⟨(y134), ((wrap64 (((rd_T106 l0 x38_3).f2) + ((rd_T106 y122 x48_4).f2)))), (t128), (wrap64 (x48_4 + 1)), (by first | rfl | (simp; done) | (simp [*]; done)), (by first | rfl | (simp; done) | (simp [*]; done)), (by first | rfl | (simp; done) | (simp [*]; done)), H', ⟨by have := HJ2.out; have := HK2.out; have := HK3.out; have := HK4.out; have := HJ31.out; omega⟩, ⟨by (with_reducible repeat (first | apply Kd.R_alloc | apply Kd.R_drewN | apply Kd.R_drew)); exact Kd.R_mono HO136.out (fun _ hk => trivial)⟩, ⟨by (with_reducible repeat (first | refine blk_drewN ?_ _ | refine blk_drew ?_ | refine blk_alloc ?_ _)); exact BK121.out⟩, ⟨by repeat (first | (with_reducible first | exact HB.out | apply below_alloc | apply pw_below_drewN | apply below_drew1 | refine below_set ?_ GE121.out | refine below_set ?_ GE127.out) | exact HB.out)⟩⟩
                       ·rw [if_neg c56] at H
                        have c56b0 : decide ((wrap64 (((rd_T106 l0 x38_3).f2) + ((rd_T106 y122 x48_4).f2))) < x9_4) = false := decide_eq_false c56
                        clear c56
                        by_cases c63 : (wrap64 (((rd_T106 l0 x38_3).f2) + ((rd_T106 y122 x48_4).f2))) = x9_4
                        ·rw [if_pos c63] at H
                         have c63b0 : ((wrap64 (((rd_T106 l0 x38_3).f2) + ((rd_T106 y122 x48_4).f2))) == x9_4) = true := beq_iff_eq.mpr c63
                         have c63b1 : ((wrap64 (((rd_T106 l0 x38_3).f2) + ((rd_T106 y122 x48_4).f2))) != x9_4) = false := bne_eq_false_iff_eq.mpr c63
                         clear c63
                         by_cases c64 : t128 < x10_4
                         ·rw [if_pos c64] at H
                          have c64b0 : decide (t128 < x10_4) = true := decide_eq_true c64
                          clear c64
                          obtain ⟨y137, hy137⟩ : ∃ y_ : List ByteArray, y_ = (([((rd_T106 l0 x38_3).f0), ((rd_T106 y122 x48_4).f0)] : List ByteArray)) := ⟨_, rfl⟩
                          replace H : (spec_NextMatch.l2 kj31 l0 a1 y137 (wrap64 (((rd_T106 l0 x38_3).f2) + ((rd_T106 y122 x48_4).f2))) t128 l0 (l0.length : Int) x38_3 y122 (y122.length : Int) (wrap64 (x48_4 + 1)) ((rd_T106 l0 x38_3).f0) ((rd_T106 l0 x38_3).f1) ((rd_T106 l0 x38_3).f2)) = some (r1, r2) := by first | (rw [hy137]; with_reducible exact H) | (have H2_ := (Option.bind_some _ _).symm.trans H; rw [hy137]; with_reducible exact H2_) | (have H2_ := (Option.bind_some _ _).symm.trans H; with_reducible exact H2_) | with_reducible exact H | (rw [hy137]; exact H) | exact H
                          have Ny137 := Aside0.mk hy137
                          clear hy137
                          have H' := Aside0.mk H
                          clear H
                          obtain ⟨Ao65, co65, eo65⟩ := Kd.R_slice HO_8.out
                          subst eo65
                          have hnb66 := NB121_127.out
                          have hnc66 := NB127_121.out
                          have hcz67_0 : wc.cell? ⟨gb121, 0, none⟩ = some (.string ((rd_T106 l0 x38_3).f0)) := (blk_cell BK121.out 0).trans rfl
                          have hcz67_1 : wc.cell? ⟨gb121, 1, none⟩ = some (.int .i64 ((rd_T106 l0 x38_3).f1)) := (blk_cell BK121.out 1).trans rfl
                          have hcz67_2 : wc.cell? ⟨gb121, 2, none⟩ = some (.int .i64 ((rd_T106 l0 x38_3).f2)) := (blk_cell BK121.out 2).trans rfl
                          have hfz67_0 := blk_frozen BK121.out 0
                          have hfz67_1 := blk_frozen BK121.out 1
                          have hfz67_2 := blk_frozen BK121.out 2
                          have hcz68_0 : wc.cell? ⟨gb127, 0, none⟩ = some (.string ((rd_T106 y122 x48_4).f0)) := (blk_cell BK127.out 0).trans rfl
                          have hcz68_1 : wc.cell? ⟨gb127, 1, none⟩ = some (.int .i64 ((rd_T106 y122 x48_4).f1)) := (blk_cell BK127.out 1).trans rfl
                          have hcz68_2 : wc.cell? ⟨gb127, 2, none⟩ = some (.int .i64 ((rd_T106 y122 x48_4).f2)) := (blk_cell BK127.out 2).trans rfl
                          have hfz68_0 := blk_frozen BK127.out 0
                          have hfz68_1 := blk_frozen BK127.out 1
                          have hfz68_2 := blk_frozen BK127.out 2
                          go_wp2_with (first | ((with_reducible refine gate_dst (N := 97) rfl ?_); refine Kd.R_lit Kd.string _ 9 ?hg (N := 97) ?hd (xs := ([((rd_T106 l0 x38_3).f0), ((rd_T106 y122 x48_4).f0)] : List ByteArray)) (inner := [.string ((rd_T106 l0 x38_3).f0), .string ((rd_T106 y122 x48_4).f0)]) (ok := fun _ => True) (okp := fun _ => True) ?hr ?hp (fun _ hk => hk) trivial (Below.refl _ _) (Nat.le_refl _) (by simp) ?_; (case hd => rfl); (case hg => rfl); (case hr => first | (go_simp; done) | (go_simp; rfl)); (case hp => exact (Reps.one (show Kd.M Kd.string _ _ _ ((rd_T106 l0 x38_3).f0) [.string ((rd_T106 l0 x38_3).f0)] from rfl) (Reps.one (show Kd.M Kd.string _ _ _ ((rd_T106 y122 x48_4).f0) [.string ((rd_T106 y122 x48_4).f0)] from rfl) (Reps.none _ _)))); intro v138 w69 ho70 hb hg_ hnew_; clear hg_ hnew_; (first | rw [← Ny137.out] at ho70 | (simp only [Int.reduceToNat] at ho70; rw [← Ny137.out] at ho70)); have n0_ := Aside0.mk (Kd.R_elder' (by (with_reducible repeat (first | apply Kd.R_alloc | apply Kd.R_drewN | apply Kd.R_drew)); exact HO_8.out) (Kd.R_base ho70) hb); have n1_ := Aside0.mk (Kd.R_lower (Kd.R_new' ho70 (Kd.R_lt (by (with_reducible repeat (first | apply Kd.R_alloc | apply Kd.R_drewN | apply Kd.R_drew)); exact HO_8.out))) (below_size (by repeat (first | (with_reducible first | exact HB.out | apply below_alloc | apply pw_below_drewN | apply below_drew1 | refine below_set ?_ GE121.out | refine below_set ?_ GE127.out) | exact HB.out)))); have n2_ := Aside0.mk (blk_below (g := gb121) (o := .cells #[.string ((rd_T106 l0 x38_3).f0), .int .i64 ((rd_T106 l0 x38_3).f1), .int .i64 ((rd_T106 l0 x38_3).f2)] 106 (0, 0)) (by (with_reducible repeat (first | refine blk_drewN ?_ _ | refine blk_drew ?_ | refine blk_alloc ?_ _)); exact BK121.out) hb); have n3_ := Aside0.mk (blk_below (g := gb127) (o := .cells #[.string ((rd_T106 y122 x48_4).f0), .int .i64 ((rd_T106 y122 x48_4).f1), .int .i64 ((rd_T106 y122 x48_4).f2)] 106 (0, 0)) (by (with_reducible repeat (first | refine blk_drewN ?_ _ | refine blk_drew ?_ | refine blk_alloc ?_ _)); exact BK127.out) hb); have n4_ := Aside0.mk (below_step (by repeat (first | (with_reducible first | exact HB.out | apply below_alloc | apply pw_below_drewN | apply below_drew1 | refine below_set ?_ GE121.out | refine below_set ?_ GE127.out) | exact HB.out)) hb); clear HO_8; clear BK121; clear BK127; clear HB; have HO_8 := n0_; have HO139 := n1_; have BK121 := n2_; have BK127 := n3_; have HB := n4_; clear n0_ n1_ n2_ n3_ n4_; clear hb ho70))
                          go_roundg kj31
                          case measure => have := HJ2.out; have := HK2.out; have := HK3.out; have := HK4.out; have := HJ31.out; omega
                          case rel => exact ⟨(y137), ((wrap64 (((rd_T106 l0 x38_3).f2) + ((rd_T106 y122 x48_4).f2)))), (t128), (wrap64 (x48_4 + 1)), (by first | rfl | (simp; done) | (simp [*]; done)), (by first | rfl | (simp; done) | (simp [*]; done)), (by first | rfl | (simp; done) | (simp [*]; done)), H', ⟨by have := HJ2.out; have := HK2.out; have := HK3.out; have := HK4.out; have := HJ31.out; omega⟩, ⟨by (with_reducible repeat (first | apply Kd.R_alloc | apply Kd.R_drewN | apply Kd.R_drew)); exact Kd.R_mono HO139.out (fun _ hk => trivial)⟩, ⟨by (with_reducible repeat (first | refine blk_drewN ?_ _ | refine blk_drew ?_ | refine blk_alloc ?_ _)); exact BK121.out⟩, ⟨by repeat (first | (with_reducible first | exact HB.out | apply below_alloc | apply pw_below_drewN | apply below_drew1 | refine below_set ?_ GE121.out | refine below_set ?_ GE127.out) | exact HB.out)⟩⟩
                         ·rw [if_neg c64] at H
                          have c64b0 : decide (t128 < x10_4) = false := decide_eq_false c64
                          clear c64
                          have H' := Aside0.mk H
                          clear H
                          obtain ⟨Ao71, co71, eo71⟩ := Kd.R_slice HO_8.out
                          subst eo71
                          go_wp2
                          go_roundg kj31
                          case measure => have := HJ2.out; have := HK2.out; have := HK3.out; have := HK4.out; have := HJ31.out; omega
                          case rel => exact ⟨(x8_4), (x9_4), (x10_4), (wrap64 (x48_4 + 1)), (by first | rfl | (simp; done) | (simp [*]; done)), (by first | rfl | (simp; done) | (simp [*]; done)), (by first | rfl | (simp; done) | (simp [*]; done)), H', ⟨by have := HJ2.out; have := HK2.out; have := HK3.out; have := HK4.out; have := HJ31.out; omega⟩, ⟨by (with_reducible repeat (first | apply Kd.R_alloc | apply Kd.R_drewN | apply Kd.R_drew)); exact HO_8.out⟩, ⟨by (with_reducible repeat (first | refine blk_drewN ?_ _ | refine blk_drew ?_ | refine blk_alloc ?_ _)); exact BK121.out⟩, ⟨by repeat (first | (with_reducible first | exact HB.out | apply below_alloc | apply pw_below_drewN | apply below_drew1 | refine below_set ?_ GE121.out | refine below_set ?_ GE127.out) | exact HB.out)⟩⟩
                        ·rw [if_neg c63] at H
                         have c63b0 : ((wrap64 (((rd_T106 l0 x38_3).f2) + ((rd_T106 y122 x48_4).f2))) == x9_4) = false := beq_eq_false_iff_ne.mpr c63
                         have c63b1 : ((wrap64 (((rd_T106 l0 x38_3).f2) + ((rd_T106 y122 x48_4).f2))) != x9_4) = true := bne_iff_ne.mpr c63
                         have H' := Aside0.mk H
                         clear H
                         obtain ⟨Ao72, co72, eo72⟩ := Kd.R_slice HO_8.out
                         subst eo72
                         go_wp2
                         go_roundg kj31
                         case measure => have := HJ2.out; have := HK2.out; have := HK3.out; have := HK4.out; have := HJ31.out; omega
                         case rel => exact ⟨(x8_4), (x9_4), (x10_4), (wrap64 (x48_4 + 1)), (by first | rfl | (simp; done) | (simp [*]; done)), (by first | rfl | (simp; done) | (simp [*]; done)), (by first | rfl | (simp; done) | (simp [*]; done)), H', ⟨by have := HJ2.out; have := HK2.out; have := HK3.out; have := HK4.out; have := HJ31.out; omega⟩, ⟨by (with_reducible repeat (first | apply Kd.R_alloc | apply Kd.R_drewN | apply Kd.R_drew)); exact HO_8.out⟩, ⟨by (with_reducible repeat (first | refine blk_drewN ?_ _ | refine blk_drew ?_ | refine blk_alloc ?_ _)); exact BK121.out⟩, ⟨by repeat (first | (with_reducible first | exact HB.out | apply below_alloc | apply pw_below_drewN | apply below_drew1 | refine below_set ?_ GE121.out | refine below_set ?_ GE127.out) | exact HB.out)⟩⟩
                  ·rw [if_neg c30] at H
                   exact absurd H (by simp)
                 ·rw [if_neg c29] at H
                  exact absurd H (by simp)
                ·rw [if_neg c28] at H
                 have c28b0 : decide (x48_4 < (y122.length : Int)) = false := decide_eq_false c28
                 clear c28
                 have H' := Aside0.mk H
                 clear H
                 go_wp2
                 go_roundg k4
                 case measure => have := HJ2.out; have := HK2.out; have := HK3.out; have := HK4.out; omega
                 case rel => exact ⟨(x8_4), (x9_4), (x10_4), (wrap64 (x38_3 + 1)), (by first | rfl | (simp; done) | (simp [*]; done)), (by first | rfl | (simp; done) | (simp [*]; done)), (by first | rfl | (simp; done) | (simp [*]; done)), H', ⟨by have := HJ2.out; have := HK2.out; have := HK3.out; have := HK4.out; omega⟩, ⟨by (with_reducible repeat (first | apply Kd.R_alloc | apply Kd.R_drewN | apply Kd.R_drew)); exact HO_8.out⟩, ⟨by repeat (first | (with_reducible first | exact HB.out | apply below_alloc | apply pw_below_drewN | apply below_drew1 | refine below_set ?_ GE121.out) | exact HB.out)⟩⟩
             ·rw [if_neg c23] at H
              exact absurd H (by simp)
            ·rw [if_neg c22] at H
             exact absurd H (by simp)
           ·rw [if_neg c20] at H
            exact absurd H (by simp)
          ·rw [if_neg c19] at H
           exact absurd H (by simp)
         ·rw [if_neg c18] at H
          have c18b0 : decide (x38_3 < (l0.length : Int)) = false := decide_eq_false c18
          clear c18
          simp only [Option.some.injEq, Prod.mk.injEq] at H
          obtain ⟨rfl, rfl⟩ := H
          go_wp2
          go_ret2
          exact ⟨_, by first | rfl | (simp [errW_none, errW_some] <;> rfl) | (simp [*, errW_none, errW_some] <;> rfl), by (with_reducible repeat (first | apply Kd.R_alloc | apply Kd.R_drewN | apply Kd.R_drew)); exact HO_8.out, by repeat (first | (with_reducible first | exact HB.out | apply below_alloc | apply pw_below_drewN | apply below_drew1) | exact HB.out)⟩

/-! ### laws_toPlayer: function 73 -/
def laws_toPlayer.f (a0_0 : ByteArray) (a0_1 : Int) (a0_2 : Int) : Option (ByteArray × Int × Int) := some (a0_0, a0_1, a0_2)
set_option maxHeartbeats 8000000 in
set_option maxRecDepth 100000 in
theorem laws_toPlayer.calls (a0_0 : ByteArray) (a0_1 : Int) (a0_2 : Int) (r1 : ByteArray) (r2 : Int) (r3 : Int) (w : World) (h : laws_toPlayer.f a0_0 a0_1 a0_2 = some (r1, r2, r3)) :
  Calls Try.prog 73 #[.agg #[.string a0_0, .int .i64 a0_1, .int .i64 a0_2]] w fun e w' => e = .returned (.agg #[.string r1, .int .i64 r2, .int .i64 r3]) ∧ Below w.heap.size w w' := by
 have hu103 := Try.underlying103
 have hu106 := Try.underlying106
 have HB := Aside0.mk (Below.refl w.heap.size w)
 have H : (some (a0_0, a0_1, a0_2)) = some (r1, r2, r3) := h
 clear h
 simp only [Option.some.injEq, Prod.mk.injEq] at H
 obtain ⟨rfl, rfl, rfl⟩ := H
 go_enter Try.func73, Try.ntmps73
 go_wp2_with (first | ((with_reducible refine gate_dst (N := 1) rfl ?_); refine box_event ?hg (N := 1) ?hd (cs := #[.string a0_0, .int .i64 a0_1, .int .i64 a0_2]) (t := 103) ?hr ?_; (case hd => rfl); (case hg => rfl); (case hr => first | (go_simp; done) | (go_simp; rfl)); intro gb140 hg w2 hbox hb; have n0_ := Aside0.mk (below_step (by repeat (first | (with_reducible first | exact HB.out | apply below_alloc | apply pw_below_drewN | apply below_drew1) | exact HB.out)) hb); have n1_ := Aside0.mk (hbox); have n2_ := Aside0.mk ((by rw [hg]; exact (below_size (by repeat (first | (with_reducible first | exact HB.out | apply below_alloc | apply pw_below_drewN | apply below_drew1) | exact HB.out))) : w.heap.size ≤ gb140)); have n3_ := Aside0.mk ((by rw [hg]; exact (below_size (by repeat (first | (with_reducible first | exact HB.out | apply below_alloc | apply pw_below_drewN | apply below_drew1) | exact HB.out))) : w.heap.size ≤ gb140)); clear HB; have HB := n0_; have BK140 := n1_; have GW140 := n2_; have GE140 := n3_; clear n0_ n1_ n2_ n3_; clear hb hbox hg) | ((with_reducible refine gate_dst (N := 2) rfl ?_); refine box_event ?hg (N := 2) ?hd (cs := #[.string (⟨#[]⟩ : ByteArray), .int .i64 0, .int .i64 0]) (t := 106) ?hr ?_; (case hd => rfl); (case hg => rfl); (case hr => first | (go_simp; done) | (go_simp; rfl)); intro gb141 hg w3 hbox hb; have n0_ := Aside0.mk (blk_below (g := gb140) (o := .cells #[.string a0_0, .int .i64 a0_1, .int .i64 a0_2] 103 (0, 0)) (by (with_reducible repeat (first | refine blk_drewN ?_ _ | refine blk_drew ?_ | refine blk_alloc ?_ _)); exact BK140.out) hb); have n1_ := Aside0.mk (below_step (by repeat (first | (with_reducible first | exact HB.out | apply below_alloc | apply pw_below_drewN | apply below_drew1 | refine below_set ?_ GE140.out) | exact HB.out)) hb); have n2_ := Aside0.mk (hbox); have n3_ := Aside0.mk ((by rw [hg]; exact (below_size (by repeat (first | (with_reducible first | exact HB.out | apply below_alloc | apply pw_below_drewN | apply below_drew1 | refine below_set ?_ GE140.out) | exact HB.out))) : w.heap.size ≤ gb141)); have n4_ := Aside0.mk ((by rw [hg]; exact (below_size (by repeat (first | (with_reducible first | exact HB.out | apply below_alloc | apply pw_below_drewN | apply below_drew1 | refine below_set ?_ GE140.out) | exact HB.out))) : w.heap.size ≤ gb141)); have n5_ := Aside0.mk ((by rw [hg]; exact Nat.ne_of_lt (blk_lt (g := gb140) (o := .cells #[.string a0_0, .int .i64 a0_1, .int .i64 a0_2] 103 (0, 0)) (by (with_reducible repeat (first | refine blk_drewN ?_ _ | refine blk_drew ?_ | refine blk_alloc ?_ _)); exact BK140.out)) : gb140 ≠ gb141)); have n6_ := Aside0.mk ((by rw [hg]; exact Nat.ne_of_gt (blk_lt (g := gb140) (o := .cells #[.string a0_0, .int .i64 a0_1, .int .i64 a0_2] 103 (0, 0)) (by (with_reducible repeat (first | refine blk_drewN ?_ _ | refine blk_drew ?_ | refine blk_alloc ?_ _)); exact BK140.out)) : gb141 ≠ gb140)); clear BK140; clear HB; have BK140 := n0_; have HB := n1_; have BK141 := n2_; have GW141 := n3_; have GE141 := n4_; have NB140_141 := n5_; have NB141_140 := n6_; clear n0_ n1_ n2_ n3_ n4_ n5_ n6_; clear hb hbox hg) | ((with_reducible refine gate_dst (N := 3) rfl ?_); refine box_event ?hg (N := 3) ?hd (cs := #[.string (⟨#[]⟩ : ByteArray), .int .i64 0, .int .i64 0]) (t := 106) ?hr ?_; (case hd => rfl); (case hg => rfl); (case hr => first | (go_simp; done) | (go_simp; rfl)); intro gb142 hg w4 hbox hb; have n0_ := Aside0.mk (blk_below (g := gb140) (o := .cells #[.string a0_0, .int .i64 a0_1, .int .i64 a0_2] 103 (0, 0)) (by (with_reducible repeat (first | refine blk_drewN ?_ _ | refine blk_drew ?_ | refine blk_alloc ?_ _)); exact BK140.out) hb); have n1_ := Aside0.mk (blk_below (g := gb141) (o := .cells #[.string (⟨#[]⟩ : ByteArray), .int .i64 0, .int .i64 0] 106 (0, 0)) (by (with_reducible repeat (first | refine blk_drewN ?_ _ | refine blk_drew ?_ | refine blk_alloc ?_ _)); exact BK141.out) hb); have n2_ := Aside0.mk (below_step (by repeat (first | (with_reducible first | exact HB.out | apply below_alloc | apply pw_below_drewN | apply below_drew1 | refine below_set ?_ GE140.out | refine below_set ?_ GE141.out) | exact HB.out)) hb); have n3_ := Aside0.mk (hbox); have n4_ := Aside0.mk ((by rw [hg]; exact (below_size (by repeat (first | (with_reducible first | exact HB.out | apply below_alloc | apply pw_below_drewN | apply below_drew1 | refine below_set ?_ GE140.out | refine below_set ?_ GE141.out) | exact HB.out))) : w.heap.size ≤ gb142)); have n5_ := Aside0.mk ((by rw [hg]; exact (below_size (by repeat (first | (with_reducible first | exact HB.out | apply below_alloc | apply pw_below_drewN | apply below_drew1 | refine below_set ?_ GE140.out | refine below_set ?_ GE141.out) | exact HB.out))) : w.heap.size ≤ gb142)); have n6_ := Aside0.mk ((by rw [hg]; exact Nat.ne_of_lt (blk_lt (g := gb140) (o := .cells #[.string a0_0, .int .i64 a0_1, .int .i64 a0_2] 103 (0, 0)) (by (with_reducible repeat (first | refine blk_drewN ?_ _ | refine blk_drew ?_ | refine blk_alloc ?_ _)); exact BK140.out)) : gb140 ≠ gb142)); have n7_ := Aside0.mk ((by rw [hg]; exact Nat.ne_of_gt (blk_lt (g := gb140) (o := .cells #[.string a0_0, .int .i64 a0_1, .int .i64 a0_2] 103 (0, 0)) (by (with_reducible repeat (first | refine blk_drewN ?_ _ | refine blk_drew ?_ | refine blk_alloc ?_ _)); exact BK140.out)) : gb142 ≠ gb140)); have n8_ := Aside0.mk ((by rw [hg]; exact Nat.ne_of_lt (blk_lt (g := gb141) (o := .cells #[.string (⟨#[]⟩ : ByteArray), .int .i64 0, .int .i64 0] 106 (0, 0)) (by (with_reducible repeat (first | refine blk_drewN ?_ _ | refine blk_drew ?_ | refine blk_alloc ?_ _)); exact BK141.out)) : gb141 ≠ gb142)); have n9_ := Aside0.mk ((by rw [hg]; exact Nat.ne_of_gt (blk_lt (g := gb141) (o := .cells #[.string (⟨#[]⟩ : ByteArray), .int .i64 0, .int .i64 0] 106 (0, 0)) (by (with_reducible repeat (first | refine blk_drewN ?_ _ | refine blk_drew ?_ | refine blk_alloc ?_ _)); exact BK141.out)) : gb142 ≠ gb141)); clear BK140; clear BK141; clear HB; have BK140 := n0_; have BK141 := n1_; have HB := n2_; have BK142 := n3_; have GW142 := n4_; have GE142 := n5_; have NB140_142 := n6_; have NB142_140 := n7_; have NB141_142 := n8_; have NB142_141 := n9_; clear n0_ n1_ n2_ n3_ n4_ n5_ n6_ n7_ n8_ n9_; clear hb hbox hg; have hnb5 := NB140_141.out; have hnc5 := NB141_140.out; have hnb6 := NB140_142.out; have hnc6 := NB142_140.out; have hcz7_0 : w4.cell? ⟨gb140, 0, none⟩ = some (.string a0_0) := (blk_cell BK140.out 0).trans rfl; have hcz7_1 : w4.cell? ⟨gb140, 1, none⟩ = some (.int .i64 a0_1) := (blk_cell BK140.out 1).trans rfl; have hcz7_2 : w4.cell? ⟨gb140, 2, none⟩ = some (.int .i64 a0_2) := (blk_cell BK140.out 2).trans rfl; have hfz7_0 := blk_frozen BK140.out 0; have hfz7_1 := blk_frozen BK140.out 1; have hfz7_2 := blk_frozen BK140.out 2; have hnb8 := NB142_141.out; have hnc8 := NB141_142.out; have hcz9_0 : w4.cell? ⟨gb142, 0, none⟩ = some (.string (⟨#[]⟩ : ByteArray)) := (blk_cell BK142.out 0).trans rfl; have hcz9_1 : w4.cell? ⟨gb142, 1, none⟩ = some (.int .i64 0) := (blk_cell BK142.out 1).trans rfl; have hcz9_2 : w4.cell? ⟨gb142, 2, none⟩ = some (.int .i64 0) := (blk_cell BK142.out 2).trans rfl; have hfz9_0 := blk_frozen BK142.out 0; have hfz9_1 := blk_frozen BK142.out 1; have hfz9_2 := blk_frozen BK142.out 2; have hcz10_0 : w4.cell? ⟨gb141, 0, none⟩ = some (.string (⟨#[]⟩ : ByteArray)) := (blk_cell BK141.out 0).trans rfl; have hcz10_1 : w4.cell? ⟨gb141, 1, none⟩ = some (.int .i64 0) := (blk_cell BK141.out 1).trans rfl; have hcz10_2 : w4.cell? ⟨gb141, 2, none⟩ = some (.int .i64 0) := (blk_cell BK141.out 2).trans rfl; have hfz10_0 := blk_frozen BK141.out 0; have hfz10_1 := blk_frozen BK141.out 1; have hfz10_2 := blk_frozen BK141.out 2))
 refine bodyPost_ret (results_cell_row rfl _ _ gb141 106 #[.string a0_0, .int .i64 a0_1, .int .i64 a0_2] (0, 0) _ rfl (by (with_reducible repeat (first | refine blk_drewN ?_ _ | refine blk_drew ?_ | refine blk_alloc ?_ _)); refine blk_put (cs := #[.string a0_0, .int .i64 a0_1, .int .i64 0]) ?_ 2 _ rfl; (with_reducible repeat (first | refine blk_drewN ?_ _ | refine blk_drew ?_ | refine blk_alloc ?_ _)); refine blk_put (cs := #[.string a0_0, .int .i64 0, .int .i64 0]) ?_ 1 _ rfl; (with_reducible repeat (first | refine blk_drewN ?_ _ | refine blk_drew ?_ | refine blk_alloc ?_ _)); refine blk_put (cs := #[.string (⟨#[]⟩ : ByteArray), .int .i64 0, .int .i64 0]) ?_ 0 _ rfl; (with_reducible repeat (first | refine blk_drewN ?_ _ | refine blk_drew ?_ | refine blk_alloc ?_ _)); refine blk_far ?_ NB141_142.out _; (with_reducible repeat (first | refine blk_drewN ?_ _ | refine blk_drew ?_ | refine blk_alloc ?_ _)); refine blk_far ?_ NB141_142.out _; (with_reducible repeat (first | refine blk_drewN ?_ _ | refine blk_drew ?_ | refine blk_alloc ?_ _)); refine blk_far ?_ NB141_142.out _; (with_reducible repeat (first | refine blk_drewN ?_ _ | refine blk_drew ?_ | refine blk_alloc ?_ _)); exact BK141.out) Try.underlying106 rfl (by kernel_rfl)) rfl ?_
 exact ⟨by first | rfl | (simp [errW_none, errW_some] <;> rfl) | (simp [*, errW_none, errW_some] <;> rfl), by repeat (first | (with_reducible first | exact HB.out | apply below_alloc | apply pw_below_drewN | apply below_drew1 | refine below_set ?_ GE140.out | refine below_set ?_ GE141.out | refine below_set ?_ GE142.out) | exact HB.out)⟩

end Go.Proofs.Ytjbkagmfkcoclaa.XFnExactNextMatch
