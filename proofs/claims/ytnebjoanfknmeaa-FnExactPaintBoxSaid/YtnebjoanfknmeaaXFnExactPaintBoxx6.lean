-- Lean text written by a program of this session out of the translation
import Derived.Test.YtnebjoanfknmeaaXFnExactPaintBoxx0
import Derived.Test.YtnebjoanfknmeaaXFnExactPaintBoxx1
import Derived.Test.YtnebjoanfknmeaaXFnExactPaintBoxx2
import Derived.Test.YtnebjoanfknmeaaXFnExactPaintBoxx4
import Derived.Test.YtnebjoanfknmeaaXFnExactPaintBoxx5
namespace Go.Proofs.Ytnebjoanfknmeaa.XFnExactPaintBox
open Go.RowKit Go.Proofs.YtnebjoanfknmeaaW.PrintWords Go.Proofs.YtnebjoanfknmeaaW.PrintLast Go.Proofs.YtnebjoanfknmeaaW.PrintMore
attribute [local go_sem] max2_int min2_int max_two min_two max_three min_three max_four min_four   -- for this text's walks alone
set_option linter.unusedVariables false
set_option linter.unusedSimpArgs false

/-! ### laws_FnExactPaintBox: function 5 -/
def laws_FnExactPaintBox.f (k : Nat) (a0_0 : Int) (a0_1 : Int) (l0_2 : List Int) (a1_0 : Int) (a1_1 : Int) (a1_2 : Int) (a1_3 : Int) (a2 : Int) : Option (Bool) := (laws_szSheet.f a0_0 a0_1 l0_2 1048576).bind fun t198 => (if t198 < 0 then (some true) else ((laws_toSheet.f k a0_0 a0_1 l0_2).bind fun bt199 => ((laws_toPlaced.f a1_0 a1_1 a1_2 a1_3).bind fun bt204 => ((spec_PaintBox.f k bt199.1 bt199.2.1 bt199.2.2 bt204.1 bt204.2.1 bt204.2.2.1 bt204.2.2.2 a2).bind fun bt208 => ((laws_toSheet.f k a0_0 a0_1 l0_2).bind fun bt215 => ((laws_toPlaced.f a1_0 a1_1 a1_2 a1_3).bind fun bt221 => ((impl_PaintBox.f k bt215.1 bt215.2.1 bt215.2.2 bt221.1 bt221.2.1 bt221.2.2.1 bt221.2.2.2 a2).bind fun bt225 => ((laws_eqSheet.f k bt225.1 bt225.2.1 bt225.2.2.1 bt208.1 bt208.2.1 bt208.2.2.1).bind fun t232 => (if t232 = true then (if (bt225.2.2.2 != bt208.2.2.2) = true then (some false) else ((laws_toSheet.f k a0_0 a0_1 l0_2).bind fun bt233 => ((laws_eqSheet.f k bt215.1 bt215.2.1 bt215.2.2 bt233.1 bt233.2.1 bt233.2.2).bind fun t238 => (if t238 = true then ((laws_markSheet.f k bt215.1 bt215.2.1 bt215.2.2 1).bind fun bt239 => (if bt239.1 < 0 then (some false) else ((laws_eqSheet.f k bt225.1 bt225.2.1 bt225.2.2.1 bt208.1 bt208.2.1 bt208.2.2.1).bind fun t241 => (if t241 = true then ((laws_markSheet.f k bt225.1 bt225.2.1 bt225.2.2.1 1).bind fun bt242 => ((laws_heldSheet.f k bt225.1 bt225.2.1 bt242.2 1).bind fun t244 => (if t244 < 0 then (some false) else (if t244 = bt242.1 then ((laws_toSheet.f k a0_0 a0_1 l0_2).bind fun bt245 => ((laws_toPlaced.f a1_0 a1_1 a1_2 a1_3).bind fun bt250 => ((impl_PaintBox.f k bt245.1 bt245.2.1 bt245.2.2 bt250.1 bt250.2.1 bt250.2.2.1 bt250.2.2.2 a2).bind fun bt254 => ((laws_eqSheet.f k bt254.1 bt254.2.1 bt254.2.2.1 bt208.1 bt208.2.1 bt208.2.2.1).bind fun t261 => (if t261 = true then (if (bt254.2.2.2 != bt208.2.2.2) = true then (some false) else ((laws_heldSheet.f k bt225.1 bt225.2.1 bt242.2 1).bind fun t262 => (if t262 < 0 then (some false) else (if t262 = bt242.1 then (some true) else (some false))))) else (some false)))))) else (some false))))) else (some false))))) else (some false))))) else (some false))))))))))
theorem laws_FnExactPaintBox.mono : ∀ a0 a1 a2 a3 a4 a5 a6 a7 k, LeO (laws_FnExactPaintBox.f k a0 a1 a2 a3 a4 a5 a6 a7) (laws_FnExactPaintBox.f (k + 1) a0 a1 a2 a3 a4 a5 a6 a7) := by
 intro a0 a1 a2 a3 a4 a5 a6 a7 k
 unfold laws_FnExactPaintBox.f
 repeat' first
   | (with_reducible exact impl_PaintBox.mono _ _ _ _ _ _ _ _ _)
   | (with_reducible exact laws_eqSheet.mono _ _ _ _ _ _ _)
   | (with_reducible exact laws_heldSheet.mono _ _ _ _ _)
   | (with_reducible exact laws_markSheet.mono _ _ _ _ _)
   | (with_reducible exact laws_toSheet.mono _ _ _ _)
   | (with_reducible exact spec_PaintBox.mono _ _ _ _ _ _ _ _ _)
   | (with_reducible exact LeO.refl _)
   | (with_reducible exact LeO.none _)
   | (with_reducible refine LeO.ite ?_ ?_)
   | (with_reducible refine LeO.bind ?_ (fun _ => ?_))
   | exact impl_PaintBox.mono _ _ _ _ _ _ _ _ _
   | exact laws_eqSheet.mono _ _ _ _ _ _ _
   | exact laws_heldSheet.mono _ _ _ _ _
   | exact laws_markSheet.mono _ _ _ _ _
   | exact laws_toSheet.mono _ _ _ _
   | exact spec_PaintBox.mono _ _ _ _ _ _ _ _ _
   | exact LeO.none _
   | refine LeO.ite ?_ ?_
   | refine LeO.bind ?_ (fun _ => ?_)
def laws_FnExactPaintBox.T5 : Bool × List (List Nat × List Nat) := (true, [([], []), ([0], [0]), ([], []), ([2, 1], [2]), ([], []), ([1, 3, 4, 3], [1, 3, 4]), ([5], [5]), ([6], [6]), ([6], [6]), ([], []), ([9, 7, 5, 0, 1, 2, 3, 4, 5, 6, 7, 9], [7, 9]), ([8, 10, 0, 1, 2, 3, 4, 5, 6, 7, 8, 9, 10], [8])])
def laws_FnExactPaintBox.B5 : List Nat := [0, 1, 0, 7, 0, 31, 63, 127, 127, 0, 767, 2047]
theorem laws_FnExactPaintBox.tab5 : rtab .any (opsOf Try.f5 5) = laws_FnExactPaintBox.T5 := by kernel_rfl
theorem laws_FnExactPaintBox.bits5 : waitsOk laws_FnExactPaintBox.T5.2 laws_FnExactPaintBox.B5 = true := by kernel_rfl
def laws_FnExactPaintBox.T7 : Bool × List (List Nat × List Nat) := (true, [([], []), ([], []), ([1], [1]), ([], []), ([0, 2, 3, 2], [0, 2, 3]), ([4], [4]), ([5], [5]), ([5], [5]), ([], []), ([8, 6, 4, 0, 1, 2, 3, 4, 5, 6, 8], [6, 8]), ([7, 9, 0, 1, 2, 3, 4, 5, 6, 7, 8, 9], [7])])
def laws_FnExactPaintBox.B7 : List Nat := [0, 0, 2, 0, 15, 31, 63, 63, 0, 383, 1023]
theorem laws_FnExactPaintBox.tab7 : rtab .any (opsOf Try.f5 7) = laws_FnExactPaintBox.T7 := by kernel_rfl
theorem laws_FnExactPaintBox.bits7 : waitsOk laws_FnExactPaintBox.T7.2 laws_FnExactPaintBox.B7 = true := by kernel_rfl
def laws_FnExactPaintBox.T24 : Bool × List (List Nat × List Nat) := (true, [([], []), ([0], [0]), ([], []), ([2, 1], [2]), ([], []), ([1, 3, 4, 3], [1, 3, 4]), ([5], [5]), ([6], [6]), ([6], [6]), ([], []), ([9, 7, 5, 0, 1, 2, 3, 4, 5, 6, 7, 9], [7, 9]), ([8, 10, 0, 1, 2, 3, 4, 5, 6, 7, 8, 9, 10], [8])])
def laws_FnExactPaintBox.B24 : List Nat := [0, 1, 0, 7, 0, 31, 63, 127, 127, 0, 767, 2047]
theorem laws_FnExactPaintBox.tab24 : rtab .any (opsOf Try.f5 24) = laws_FnExactPaintBox.T24 := by kernel_rfl
theorem laws_FnExactPaintBox.bits24 : waitsOk laws_FnExactPaintBox.T24.2 laws_FnExactPaintBox.B24 = true := by kernel_rfl
set_option maxHeartbeats 8000000 in
set_option maxRecDepth 100000 in
theorem laws_FnExactPaintBox.calls (k : Nat) (a0_0 : Int) (a0_1 : Int) (A0_2 : Option Addr) (c0_2 : Nat) (l0_2 : List Int) (a1_0 : Int) (a1_1 : Int) (a1_2 : Int) (a1_3 : Int) (a2 : Int) (w : World) (hr0_2 : Kd.C (Kd.int .i64) w A0_2 l0_2.length l0_2) (hc0_2 : l0_2.length ≤ c0_2) (h : laws_FnExactPaintBox.f k a0_0 a0_1 l0_2 a1_0 a1_1 a1_2 a1_3 a2 = some true) :
  Calls Try.prog 5 #[.agg #[.int .i64 a0_0, .int .i64 a0_1, .slice A0_2 l0_2.length c0_2], .agg #[.int .i64 a1_0, .int .i64 a1_1, .int .i64 a1_2, .int .i64 a1_3], .int .i64 a2] w fun e w' => e = .returned (.bool true) ∧ Below w.heap.size w w' := by
 have hu33 := Try.underlying33
 have hu35 := Try.underlying35
 have hu37 := Try.underlying37
 have HR0_2 := Aside0.mk hr0_2
 have HC0_2 := Aside0.mk hc0_2
 clear hr0_2 hc0_2
 have HB := Aside0.mk (Below.refl w.heap.size w)
 have H : ((laws_szSheet.f a0_0 a0_1 l0_2 1048576).bind fun t198 => (if t198 < 0 then (some true) else ((laws_toSheet.f k a0_0 a0_1 l0_2).bind fun bt199 => ((laws_toPlaced.f a1_0 a1_1 a1_2 a1_3).bind fun bt204 => ((spec_PaintBox.f k bt199.1 bt199.2.1 bt199.2.2 bt204.1 bt204.2.1 bt204.2.2.1 bt204.2.2.2 a2).bind fun bt208 => ((laws_toSheet.f k a0_0 a0_1 l0_2).bind fun bt215 => ((laws_toPlaced.f a1_0 a1_1 a1_2 a1_3).bind fun bt221 => ((impl_PaintBox.f k bt215.1 bt215.2.1 bt215.2.2 bt221.1 bt221.2.1 bt221.2.2.1 bt221.2.2.2 a2).bind fun bt225 => ((laws_eqSheet.f k bt225.1 bt225.2.1 bt225.2.2.1 bt208.1 bt208.2.1 bt208.2.2.1).bind fun t232 => (if t232 = true then (if (bt225.2.2.2 != bt208.2.2.2) = true then (some false) else ((laws_toSheet.f k a0_0 a0_1 l0_2).bind fun bt233 => ((laws_eqSheet.f k bt215.1 bt215.2.1 bt215.2.2 bt233.1 bt233.2.1 bt233.2.2).bind fun t238 => (if t238 = true then ((laws_markSheet.f k bt215.1 bt215.2.1 bt215.2.2 1).bind fun bt239 => (if bt239.1 < 0 then (some false) else ((laws_eqSheet.f k bt225.1 bt225.2.1 bt225.2.2.1 bt208.1 bt208.2.1 bt208.2.2.1).bind fun t241 => (if t241 = true then ((laws_markSheet.f k bt225.1 bt225.2.1 bt225.2.2.1 1).bind fun bt242 => ((laws_heldSheet.f k bt225.1 bt225.2.1 bt242.2 1).bind fun t244 => (if t244 < 0 then (some false) else (if t244 = bt242.1 then ((laws_toSheet.f k a0_0 a0_1 l0_2).bind fun bt245 => ((laws_toPlaced.f a1_0 a1_1 a1_2 a1_3).bind fun bt250 => ((impl_PaintBox.f k bt245.1 bt245.2.1 bt245.2.2 bt250.1 bt250.2.1 bt250.2.2.1 bt250.2.2.2 a2).bind fun bt254 => ((laws_eqSheet.f k bt254.1 bt254.2.1 bt254.2.2.1 bt208.1 bt208.2.1 bt208.2.2.1).bind fun t261 => (if t261 = true then (if (bt254.2.2.2 != bt208.2.2.2) = true then (some false) else ((laws_heldSheet.f k bt225.1 bt225.2.1 bt242.2 1).bind fun t262 => (if t262 < 0 then (some false) else (if t262 = bt242.1 then (some true) else (some false))))) else (some false)))))) else (some false))))) else (some false))))) else (some false))))) else (some false))))))))))) = some true := h
 clear h
 replace H := Option.bind_eq_some_iff.mp H
 obtain ⟨t198, A40, H⟩ := H
 try dsimp only at H
 have A4 := Aside0.mk A40
 clear A40
 by_cases c5 : t198 < 0
 ·rw [if_pos c5] at H
  have c5b0 : decide (t198 < 0) = true := decide_eq_true c5
  clear c5
  clear H
  go_enter Try.func5, Try.ntmps5
  go_wp2_with (first | ((with_reducible refine gate_dst (N := 3) rfl ?_); refine box_event ?hg (N := 3) ?hd (cs := #[.int .i64 a0_0, .int .i64 a0_1, .slice A0_2 l0_2.length c0_2]) (t := 33) ?hr ?_; (case hd => rfl); (case hg => rfl); (case hr => first | (go_simp; done) | (go_simp; rfl)); intro gb196 hg w6 hbox hb; have n0_ := Aside0.mk (below_step (by repeat (first | (with_reducible first | exact HB.out | apply below_alloc | apply pw_below_drewN | apply below_drew1) | exact HB.out)) hb); have n1_ := Aside0.mk (hbox); have n2_ := Aside0.mk ((by rw [hg]; exact (below_size (by repeat (first | (with_reducible first | exact HB.out | apply below_alloc | apply pw_below_drewN | apply below_drew1) | exact HB.out))) : w.heap.size ≤ gb196)); have n3_ := Aside0.mk ((by rw [hg]; exact (below_size (by repeat (first | (with_reducible first | exact HB.out | apply below_alloc | apply pw_below_drewN | apply below_drew1) | exact HB.out))) : w.heap.size ≤ gb196)); clear HB; have HB := n0_; have BK196 := n1_; have GW196 := n2_; have GE196 := n3_; clear n0_ n1_ n2_ n3_; clear hb hbox hg) | ((with_reducible refine gate_dst (N := 4) rfl ?_); refine box_event ?hg (N := 4) ?hd (cs := #[.int .i64 a1_0, .int .i64 a1_1, .int .i64 a1_2, .int .i64 a1_3]) (t := 35) ?hr ?_; (case hd => rfl); (case hg => rfl); (case hr => first | (go_simp; done) | (go_simp; rfl)); intro gb197 hg w7 hbox hb; have n0_ := Aside0.mk (blk_below (g := gb196) (o := .cells #[.int .i64 a0_0, .int .i64 a0_1, .slice A0_2 l0_2.length c0_2] 33 (0, 0)) (by exact BK196.out) hb); have n1_ := Aside0.mk (below_step (by repeat (first | (with_reducible first | exact HB.out | apply below_alloc | apply pw_below_drewN | apply below_drew1 | refine below_set ?_ GE196.out) | exact HB.out)) hb); have n2_ := Aside0.mk (hbox); have n3_ := Aside0.mk ((by rw [hg]; exact (below_size (by repeat (first | (with_reducible first | exact HB.out | apply below_alloc | apply pw_below_drewN | apply below_drew1 | refine below_set ?_ GE196.out) | exact HB.out))) : w.heap.size ≤ gb197)); have n4_ := Aside0.mk ((by rw [hg]; exact (below_size (by repeat (first | (with_reducible first | exact HB.out | apply below_alloc | apply pw_below_drewN | apply below_drew1 | refine below_set ?_ GE196.out) | exact HB.out))) : w.heap.size ≤ gb197)); have n5_ := Aside0.mk ((by rw [hg]; exact Nat.ne_of_lt (blk_lt (g := gb196) (o := .cells #[.int .i64 a0_0, .int .i64 a0_1, .slice A0_2 l0_2.length c0_2] 33 (0, 0)) (by exact BK196.out)) : gb196 ≠ gb197)); have n6_ := Aside0.mk ((by rw [hg]; exact Nat.ne_of_gt (blk_lt (g := gb196) (o := .cells #[.int .i64 a0_0, .int .i64 a0_1, .slice A0_2 l0_2.length c0_2] 33 (0, 0)) (by exact BK196.out)) : gb197 ≠ gb196)); clear BK196; clear HB; have BK196 := n0_; have HB := n1_; have BK197 := n2_; have GW197 := n3_; have GE197 := n4_; have NB196_197 := n5_; have NB197_196 := n6_; clear n0_ n1_ n2_ n3_ n4_ n5_ n6_; clear hb hbox hg; have hnb8 := NB196_197.out; have hnc8 := NB197_196.out; have hcz9_0 : w7.cell? ⟨gb196, 0, none⟩ = some (.int .i64 a0_0) := (blk_cell BK196.out 0).trans rfl; have hcz9_1 : w7.cell? ⟨gb196, 1, none⟩ = some (.int .i64 a0_1) := (blk_cell BK196.out 1).trans rfl; have hcz9_2 : w7.cell? ⟨gb196, 2, none⟩ = some (.slice A0_2 l0_2.length c0_2) := (blk_cell BK196.out 2).trans rfl; have hfz9_0 := blk_frozen BK196.out 0; have hfz9_1 := blk_frozen BK196.out 1; have hfz9_2 := blk_frozen BK196.out 2) | ((with_reducible refine gate_callee (f := 24) rfl ?_); refine goesL_ (some 20) rfl rfl Try.func24 (by kernel_rfl) rfl #[.agg #[.int .i64 a0_0, .int .i64 a0_1, .slice A0_2 l0_2.length c0_2], .int .i64 1048576] rfl (by (try simp only [List.map_toArray, List.map_cons, List.map_nil]); first | done | rfl | (simp only [List.length_drop, List.length_take]; rfl)) ?_; (with_reducible refine (laws_szSheet.calls a0_0 a0_1 _ _ l0_2 1048576 t198 _ ?side1 ?side2 A4.out).mono ?_); (case side1 => repeat (first | exact (Kd.C_below HR0_2.out HB.out) | (with_reducible refine Kd.C_alloc ?_ _) | (with_reducible refine Kd.C_drewN ?_ _) | (with_reducible refine Kd.C_drew ?_))); (case side2 => exact HC0_2.out); rintro e w10 ⟨rfl, hb⟩; refine ⟨_, rfl, ?_⟩; have n0_ := Aside0.mk (blk_below (g := gb196) (o := .cells #[.int .i64 a0_0, .int .i64 a0_1, .slice A0_2 l0_2.length c0_2] 33 (0, 0)) (by exact BK196.out) hb); have n1_ := Aside0.mk (blk_below (g := gb197) (o := .cells #[.int .i64 a1_0, .int .i64 a1_1, .int .i64 a1_2, .int .i64 a1_3] 35 (0, 0)) (by exact BK197.out) hb); have n2_ := Aside0.mk (below_step (by repeat (first | (with_reducible first | exact HB.out | apply below_alloc | apply pw_below_drewN | apply below_drew1 | refine below_set ?_ GE196.out | refine below_set ?_ GE197.out) | exact HB.out)) hb); clear BK196; clear BK197; clear HB; have BK196 := n0_; have BK197 := n1_; have HB := n2_; clear n0_ n1_ n2_; (try clear hb); (try clear hb2); (try clear hk); (try clear hi)))
  go_ret
  exact ⟨by first | rfl | (simp [errW_none, errW_some] <;> rfl) | (simp [*, errW_none, errW_some] <;> rfl), by repeat (first | (with_reducible first | exact HB.out | apply below_alloc | apply pw_below_drewN | apply below_drew1 | refine below_set ?_ GE196.out | refine below_set ?_ GE197.out) | exact HB.out)⟩
 ·rw [if_neg c5] at H
  have c5b0 : decide (t198 < 0) = false := decide_eq_false c5
  clear c5
  replace H := Option.bind_eq_some_iff.mp H
  obtain ⟨⟨t199, t200, t201⟩, A110, H⟩ := H
  try dsimp only at H
  have A11 := Aside0.mk A110
  clear A110
  replace H := Option.bind_eq_some_iff.mp H
  obtain ⟨⟨t204, t205, t206, t207⟩, A120, H⟩ := H
  try dsimp only at H
  have A12 := Aside0.mk A120
  clear A120
  replace H := Option.bind_eq_some_iff.mp H
  obtain ⟨⟨t208, t209, t210, t213⟩, A130, H⟩ := H
  try dsimp only at H
  have A13 := Aside0.mk A130
  clear A130
  replace H := Option.bind_eq_some_iff.mp H
  obtain ⟨⟨t215, t216, t217⟩, A140, H⟩ := H
  try dsimp only at H
  have A14 := Aside0.mk A140
  clear A140
  replace H := Option.bind_eq_some_iff.mp H
  obtain ⟨⟨t221, t222, t223, t224⟩, A150, H⟩ := H
  try dsimp only at H
  have A15 := Aside0.mk A150
  clear A150
  replace H := Option.bind_eq_some_iff.mp H
  obtain ⟨⟨t225, t226, t227, t230⟩, A160, H⟩ := H
  try dsimp only at H
  have A16 := Aside0.mk A160
  clear A160
  replace H := Option.bind_eq_some_iff.mp H
  obtain ⟨t232, A170, H⟩ := H
  try dsimp only at H
  have A17 := Aside0.mk A170
  clear A170
  by_cases c18 : t232 = true
  ·subst c18
   have H1 : (if (t230 != t213) = true then (some false) else ((laws_toSheet.f k a0_0 a0_1 l0_2).bind fun bt233 => ((laws_eqSheet.f k t215 t216 t217 bt233.1 bt233.2.1 bt233.2.2).bind fun t238 => (if t238 = true then ((laws_markSheet.f k t215 t216 t217 1).bind fun bt239 => (if bt239.1 < 0 then (some false) else ((laws_eqSheet.f k t225 t226 t227 t208 t209 t210).bind fun t241 => (if t241 = true then ((laws_markSheet.f k t225 t226 t227 1).bind fun bt242 => ((laws_heldSheet.f k t225 t226 bt242.2 1).bind fun t244 => (if t244 < 0 then (some false) else (if t244 = bt242.1 then ((laws_toSheet.f k a0_0 a0_1 l0_2).bind fun bt245 => ((laws_toPlaced.f a1_0 a1_1 a1_2 a1_3).bind fun bt250 => ((impl_PaintBox.f k bt245.1 bt245.2.1 bt245.2.2 bt250.1 bt250.2.1 bt250.2.2.1 bt250.2.2.2 a2).bind fun bt254 => ((laws_eqSheet.f k bt254.1 bt254.2.1 bt254.2.2.1 t208 t209 t210).bind fun t261 => (if t261 = true then (if (bt254.2.2.2 != t213) = true then (some false) else ((laws_heldSheet.f k t225 t226 bt242.2 1).bind fun t262 => (if t262 < 0 then (some false) else (if t262 = bt242.1 then (some true) else (some false))))) else (some false)))))) else (some false))))) else (some false))))) else (some false))))) = some true := by rw [if_pos rfl] at H; exact H
   clear H
   have H := H1
   clear H1
   by_cases c19 : (t230 != t213) = true
   ·rw [if_pos c19] at H
    have c19b0 : (t230 != t213) = true := c19
    (try (have c19b1 : decide (t230 = t213) = false := by first | simpa using c19 | (revert c19; cases t230 <;> cases t213 <;> simp)))
    (try (have c19b2 : (t230 == t213) = false := by first | (revert c19; cases t230 <;> cases t213 <;> simp) | simpa using c19))
    (try (have c19b3 : (!(t230 == t213)) = true := by first | (revert c19; cases t230 <;> cases t213 <;> simp) | simpa using c19))
    (try (have c19b4 : ¬ (t230 = t213) := by simpa using c19))
    clear c19
    exact absurd H (by decide)
   ·rw [if_neg c19] at H
    have c19b0 : (t230 != t213) = false := by simpa using c19
    (try (have c19b1 : decide (t230 = t213) = true := by first | simpa using c19 | (revert c19; cases t230 <;> cases t213 <;> simp)))
    (try (have c19b2 : (t230 == t213) = true := by first | (revert c19; cases t230 <;> cases t213 <;> simp) | simpa using c19))
    (try (have c19b3 : (!(t230 == t213)) = false := by first | (revert c19; cases t230 <;> cases t213 <;> simp) | simpa using c19))
    clear c19
    replace H := Option.bind_eq_some_iff.mp H
    obtain ⟨⟨t233, t234, t235⟩, A200, H⟩ := H
    try dsimp only at H
    have A20 := Aside0.mk A200
    clear A200
    replace H := Option.bind_eq_some_iff.mp H
    obtain ⟨t238, A210, H⟩ := H
    try dsimp only at H
    have A21 := Aside0.mk A210
    clear A210
    by_cases c22 : t238 = true
    ·subst c22
     have H1 : ((laws_markSheet.f k t215 t216 t217 1).bind fun bt239 => (if bt239.1 < 0 then (some false) else ((laws_eqSheet.f k t225 t226 t227 t208 t209 t210).bind fun t241 => (if t241 = true then ((laws_markSheet.f k t225 t226 t227 1).bind fun bt242 => ((laws_heldSheet.f k t225 t226 bt242.2 1).bind fun t244 => (if t244 < 0 then (some false) else (if t244 = bt242.1 then ((laws_toSheet.f k a0_0 a0_1 l0_2).bind fun bt245 => ((laws_toPlaced.f a1_0 a1_1 a1_2 a1_3).bind fun bt250 => ((impl_PaintBox.f k bt245.1 bt245.2.1 bt245.2.2 bt250.1 bt250.2.1 bt250.2.2.1 bt250.2.2.2 a2).bind fun bt254 => ((laws_eqSheet.f k bt254.1 bt254.2.1 bt254.2.2.1 t208 t209 t210).bind fun t261 => (if t261 = true then (if (bt254.2.2.2 != t213) = true then (some false) else ((laws_heldSheet.f k t225 t226 bt242.2 1).bind fun t262 => (if t262 < 0 then (some false) else (if t262 = bt242.1 then (some true) else (some false))))) else (some false)))))) else (some false))))) else (some false))))) = some true := by rw [if_pos rfl] at H; exact H
     clear H
     have H := H1
     clear H1
     replace H := Option.bind_eq_some_iff.mp H
     obtain ⟨⟨t239, t240⟩, A230, H⟩ := H
     try dsimp only at H
     have A23 := Aside0.mk A230
     clear A230
     by_cases c24 : t239 < 0
     ·rw [if_pos c24] at H
      have c24b0 : decide (t239 < 0) = true := decide_eq_true c24
      clear c24
      exact absurd H (by decide)
     ·rw [if_neg c24] at H
      have c24b0 : decide (t239 < 0) = false := decide_eq_false c24
      clear c24
      replace H := Option.bind_eq_some_iff.mp H
      obtain ⟨t241, A250, H⟩ := H
      try dsimp only at H
      have A25 := Aside0.mk A250
      clear A250
      by_cases c26 : t241 = true
      ·subst c26
       have H1 : ((laws_markSheet.f k t225 t226 t227 1).bind fun bt242 => ((laws_heldSheet.f k t225 t226 bt242.2 1).bind fun t244 => (if t244 < 0 then (some false) else (if t244 = bt242.1 then ((laws_toSheet.f k a0_0 a0_1 l0_2).bind fun bt245 => ((laws_toPlaced.f a1_0 a1_1 a1_2 a1_3).bind fun bt250 => ((impl_PaintBox.f k bt245.1 bt245.2.1 bt245.2.2 bt250.1 bt250.2.1 bt250.2.2.1 bt250.2.2.2 a2).bind fun bt254 => ((laws_eqSheet.f k bt254.1 bt254.2.1 bt254.2.2.1 t208 t209 t210).bind fun t261 => (if t261 = true then (if (bt254.2.2.2 != t213) = true then (some false) else ((laws_heldSheet.f k t225 t226 bt242.2 1).bind fun t262 => (if t262 < 0 then (some false) else (if t262 = bt242.1 then (some true) else (some false))))) else (some false)))))) else (some false))))) = some true := by rw [if_pos rfl] at H; exact H
       clear H
       have H := H1
       clear H1
       replace H := Option.bind_eq_some_iff.mp H
       obtain ⟨⟨t242, t243⟩, A270, H⟩ := H
       try dsimp only at H
       have A27 := Aside0.mk A270
       clear A270
       replace H := Option.bind_eq_some_iff.mp H
       obtain ⟨t244, A280, H⟩ := H
       try dsimp only at H
       have A28 := Aside0.mk A280
       clear A280
       by_cases c29 : t244 < 0
       ·rw [if_pos c29] at H
        have c29b0 : decide (t244 < 0) = true := decide_eq_true c29
        clear c29
        exact absurd H (by decide)
       ·rw [if_neg c29] at H
        have c29b0 : decide (t244 < 0) = false := decide_eq_false c29
        clear c29
        by_cases c30 : t244 = t242
        ·rw [if_pos c30] at H
         have c30b0 : (t244 == t242) = true := beq_iff_eq.mpr c30
         have c30b1 : (t244 != t242) = false := bne_eq_false_iff_eq.mpr c30
         clear c30
         replace H := Option.bind_eq_some_iff.mp H
         obtain ⟨⟨t245, t246, t247⟩, A310, H⟩ := H
         try dsimp only at H
         have A31 := Aside0.mk A310
         clear A310
         replace H := Option.bind_eq_some_iff.mp H
         obtain ⟨⟨t250, t251, t252, t253⟩, A320, H⟩ := H
         try dsimp only at H
         have A32 := Aside0.mk A320
         clear A320
         replace H := Option.bind_eq_some_iff.mp H
         obtain ⟨⟨t254, t255, t256, t259⟩, A330, H⟩ := H
         try dsimp only at H
         have A33 := Aside0.mk A330
         clear A330
         replace H := Option.bind_eq_some_iff.mp H
         obtain ⟨t261, A340, H⟩ := H
         try dsimp only at H
         have A34 := Aside0.mk A340
         clear A340
         by_cases c35 : t261 = true
         ·subst c35
          have H1 : (if (t259 != t213) = true then (some false) else ((laws_heldSheet.f k t225 t226 t243 1).bind fun t262 => (if t262 < 0 then (some false) else (if t262 = t242 then (some true) else (some false))))) = some true := by rw [if_pos rfl] at H; exact H
          clear H
          have H := H1
          clear H1
          by_cases c36 : (t259 != t213) = true
          ·rw [if_pos c36] at H
           have c36b0 : (t259 != t213) = true := c36
           (try (have c36b1 : decide (t259 = t213) = false := by first | simpa using c36 | (revert c36; cases t259 <;> cases t213 <;> simp)))
           (try (have c36b2 : (t259 == t213) = false := by first | (revert c36; cases t259 <;> cases t213 <;> simp) | simpa using c36))
           (try (have c36b3 : (!(t259 == t213)) = true := by first | (revert c36; cases t259 <;> cases t213 <;> simp) | simpa using c36))
           (try (have c36b4 : ¬ (t259 = t213) := by simpa using c36))
           clear c36
           exact absurd H (by decide)
          ·rw [if_neg c36] at H
           have c36b0 : (t259 != t213) = false := by simpa using c36
           (try (have c36b1 : decide (t259 = t213) = true := by first | simpa using c36 | (revert c36; cases t259 <;> cases t213 <;> simp)))
           (try (have c36b2 : (t259 == t213) = true := by first | (revert c36; cases t259 <;> cases t213 <;> simp) | simpa using c36))
           (try (have c36b3 : (!(t259 == t213)) = false := by first | (revert c36; cases t259 <;> cases t213 <;> simp) | simpa using c36))
           clear c36
           replace H := Option.bind_eq_some_iff.mp H
           obtain ⟨t262, A370, H⟩ := H
           try dsimp only at H
           have A37 := Aside0.mk A370
           clear A370
           by_cases c38 : t262 < 0
           ·rw [if_pos c38] at H
            have c38b0 : decide (t262 < 0) = true := decide_eq_true c38
            clear c38
            exact absurd H (by decide)
           ·rw [if_neg c38] at H
            have c38b0 : decide (t262 < 0) = false := decide_eq_false c38
            clear c38
            by_cases c39 : t262 = t242
            ·rw [if_pos c39] at H
             have c39b0 : (t262 == t242) = true := beq_iff_eq.mpr c39
             have c39b1 : (t262 != t242) = false := bne_eq_false_iff_eq.mpr c39
             clear c39
             clear H
             go_enter Try.func5, Try.ntmps5
             try go_wp2_with (first | ((with_reducible refine gate_dst (N := 3) rfl ?_); refine box_event ?hg (N := 3) ?hd (cs := #[.int .i64 a0_0, .int .i64 a0_1, .slice A0_2 l0_2.length c0_2]) (t := 33) ?hr ?_; (case hd => rfl); (case hg => rfl); (case hr => first | (go_simp; done) | (go_simp; rfl)); intro gb196 hg w40 hbox hb; have n0_ := Aside0.mk (below_step (by repeat (first | (with_reducible first | exact HB.out | apply below_alloc | apply pw_below_drewN | apply below_drew1) | exact HB.out)) hb); have n1_ := Aside0.mk (hbox); have n2_ := Aside0.mk ((by rw [hg]; exact (below_size (by repeat (first | (with_reducible first | exact HB.out | apply below_alloc | apply pw_below_drewN | apply below_drew1) | exact HB.out))) : w.heap.size ≤ gb196)); have n3_ := Aside0.mk ((by rw [hg]; exact (below_size (by repeat (first | (with_reducible first | exact HB.out | apply below_alloc | apply pw_below_drewN | apply below_drew1) | exact HB.out))) : w.heap.size ≤ gb196)); clear HB; have HB := n0_; have BK196 := n1_; have GW196 := n2_; have GE196 := n3_; clear n0_ n1_ n2_ n3_; clear hb hbox hg) | ((with_reducible refine gate_dst (N := 4) rfl ?_); refine box_event ?hg (N := 4) ?hd (cs := #[.int .i64 a1_0, .int .i64 a1_1, .int .i64 a1_2, .int .i64 a1_3]) (t := 35) ?hr ?_; (case hd => rfl); (case hg => rfl); (case hr => first | (go_simp; done) | (go_simp; rfl)); intro gb197 hg w41 hbox hb; have n0_ := Aside0.mk (blk_below (g := gb196) (o := .cells #[.int .i64 a0_0, .int .i64 a0_1, .slice A0_2 l0_2.length c0_2] 33 (0, 0)) (by exact BK196.out) hb); have n1_ := Aside0.mk (below_step (by repeat (first | (with_reducible first | exact HB.out | apply below_alloc | apply pw_below_drewN | apply below_drew1 | refine below_set ?_ GE196.out) | exact HB.out)) hb); have n2_ := Aside0.mk (hbox); have n3_ := Aside0.mk ((by rw [hg]; exact (below_size (by repeat (first | (with_reducible first | exact HB.out | apply below_alloc | apply pw_below_drewN | apply below_drew1 | refine below_set ?_ GE196.out) | exact HB.out))) : w.heap.size ≤ gb197)); have n4_ := Aside0.mk ((by rw [hg]; exact (below_size (by repeat (first | (with_reducible first | exact HB.out | apply below_alloc | apply pw_below_drewN | apply below_drew1 | refine below_set ?_ GE196.out) | exact HB.out))) : w.heap.size ≤ gb197)); have n5_ := Aside0.mk ((by rw [hg]; exact Nat.ne_of_lt (blk_lt (g := gb196) (o := .cells #[.int .i64 a0_0, .int .i64 a0_1, .slice A0_2 l0_2.length c0_2] 33 (0, 0)) (by exact BK196.out)) : gb196 ≠ gb197)); have n6_ := Aside0.mk ((by rw [hg]; exact Nat.ne_of_gt (blk_lt (g := gb196) (o := .cells #[.int .i64 a0_0, .int .i64 a0_1, .slice A0_2 l0_2.length c0_2] 33 (0, 0)) (by exact BK196.out)) : gb197 ≠ gb196)); clear BK196; clear HB; have BK196 := n0_; have HB := n1_; have BK197 := n2_; have GW197 := n3_; have GE197 := n4_; have NB196_197 := n5_; have NB197_196 := n6_; clear n0_ n1_ n2_ n3_ n4_ n5_ n6_; clear hb hbox hg; have hnb42 := NB196_197.out; have hnc42 := NB197_196.out; have hcz43_0 : w41.cell? ⟨gb196, 0, none⟩ = some (.int .i64 a0_0) := (blk_cell BK196.out 0).trans rfl; have hcz43_1 : w41.cell? ⟨gb196, 1, none⟩ = some (.int .i64 a0_1) := (blk_cell BK196.out 1).trans rfl; have hcz43_2 : w41.cell? ⟨gb196, 2, none⟩ = some (.slice A0_2 l0_2.length c0_2) := (blk_cell BK196.out 2).trans rfl; have hfz43_0 := blk_frozen BK196.out 0; have hfz43_1 := blk_frozen BK196.out 1; have hfz43_2 := blk_frozen BK196.out 2) | ((with_reducible refine gate_callee (f := 24) rfl ?_); refine goesL_ (some 20) rfl rfl Try.func24 (by kernel_rfl) rfl #[.agg #[.int .i64 a0_0, .int .i64 a0_1, .slice A0_2 l0_2.length c0_2], .int .i64 1048576] rfl (by (try simp only [List.map_toArray, List.map_cons, List.map_nil]); first | done | rfl | (simp only [List.length_drop, List.length_take]; rfl)) ?_; (with_reducible refine (laws_szSheet.calls a0_0 a0_1 _ _ l0_2 1048576 t198 _ ?side1 ?side2 A4.out).mono ?_); (case side1 => repeat (first | exact (Kd.C_below HR0_2.out HB.out) | (with_reducible refine Kd.C_alloc ?_ _) | (with_reducible refine Kd.C_drewN ?_ _) | (with_reducible refine Kd.C_drew ?_))); (case side2 => exact HC0_2.out); rintro e w44 ⟨rfl, hb⟩; refine ⟨_, rfl, ?_⟩; have n0_ := Aside0.mk (blk_below (g := gb196) (o := .cells #[.int .i64 a0_0, .int .i64 a0_1, .slice A0_2 l0_2.length c0_2] 33 (0, 0)) (by exact BK196.out) hb); have n1_ := Aside0.mk (blk_below (g := gb197) (o := .cells #[.int .i64 a1_0, .int .i64 a1_1, .int .i64 a1_2, .int .i64 a1_3] 35 (0, 0)) (by exact BK197.out) hb); have n2_ := Aside0.mk (below_step (by repeat (first | (with_reducible first | exact HB.out | apply below_alloc | apply pw_below_drewN | apply below_drew1 | refine below_set ?_ GE196.out | refine below_set ?_ GE197.out) | exact HB.out)) hb); clear BK196; clear BK197; clear HB; have BK196 := n0_; have BK197 := n1_; have HB := n2_; clear n0_ n1_ n2_; (try clear hb); (try clear hb2); (try clear hk); (try clear hi)))
             have n0_ := Aside0.mk (blk_drew BK196.out)
             have n1_ := Aside0.mk (blk_drew BK197.out)
             have n2_ := Aside0.mk (below_drew1 HB.out)
             clear BK196
             clear BK197
             clear HB
             have BK196 := n0_
             have BK197 := n1_
             have HB := n2_
             clear n0_ n1_ n2_
             refine start_ (n := 12) (S := fun w' => True) (ds := []) #[false, false, false, false, false, false, false, false, false, false, false, false] (by kernel_rfl) rfl rfl trivial (fun hHeld => ?_); refine with_tabW laws_FnExactPaintBox.tab5 laws_FnExactPaintBox.bits5 (fun HT_ HW_ => ?_)
             generalize w44.drew = w45 at BK196 BK197 HB hHeld ⊢
             refine pure_ (i := 4) (N := some 28) (v := ?_) (a' := ?_) #[false, false, false, false, true, false, false, false, false, false, false, false] rfl rfl (any_of HT_.out (by kernel_rfl)) (fun _ _ _ h => h) (Or.inl ⟨by rfl, ?_⟩) ?_ ?_
             rotate_left
             ·intro w'
              go_simp
              with_reducible rfl
             rotate_left
             ·simp only [Act.put, List.setIfInBounds_toArray, List.set_cons_zero, List.set_cons_succ, i64_w, i32_w]
              rfl
             refine inv_at [0, 1, 2, 3, 5, 6, 7, 8, 9, 10, 11] (fun a0_ b a w' => ∃ (v202 : Value) (v211 : Value) (gb214 : Nat) (m1_ : Value) (m5_ : Value) (m6_ : Value) (m7_ : Value) (m9_ : Value), a = putSel a0_ b [(0, 24, .agg #[.int .i64 a0_0, .int .i64 a0_1, .slice A0_2 l0_2.length c0_2]), (1, 25, m1_), (2, 26, .agg #[.int .i64 a1_0, .int .i64 a1_1, .int .i64 a1_2, .int .i64 a1_3]), (3, 27, .agg #[.int .i64 t204, .int .i64 t205, .int .i64 t206, .int .i64 t207]), (5, 29, m5_), (6, 23, m6_), (7, 30, m7_), (8, 31, .bool t213), (9, 8, m9_), (11, 9, .bool t213)] ∧ (w'.heap[gb196]? = some (.cells #[.int .i64 a0_0, .int .i64 a0_1, .slice A0_2 l0_2.length c0_2] 33 (0, 0))) ∧ (w'.heap[gb197]? = some (.cells #[.int .i64 a1_0, .int .i64 a1_1, .int .i64 a1_2, .int .i64 a1_3] 35 (0, 0))) ∧ (Below w.heap.size w w') ∧ (b 1 = true → b 5 = false → Kd.R (Kd.int .i64) 3 w' w.heap.size (fun _ => True) v202 t201) ∧ (b 5 = true → Kd.R (Kd.int .i64) 3 w' w.heap.size (fun k_ => some k_ ≠ (v211 : Value).ownBlock) v202 t201) ∧ (b 5 = true → Kd.R (Kd.int .i64) 3 w' w.heap.size (fun k_ => some k_ ≠ (v202 : Value).ownBlock) v211 t210) ∧ (b 9 = true → b 10 = false → w'.heap[gb214]? = some (.cells #[.int .i64 0, .int .i64 0, .slice none 0 0] 37 (0, 0))) ∧ (b 9 = true → w.heap.size ≤ gb214) ∧ (b 9 = true → w.heap.size ≤ gb214) ∧ (b 9 = true → gb196 ≠ gb214) ∧ (b 9 = true → gb214 ≠ gb196) ∧ (b 9 = true → gb197 ≠ gb214) ∧ (b 9 = true → gb214 ≠ gb197) ∧ (b 10 = true → w'.heap[gb214]? = some (.cells #[.int .i64 t208, .int .i64 t209, v211] 37 (0, 0))) ∧ (b 1 = true → (m1_ : Value) = .agg #[.int .i64 t199, .int .i64 t200, v202]) ∧ (b 5 = true → (m5_ : Value) = .tuple #[.agg #[.int .i64 t208, .int .i64 t209, v211], .bool t213]) ∧ (b 6 = true → (m6_ : Value) = .tuple #[.agg #[.int .i64 t208, .int .i64 t209, v211], .bool t213]) ∧ (b 7 = true → (m7_ : Value) = .agg #[.int .i64 t208, .int .i64 t209, v211]) ∧ (b 9 = true → (m9_ : Value) = .pointer (some ⟨gb214, 0, none⟩))) HT_.out HW_.out (by kernel_rfl) (by kernel_rfl) ?_ ?_ ?_
             ·exact ⟨.bool false, .bool false, 0, .bool false, .bool false, .bool false, .bool false, .bool false, by simp only [putSel, Bool.false_eq_true, if_false], BK196.out, BK197.out, HB.out, fun h_ => absurd h_ (by decide), fun h_ => absurd h_ (by decide), fun h_ => absurd h_ (by decide), fun h_ => absurd h_ (by decide), fun h_ => absurd h_ (by decide), fun h_ => absurd h_ (by decide), fun h_ => absurd h_ (by decide), fun h_ => absurd h_ (by decide), fun h_ => absurd h_ (by decide), fun h_ => absurd h_ (by decide), fun h_ => absurd h_ (by decide), fun h_ => absurd h_ (by decide), fun h_ => absurd h_ (by decide), fun h_ => absurd h_ (by decide), fun h_ => absurd h_ (by decide), fun h_ => absurd h_ (by decide)⟩
             ·skip
              clear BK196 BK197 HB
              refine steps_cons ?_ ?_
              ·rintro b a w' ⟨v202, v211, gb214, m1_, m5_, m6_, m7_, m9_, ha, Q_BK196, Q_BK197, Q_HB, Q_HO203, Q_HO203_e5, Q_HO212, Q_BK214, Q_GW214, Q_GE214, Q_NB196_214, Q_NB214_196, Q_NB197_214, Q_NB214_197, Q_BK214_e10, Q_X1_, Q_X5_, Q_X6_, Q_X7_, Q_X9_⟩ hb_ hon hoff
               refine ⟨_, rfl, fun K hK => ?_⟩
               have e3 : a.tmps[3]? = some (.pointer (some ⟨gb196, 0, none⟩)) := by rw [ha]; exact (putSel_off rfl).trans rfl
               replace ha := Aside0.mk ha
               have BK196 := Aside0.mk Q_BK196
               have BK197 := Aside0.mk Q_BK197
               have HB := Aside0.mk Q_HB
               have hc0_ : w'.cell? ⟨gb196, 0, none⟩ = some (.int .i64 a0_0) := (blk_cell BK196.out 0).trans rfl
               have hc1_ : w'.cell? ⟨gb196, 1, none⟩ = some (.int .i64 a0_1) := (blk_cell BK196.out 1).trans rfl
               have hc2_ : w'.cell? ⟨gb196, 2, none⟩ = some (.slice A0_2 l0_2.length c0_2) := (blk_cell BK196.out 2).trans rfl
               refine value_ (w1 := w') (v := .agg #[.int .i64 a0_0, .int .i64 a0_1, .slice A0_2 l0_2.length c0_2]) (by rfl) rfl ?_ ?_
               ·go_simp
                (try simp only [i64_w])
                try rfl
               refine hK.out _ _ ⟨v202, v211, gb214, m1_, m5_, m6_, m7_, m9_, (by rw [ha.out]; exact putSel_upk 0 hb_ rfl rfl rfl), Q_BK196, Q_BK197, Q_HB, fun h0_ _ => absurd ((hoff 1 (by kernel_rfl)).symm.trans h0_) (by decide), fun h0_ => absurd ((hoff 5 (by kernel_rfl)).symm.trans h0_) (by decide), fun h0_ => absurd ((hoff 5 (by kernel_rfl)).symm.trans h0_) (by decide), Q_BK214, Q_GW214, Q_GE214, Q_NB196_214, Q_NB214_196, Q_NB197_214, Q_NB214_197, fun h0_ => absurd ((hoff 10 (by kernel_rfl)).symm.trans h0_) (by decide), fun h0_ => absurd ((hoff 1 (by kernel_rfl)).symm.trans h0_) (by decide), fun h0_ => absurd ((hoff 5 (by kernel_rfl)).symm.trans h0_) (by decide), fun h0_ => absurd ((hoff 6 (by kernel_rfl)).symm.trans h0_) (by decide), fun h0_ => absurd ((hoff 7 (by kernel_rfl)).symm.trans h0_) (by decide), Q_X9_⟩
              refine steps_cons ?_ ?_
              ·rintro b a w' ⟨v202, v211, gb214, m1_, m5_, m6_, m7_, m9_, ha, Q_BK196, Q_BK197, Q_HB, Q_HO203, Q_HO203_e5, Q_HO212, Q_BK214, Q_GW214, Q_GE214, Q_NB196_214, Q_NB214_196, Q_NB197_214, Q_NB214_197, Q_BK214_e10, Q_X1_, Q_X5_, Q_X6_, Q_X7_, Q_X9_⟩ hb_ hon hoff
               refine ⟨_, rfl, fun K hK => ?_⟩
               have e24 : a.tmps[24]? = some (.agg #[.int .i64 a0_0, .int .i64 a0_1, .slice A0_2 l0_2.length c0_2]) := by rw [ha]; exact putSel_on (e := (0, 24, .agg #[.int .i64 a0_0, .int .i64 a0_1, .slice A0_2 l0_2.length c0_2])) 0 rfl rfl (hon 0 (by kernel_rfl)) rfl
               replace ha := Aside0.mk ha
               have BK196 := Aside0.mk Q_BK196
               have BK197 := Aside0.mk Q_BK197
               have HB := Aside0.mk Q_HB
               refine goes_ Try.func26 (by kernel_rfl) rfl #[.agg #[.int .i64 a0_0, .int .i64 a0_1, .slice A0_2 l0_2.length c0_2]] (by rfl) rfl rfl (by first | (simp only [List.map_toArray, List.map_cons, List.map_nil, Act.eval, Array.getD_eq_getD_getElem?, Option.getD_some, e24]; done) | (simp only [List.map_toArray, List.map_cons, List.map_nil, Act.eval, Array.getD_eq_getD_getElem?, Option.getD_some, e24]; rfl)) ?_
               with_reducible refine (laws_toSheet.calls k a0_0 a0_1 _ _ l0_2 t199 t200 t201 _ ?side1 ?side2 A11.out).mono ?_
               (case side1 => repeat (first | exact (Kd.C_below HR0_2.out HB.out) | (with_reducible refine Kd.C_alloc ?_ _) | (with_reducible refine Kd.C_drewN ?_ _) | (with_reducible refine Kd.C_drew ?_)))
               (case side2 => exact HC0_2.out)
               rintro e w46 ⟨v202, rfl, ho0, hb⟩
               refine ⟨_, rfl, ?_⟩
               have n0_ := Aside0.mk (Kd.R_lower ho0 (below_size (by repeat (first | (with_reducible first | exact HB.out | apply below_alloc | apply pw_below_drewN | apply below_drew1 | refine below_set ?_ GE196.out | refine below_set ?_ GE197.out) | exact HB.out))))
               have n1_ := Aside0.mk (blk_below (g := gb196) (o := .cells #[.int .i64 a0_0, .int .i64 a0_1, .slice A0_2 l0_2.length c0_2] 33 (0, 0)) (by exact BK196.out) hb)
               have n2_ := Aside0.mk (blk_below (g := gb197) (o := .cells #[.int .i64 a1_0, .int .i64 a1_1, .int .i64 a1_2, .int .i64 a1_3] 35 (0, 0)) (by exact BK197.out) hb)
               have n3_ := Aside0.mk (below_step (by repeat (first | (with_reducible first | exact HB.out | apply below_alloc | apply pw_below_drewN | apply below_drew1 | refine below_set ?_ GE196.out | refine below_set ?_ GE197.out) | exact HB.out)) hb)
               have z_BK214 := fun (h0_ : b 9 = true) (h1_ : b 10 = false) => (show w46.heap[gb214]? = some (.cells #[.int .i64 0, .int .i64 0, .slice none 0 0] 37 (0, 0)) from by first | exact (blk_below (g := gb214) (o := .cells #[.int .i64 0, .int .i64 0, .slice none 0 0] 37 (0, 0)) (by exact (Q_BK214 h0_ h1_)) hb))
               clear BK196
               clear BK197
               clear HB
               have HO203 := n0_
               have BK196 := n1_
               have BK197 := n2_
               have HB := n3_
               clear n0_ n1_ n2_ n3_
               (try clear hb)
               (try clear hb2)
               (try clear hk)
               (try clear hi)
               (try clear ho0)
               refine hK.out _ _ ⟨v202, v211, gb214, (.agg #[.int .i64 t199, .int .i64 t200, v202]), m5_, m6_, m7_, m9_, (by rw [ha.out]; exact putSel_upk 1 hb_ rfl rfl rfl), (by exact BK196.out), (by exact BK197.out), (by repeat (first | (with_reducible first | exact HB.out | apply below_alloc | apply pw_below_drewN | apply below_drew1 | refine below_set ?_ GE196.out | refine below_set ?_ GE197.out) | exact HB.out)), fun _ _ => (by exact HO203.out), fun h0_ => absurd ((hoff 5 (by kernel_rfl)).symm.trans h0_) (by decide), fun h0_ => absurd ((hoff 5 (by kernel_rfl)).symm.trans h0_) (by decide), z_BK214, Q_GW214, Q_GE214, Q_NB196_214, Q_NB214_196, Q_NB197_214, Q_NB214_197, fun h0_ => absurd ((hoff 10 (by kernel_rfl)).symm.trans h0_) (by decide), fun _ => rfl, fun h0_ => absurd ((hoff 5 (by kernel_rfl)).symm.trans h0_) (by decide), fun h0_ => absurd ((hoff 6 (by kernel_rfl)).symm.trans h0_) (by decide), fun h0_ => absurd ((hoff 7 (by kernel_rfl)).symm.trans h0_) (by decide), Q_X9_⟩
              refine steps_cons ?_ ?_
              ·rintro b a w' ⟨v202, v211, gb214, m1_, m5_, m6_, m7_, m9_, ha, Q_BK196, Q_BK197, Q_HB, Q_HO203, Q_HO203_e5, Q_HO212, Q_BK214, Q_GW214, Q_GE214, Q_NB196_214, Q_NB214_196, Q_NB197_214, Q_NB214_197, Q_BK214_e10, Q_X1_, Q_X5_, Q_X6_, Q_X7_, Q_X9_⟩ hb_ hon hoff
               refine ⟨_, rfl, fun K hK => ?_⟩
               have e4 : a.tmps[4]? = some (.pointer (some ⟨gb197, 0, none⟩)) := by rw [ha]; exact (putSel_off rfl).trans rfl
               replace ha := Aside0.mk ha
               have BK196 := Aside0.mk Q_BK196
               have BK197 := Aside0.mk Q_BK197
               have HB := Aside0.mk Q_HB
               have hc0_ : w'.cell? ⟨gb197, 0, none⟩ = some (.int .i64 a1_0) := (blk_cell BK197.out 0).trans rfl
               have hc1_ : w'.cell? ⟨gb197, 1, none⟩ = some (.int .i64 a1_1) := (blk_cell BK197.out 1).trans rfl
               have hc2_ : w'.cell? ⟨gb197, 2, none⟩ = some (.int .i64 a1_2) := (blk_cell BK197.out 2).trans rfl
               have hc3_ : w'.cell? ⟨gb197, 3, none⟩ = some (.int .i64 a1_3) := (blk_cell BK197.out 3).trans rfl
               refine value_ (w1 := w') (v := .agg #[.int .i64 a1_0, .int .i64 a1_1, .int .i64 a1_2, .int .i64 a1_3]) (by rfl) rfl ?_ ?_
               ·go_simp
                (try simp only [i64_w])
                try rfl
               refine hK.out _ _ ⟨v202, v211, gb214, m1_, m5_, m6_, m7_, m9_, (by rw [ha.out]; exact putSel_upk 2 hb_ rfl rfl rfl), Q_BK196, Q_BK197, Q_HB, Q_HO203, fun h0_ => absurd ((hoff 5 (by kernel_rfl)).symm.trans h0_) (by decide), fun h0_ => absurd ((hoff 5 (by kernel_rfl)).symm.trans h0_) (by decide), Q_BK214, Q_GW214, Q_GE214, Q_NB196_214, Q_NB214_196, Q_NB197_214, Q_NB214_197, fun h0_ => absurd ((hoff 10 (by kernel_rfl)).symm.trans h0_) (by decide), Q_X1_, fun h0_ => absurd ((hoff 5 (by kernel_rfl)).symm.trans h0_) (by decide), fun h0_ => absurd ((hoff 6 (by kernel_rfl)).symm.trans h0_) (by decide), fun h0_ => absurd ((hoff 7 (by kernel_rfl)).symm.trans h0_) (by decide), Q_X9_⟩
              refine steps_cons ?_ ?_
              ·rintro b a w' ⟨v202, v211, gb214, m1_, m5_, m6_, m7_, m9_, ha, Q_BK196, Q_BK197, Q_HB, Q_HO203, Q_HO203_e5, Q_HO212, Q_BK214, Q_GW214, Q_GE214, Q_NB196_214, Q_NB214_196, Q_NB197_214, Q_NB214_197, Q_BK214_e10, Q_X1_, Q_X5_, Q_X6_, Q_X7_, Q_X9_⟩ hb_ hon hoff
               refine ⟨_, rfl, fun K hK => ?_⟩
               have e26 : a.tmps[26]? = some (.agg #[.int .i64 a1_0, .int .i64 a1_1, .int .i64 a1_2, .int .i64 a1_3]) := by rw [ha]; exact putSel_on (e := (2, 26, .agg #[.int .i64 a1_0, .int .i64 a1_1, .int .i64 a1_2, .int .i64 a1_3])) 2 rfl rfl (hon 2 (by kernel_rfl)) rfl
               replace ha := Aside0.mk ha
               have BK196 := Aside0.mk Q_BK196
               have BK197 := Aside0.mk Q_BK197
               have HB := Aside0.mk Q_HB
               have HO203 := Aside0.mk (Q_HO203 (hon 1 (by kernel_rfl)) (hoff 5 (by kernel_rfl)))
               refine goes_ Try.func27 (by kernel_rfl) rfl #[.agg #[.int .i64 a1_0, .int .i64 a1_1, .int .i64 a1_2, .int .i64 a1_3]] (by rfl) rfl rfl (by first | (simp only [List.map_toArray, List.map_cons, List.map_nil, Act.eval, Array.getD_eq_getD_getElem?, Option.getD_some, e26]; done) | (simp only [List.map_toArray, List.map_cons, List.map_nil, Act.eval, Array.getD_eq_getD_getElem?, Option.getD_some, e26]; rfl)) ?_
               with_reducible refine (laws_toPlaced.calls a1_0 a1_1 a1_2 a1_3 t204 t205 t206 t207 _ A12.out).mono ?_
               rintro e w48 ⟨rfl, hb⟩
               refine ⟨_, rfl, ?_⟩
               have n0_ := Aside0.mk (Kd.R_below (by exact HO203.out) hb)
               have n1_ := Aside0.mk (blk_below (g := gb196) (o := .cells #[.int .i64 a0_0, .int .i64 a0_1, .slice A0_2 l0_2.length c0_2] 33 (0, 0)) (by exact BK196.out) hb)
               have n2_ := Aside0.mk (blk_below (g := gb197) (o := .cells #[.int .i64 a1_0, .int .i64 a1_1, .int .i64 a1_2, .int .i64 a1_3] 35 (0, 0)) (by exact BK197.out) hb)
               have n3_ := Aside0.mk (below_step (by repeat (first | (with_reducible first | exact HB.out | apply below_alloc | apply pw_below_drewN | apply below_drew1 | refine below_set ?_ GE196.out | refine below_set ?_ GE197.out) | exact HB.out)) hb)
               have z_BK214 := fun (h0_ : b 9 = true) (h1_ : b 10 = false) => (show w48.heap[gb214]? = some (.cells #[.int .i64 0, .int .i64 0, .slice none 0 0] 37 (0, 0)) from by first | exact (blk_below (g := gb214) (o := .cells #[.int .i64 0, .int .i64 0, .slice none 0 0] 37 (0, 0)) (by exact (Q_BK214 h0_ h1_)) hb))
               clear HO203
               clear BK196
               clear BK197
               clear HB
               have HO203 := n0_
               have BK196 := n1_
               have BK197 := n2_
               have HB := n3_
               clear n0_ n1_ n2_ n3_
               (try clear hb)
               (try clear hb2)
               (try clear hk)
               (try clear hi)
               refine hK.out _ _ ⟨v202, v211, gb214, m1_, m5_, m6_, m7_, m9_, (by rw [ha.out]; exact putSel_upk 3 hb_ rfl rfl rfl), (by exact BK196.out), (by exact BK197.out), (by repeat (first | (with_reducible first | exact HB.out | apply below_alloc | apply pw_below_drewN | apply below_drew1 | refine below_set ?_ GE196.out | refine below_set ?_ GE197.out) | exact HB.out)), fun _ _ => (by exact HO203.out), fun h0_ => absurd ((hoff 5 (by kernel_rfl)).symm.trans h0_) (by decide), fun h0_ => absurd ((hoff 5 (by kernel_rfl)).symm.trans h0_) (by decide), z_BK214, Q_GW214, Q_GE214, Q_NB196_214, Q_NB214_196, Q_NB197_214, Q_NB214_197, fun h0_ => absurd ((hoff 10 (by kernel_rfl)).symm.trans h0_) (by decide), Q_X1_, fun h0_ => absurd ((hoff 5 (by kernel_rfl)).symm.trans h0_) (by decide), fun h0_ => absurd ((hoff 6 (by kernel_rfl)).symm.trans h0_) (by decide), fun h0_ => absurd ((hoff 7 (by kernel_rfl)).symm.trans h0_) (by decide), Q_X9_⟩
              refine steps_cons ?_ ?_
              ·rintro b a w' ⟨v202, v211, gb214, m1_, m5_, m6_, m7_, m9_, ha, Q_BK196, Q_BK197, Q_HB, Q_HO203, Q_HO203_e5, Q_HO212, Q_BK214, Q_GW214, Q_GE214, Q_NB196_214, Q_NB214_196, Q_NB197_214, Q_NB214_197, Q_BK214_e10, Q_X1_, Q_X5_, Q_X6_, Q_X7_, Q_X9_⟩ hb_ hon hoff
               refine ⟨_, rfl, fun K hK => ?_⟩
               have e25 : a.tmps[25]? = some (m1_) := by rw [ha]; exact putSel_on (e := (1, 25, m1_)) 1 rfl rfl (hon 1 (by kernel_rfl)) rfl
               rw [Q_X1_ (hon 1 (by kernel_rfl))] at e25
               have e27 : a.tmps[27]? = some (.agg #[.int .i64 t204, .int .i64 t205, .int .i64 t206, .int .i64 t207]) := by rw [ha]; exact putSel_on (e := (3, 27, .agg #[.int .i64 t204, .int .i64 t205, .int .i64 t206, .int .i64 t207])) 3 rfl rfl (hon 3 (by kernel_rfl)) rfl
               have e28 : a.tmps[28]? = some (.int .i64 a2) := by rw [ha]; exact (putSel_off rfl).trans rfl
               replace ha := Aside0.mk ha
               have BK196 := Aside0.mk Q_BK196
               have BK197 := Aside0.mk Q_BK197
               have HB := Aside0.mk Q_HB
               have HO203 := Aside0.mk (Q_HO203 (hon 1 (by kernel_rfl)) hb_)
               obtain ⟨Ao49, co49, eo49⟩ := Kd.R_slice HO203.out
               (first | subst eo49 | (injection eo49 with f1_ f2_ f3_; have f4_ := f1_.symm; have f5_ := f3_.symm; clear f1_ f2_ f3_; subst f4_; subst f5_))
               refine goes_ Try.func25 (by kernel_rfl) rfl #[.agg #[.int .i64 t199, .int .i64 t200, .slice Ao49 t201.length co49], .agg #[.int .i64 t204, .int .i64 t205, .int .i64 t206, .int .i64 t207], .int .i64 a2] (by rfl) rfl rfl (by first | (simp only [List.map_toArray, List.map_cons, List.map_nil, Act.eval, Array.getD_eq_getD_getElem?, Option.getD_some, e25, e27, e28]; done) | (simp only [List.map_toArray, List.map_cons, List.map_nil, Act.eval, Array.getD_eq_getD_getElem?, Option.getD_some, e25, e27, e28]; rfl)) ?_
               with_reducible refine (spec_PaintBox.calls k t199 t200 _ _ t201 t204 t205 t206 t207 a2 t208 t209 t210 t213 _ ?side1 ?side2 A13.out).mono ?_
               (case side1 => repeat (first | exact (Kd.R_reads' HO203.out).2.2 | (with_reducible refine Kd.C_alloc ?_ _) | (with_reducible refine Kd.C_drewN ?_ _) | (with_reducible refine Kd.C_drew ?_)))
               (case side2 => exact (Kd.R_reads' HO203.out).2.1)
               rintro e w50 ⟨v211, rfl, ho0, hb⟩
               refine ⟨_, rfl, ?_⟩
               have n0_ := Aside0.mk (Kd.R_elder' (by exact HO203.out) (Kd.R_base ho0) hb)
               have n1_ := Aside0.mk (Kd.R_lower (Kd.R_new' ho0 (Kd.R_lt (by exact HO203.out))) (below_size (by repeat (first | (with_reducible first | exact HB.out | apply below_alloc | apply pw_below_drewN | apply below_drew1 | refine below_set ?_ GE196.out | refine below_set ?_ GE197.out) | exact HB.out))))
               have n2_ := Aside0.mk (blk_below (g := gb196) (o := .cells #[.int .i64 a0_0, .int .i64 a0_1, .slice A0_2 l0_2.length c0_2] 33 (0, 0)) (by exact BK196.out) hb)
               have n3_ := Aside0.mk (blk_below (g := gb197) (o := .cells #[.int .i64 a1_0, .int .i64 a1_1, .int .i64 a1_2, .int .i64 a1_3] 35 (0, 0)) (by exact BK197.out) hb)
               have n4_ := Aside0.mk (below_step (by repeat (first | (with_reducible first | exact HB.out | apply below_alloc | apply pw_below_drewN | apply below_drew1 | refine below_set ?_ GE196.out | refine below_set ?_ GE197.out) | exact HB.out)) hb)
               have z_BK214 := fun (h0_ : b 9 = true) (h1_ : b 10 = false) => (show w50.heap[gb214]? = some (.cells #[.int .i64 0, .int .i64 0, .slice none 0 0] 37 (0, 0)) from by first | exact (blk_below (g := gb214) (o := .cells #[.int .i64 0, .int .i64 0, .slice none 0 0] 37 (0, 0)) (by exact (Q_BK214 h0_ h1_)) hb))
               clear HO203
               clear BK196
               clear BK197
               clear HB
               have HO203 := n0_
               have HO212 := n1_
               have BK196 := n2_
               have BK197 := n3_
               have HB := n4_
               clear n0_ n1_ n2_ n3_ n4_
               (try clear hb)
               (try clear hb2)
               (try clear hk)
               (try clear hi)
               (try clear ho0)
               refine hK.out _ _ ⟨.slice Ao49 t201.length co49, v211, gb214, m1_, (.tuple #[.agg #[.int .i64 t208, .int .i64 t209, v211], .bool t213]), m6_, m7_, m9_, (by rw [ha.out]; exact putSel_upk 4 hb_ rfl rfl rfl), (by exact BK196.out), (by exact BK197.out), (by repeat (first | (with_reducible first | exact HB.out | apply below_alloc | apply pw_below_drewN | apply below_drew1 | refine below_set ?_ GE196.out | refine below_set ?_ GE197.out) | exact HB.out)), fun _ h1_ => absurd ((up_self b 5).symm.trans h1_) (by decide), fun _ => (by exact Kd.R_mono HO203.out (fun _ hk => hk.2)), fun _ => (by exact Kd.R_mono HO212.out (fun _ hk => hk.2)), z_BK214, Q_GW214, Q_GE214, Q_NB196_214, Q_NB214_196, Q_NB197_214, Q_NB214_197, fun h0_ => absurd ((hoff 10 (by kernel_rfl)).symm.trans h0_) (by decide), Q_X1_, fun _ => rfl, fun h0_ => absurd ((hoff 6 (by kernel_rfl)).symm.trans h0_) (by decide), fun h0_ => absurd ((hoff 7 (by kernel_rfl)).symm.trans h0_) (by decide), Q_X9_⟩
              refine steps_cons ?_ ?_
              ·rintro b a w' ⟨v202, v211, gb214, m1_, m5_, m6_, m7_, m9_, ha, Q_BK196, Q_BK197, Q_HB, Q_HO203, Q_HO203_e5, Q_HO212, Q_BK214, Q_GW214, Q_GE214, Q_NB196_214, Q_NB214_196, Q_NB197_214, Q_NB214_197, Q_BK214_e10, Q_X1_, Q_X5_, Q_X6_, Q_X7_, Q_X9_⟩ hb_ hon hoff
               refine ⟨_, rfl, fun K hK => ?_⟩
               have e29 : a.tmps[29]? = some (m5_) := by rw [ha]; exact putSel_on (e := (5, 29, m5_)) 4 rfl rfl (hon 5 (by kernel_rfl)) rfl
               rw [Q_X5_ (hon 5 (by kernel_rfl))] at e29
               replace ha := Aside0.mk ha
               have BK196 := Aside0.mk Q_BK196
               have BK197 := Aside0.mk Q_BK197
               have HB := Aside0.mk Q_HB
               have HO203 := Aside0.mk (Q_HO203_e5 (hon 5 (by kernel_rfl)))
               have HO212 := Aside0.mk (Q_HO212 (hon 5 (by kernel_rfl)))
               refine value_ (w1 := w') (v := .tuple #[.agg #[.int .i64 t208, .int .i64 t209, v211], .bool t213]) (by rfl) rfl ?_ ?_
               ·go_simp
                (try simp only [i64_w])
                try rfl
               refine hK.out _ _ ⟨v202, v211, gb214, m1_, m5_, (.tuple #[.agg #[.int .i64 t208, .int .i64 t209, v211], .bool t213]), m7_, m9_, (by rw [ha.out]; exact putSel_upk 5 hb_ rfl rfl rfl), Q_BK196, Q_BK197, Q_HB, fun _ h1_ => absurd ((hon 5 (by kernel_rfl)).symm.trans h1_) (by decide), Q_HO203_e5, Q_HO212, Q_BK214, Q_GW214, Q_GE214, Q_NB196_214, Q_NB214_196, Q_NB197_214, Q_NB214_197, fun h0_ => absurd ((hoff 10 (by kernel_rfl)).symm.trans h0_) (by decide), Q_X1_, Q_X5_, fun _ => rfl, fun h0_ => absurd ((hoff 7 (by kernel_rfl)).symm.trans h0_) (by decide), Q_X9_⟩
              refine steps_cons ?_ ?_
              ·rintro b a w' ⟨v202, v211, gb214, m1_, m5_, m6_, m7_, m9_, ha, Q_BK196, Q_BK197, Q_HB, Q_HO203, Q_HO203_e5, Q_HO212, Q_BK214, Q_GW214, Q_GE214, Q_NB196_214, Q_NB214_196, Q_NB197_214, Q_NB214_197, Q_BK214_e10, Q_X1_, Q_X5_, Q_X6_, Q_X7_, Q_X9_⟩ hb_ hon hoff
               refine ⟨_, rfl, fun K hK => ?_⟩
               have e23 : a.tmps[23]? = some (m6_) := by rw [ha]; exact putSel_on (e := (6, 23, m6_)) 5 rfl rfl (hon 6 (by kernel_rfl)) rfl
               rw [Q_X6_ (hon 6 (by kernel_rfl))] at e23
               replace ha := Aside0.mk ha
               have BK196 := Aside0.mk Q_BK196
               have BK197 := Aside0.mk Q_BK197
               have HB := Aside0.mk Q_HB
               have HO203 := Aside0.mk (Q_HO203_e5 (hon 5 (by kernel_rfl)))
               have HO212 := Aside0.mk (Q_HO212 (hon 5 (by kernel_rfl)))
               refine value_ (w1 := w') (v := .agg #[.int .i64 t208, .int .i64 t209, v211]) (by rfl) rfl ?_ ?_
               ·go_simp
                (try simp only [i64_w])
                try rfl
               refine hK.out _ _ ⟨v202, v211, gb214, m1_, m5_, m6_, (.agg #[.int .i64 t208, .int .i64 t209, v211]), m9_, (by rw [ha.out]; exact putSel_upk 6 hb_ rfl rfl rfl), Q_BK196, Q_BK197, Q_HB, fun _ h1_ => absurd ((hon 5 (by kernel_rfl)).symm.trans h1_) (by decide), Q_HO203_e5, Q_HO212, Q_BK214, Q_GW214, Q_GE214, Q_NB196_214, Q_NB214_196, Q_NB197_214, Q_NB214_197, fun h0_ => absurd ((hoff 10 (by kernel_rfl)).symm.trans h0_) (by decide), Q_X1_, Q_X5_, Q_X6_, fun _ => rfl, Q_X9_⟩
              refine steps_cons ?_ ?_
              ·rintro b a w' ⟨v202, v211, gb214, m1_, m5_, m6_, m7_, m9_, ha, Q_BK196, Q_BK197, Q_HB, Q_HO203, Q_HO203_e5, Q_HO212, Q_BK214, Q_GW214, Q_GE214, Q_NB196_214, Q_NB214_196, Q_NB197_214, Q_NB214_197, Q_BK214_e10, Q_X1_, Q_X5_, Q_X6_, Q_X7_, Q_X9_⟩ hb_ hon hoff
               refine ⟨_, rfl, fun K hK => ?_⟩
               have e23 : a.tmps[23]? = some (m6_) := by rw [ha]; exact putSel_on (e := (6, 23, m6_)) 5 rfl rfl (hon 6 (by kernel_rfl)) rfl
               rw [Q_X6_ (hon 6 (by kernel_rfl))] at e23
               replace ha := Aside0.mk ha
               have BK196 := Aside0.mk Q_BK196
               have BK197 := Aside0.mk Q_BK197
               have HB := Aside0.mk Q_HB
               have HO203 := Aside0.mk (Q_HO203_e5 (hon 5 (by kernel_rfl)))
               have HO212 := Aside0.mk (Q_HO212 (hon 5 (by kernel_rfl)))
               refine value_ (w1 := w') (v := .bool t213) (by rfl) rfl ?_ ?_
               ·go_simp
                (try simp only [i64_w])
                try rfl
               refine hK.out _ _ ⟨v202, v211, gb214, m1_, m5_, m6_, m7_, m9_, (by rw [ha.out]; exact putSel_upk 7 hb_ rfl rfl rfl), Q_BK196, Q_BK197, Q_HB, fun _ h1_ => absurd ((hon 5 (by kernel_rfl)).symm.trans h1_) (by decide), Q_HO203_e5, Q_HO212, Q_BK214, Q_GW214, Q_GE214, Q_NB196_214, Q_NB214_196, Q_NB197_214, Q_NB214_197, Q_BK214_e10, Q_X1_, Q_X5_, Q_X6_, Q_X7_, Q_X9_⟩
              refine steps_cons ?_ ?_
              ·rintro b a w' ⟨v202, v211, gb214, m1_, m5_, m6_, m7_, m9_, ha, Q_BK196, Q_BK197, Q_HB, Q_HO203, Q_HO203_e5, Q_HO212, Q_BK214, Q_GW214, Q_GE214, Q_NB196_214, Q_NB214_196, Q_NB197_214, Q_NB214_197, Q_BK214_e10, Q_X1_, Q_X5_, Q_X6_, Q_X7_, Q_X9_⟩ hb_ hon hoff
               refine ⟨_, rfl, fun K hK => ?_⟩
               replace ha := Aside0.mk ha
               have BK196 := Aside0.mk Q_BK196
               have BK197 := Aside0.mk Q_BK197
               have HB := Aside0.mk Q_HB
               refine box_step ?hg (N := 8) ?hd (cs := #[.int .i64 0, .int .i64 0, .slice none 0 0]) (t := 37) ?hr ?_; (case hd => rfl); (case hg => rfl); (case hr => first | (go_simp; done) | (go_simp; rfl))
               intro gb214 hg w46 hbox hb
               have n0_ := Aside0.mk (blk_below (g := gb196) (o := .cells #[.int .i64 a0_0, .int .i64 a0_1, .slice A0_2 l0_2.length c0_2] 33 (0, 0)) (by exact BK196.out) hb)
               have n1_ := Aside0.mk (blk_below (g := gb197) (o := .cells #[.int .i64 a1_0, .int .i64 a1_1, .int .i64 a1_2, .int .i64 a1_3] 35 (0, 0)) (by exact BK197.out) hb)
               have n2_ := Aside0.mk (below_step (by repeat (first | (with_reducible first | exact HB.out | apply below_alloc | apply pw_below_drewN | apply below_drew1 | refine below_set ?_ GE196.out | refine below_set ?_ GE197.out) | exact HB.out)) hb)
               have n3_ := Aside0.mk (hbox)
               have n4_ := Aside0.mk ((by rw [hg]; exact (below_size (by repeat (first | (with_reducible first | exact HB.out | apply below_alloc | apply pw_below_drewN | apply below_drew1 | refine below_set ?_ GE196.out | refine below_set ?_ GE197.out) | exact HB.out))) : w.heap.size ≤ gb214))
               have n5_ := Aside0.mk ((by rw [hg]; exact (below_size (by repeat (first | (with_reducible first | exact HB.out | apply below_alloc | apply pw_below_drewN | apply below_drew1 | refine below_set ?_ GE196.out | refine below_set ?_ GE197.out) | exact HB.out))) : w.heap.size ≤ gb214))
               have n6_ := Aside0.mk ((by rw [hg]; exact Nat.ne_of_lt (blk_lt (g := gb196) (o := .cells #[.int .i64 a0_0, .int .i64 a0_1, .slice A0_2 l0_2.length c0_2] 33 (0, 0)) (by exact BK196.out)) : gb196 ≠ gb214))
               have n7_ := Aside0.mk ((by rw [hg]; exact Nat.ne_of_gt (blk_lt (g := gb196) (o := .cells #[.int .i64 a0_0, .int .i64 a0_1, .slice A0_2 l0_2.length c0_2] 33 (0, 0)) (by exact BK196.out)) : gb214 ≠ gb196))
               have n8_ := Aside0.mk ((by rw [hg]; exact Nat.ne_of_lt (blk_lt (g := gb197) (o := .cells #[.int .i64 a1_0, .int .i64 a1_1, .int .i64 a1_2, .int .i64 a1_3] 35 (0, 0)) (by exact BK197.out)) : gb197 ≠ gb214))
               have n9_ := Aside0.mk ((by rw [hg]; exact Nat.ne_of_gt (blk_lt (g := gb197) (o := .cells #[.int .i64 a1_0, .int .i64 a1_1, .int .i64 a1_2, .int .i64 a1_3] 35 (0, 0)) (by exact BK197.out)) : gb214 ≠ gb197))
               have z_HO203 := fun (h0_ : b 1 = true) (h1_ : b 5 = false) => (show Kd.R (Kd.int .i64) 3 w46 w.heap.size (fun _ => True) v202 t201 from by first | exact (Kd.R_below (by exact (Q_HO203 h0_ h1_)) hb) | exact Kd.R_mono (Kd.R_below (by exact (Q_HO203 h0_ h1_)) hb) (fun _ h_ => by first | trivial | exact h_ | exact h_.1))
               have z_HO203_e5 := fun (h0_ : b 5 = true) => (show Kd.R (Kd.int .i64) 3 w46 w.heap.size (fun k_ => some k_ ≠ (v211 : Value).ownBlock) v202 t201 from by first | exact (Kd.R_below (by exact (Q_HO203_e5 h0_)) hb) | exact Kd.R_mono (Kd.R_below (by exact (Q_HO203_e5 h0_)) hb) (fun _ h_ => by first | trivial | exact h_ | exact h_.1))
               have z_HO212 := fun (h0_ : b 5 = true) => (show Kd.R (Kd.int .i64) 3 w46 w.heap.size (fun k_ => some k_ ≠ (v202 : Value).ownBlock) v211 t210 from by first | exact (Kd.R_below (by exact (Q_HO212 h0_)) hb) | exact Kd.R_mono (Kd.R_below (by exact (Q_HO212 h0_)) hb) (fun _ h_ => by first | trivial | exact h_ | exact h_.1))
               clear BK196
               clear BK197
               clear HB
               have BK196 := n0_
               have BK197 := n1_
               have HB := n2_
               have BK214 := n3_
               have GW214 := n4_
               have GE214 := n5_
               have NB196_214 := n6_
               have NB214_196 := n7_
               have NB197_214 := n8_
               have NB214_197 := n9_
               clear n0_ n1_ n2_ n3_ n4_ n5_ n6_ n7_ n8_ n9_
               clear hb hbox hg
               refine hK.out _ _ ⟨v202, v211, gb214, m1_, m5_, m6_, m7_, (.pointer (some ⟨gb214, 0, none⟩)), (by rw [ha.out]; exact putSel_upk 8 hb_ rfl rfl rfl), (by exact BK196.out), (by exact BK197.out), (by repeat (first | (with_reducible first | exact HB.out | apply below_alloc | apply pw_below_drewN | apply below_drew1 | refine below_set ?_ GE196.out | refine below_set ?_ GE197.out | refine below_set ?_ GE214.out) | exact HB.out)), z_HO203, z_HO203_e5, z_HO212, fun _ _ => (by exact BK214.out), fun _ => GW214.out, fun _ => GE214.out, fun _ => NB196_214.out, fun _ => NB214_196.out, fun _ => NB197_214.out, fun _ => NB214_197.out, fun h0_ => absurd ((hoff 10 (by kernel_rfl)).symm.trans h0_) (by decide), Q_X1_, Q_X5_, Q_X6_, Q_X7_, fun _ => rfl⟩
              refine steps_cons ?_ ?_
              ·rintro b a w' ⟨v202, v211, gb214, m1_, m5_, m6_, m7_, m9_, ha, Q_BK196, Q_BK197, Q_HB, Q_HO203, Q_HO203_e5, Q_HO212, Q_BK214, Q_GW214, Q_GE214, Q_NB196_214, Q_NB214_196, Q_NB197_214, Q_NB214_197, Q_BK214_e10, Q_X1_, Q_X5_, Q_X6_, Q_X7_, Q_X9_⟩ hb_ hon hoff
               refine ⟨_, rfl, fun K hK => ?_⟩
               have e8 : a.tmps[8]? = some (m9_) := by rw [ha]; exact putSel_on (e := (9, 8, m9_)) 8 rfl rfl (hon 9 (by kernel_rfl)) rfl
               rw [Q_X9_ (hon 9 (by kernel_rfl))] at e8
               have e30 : a.tmps[30]? = some (m7_) := by rw [ha]; exact putSel_on (e := (7, 30, m7_)) 6 rfl rfl (hon 7 (by kernel_rfl)) rfl
               rw [Q_X7_ (hon 7 (by kernel_rfl))] at e30
               replace ha := Aside0.mk ha
               have BK196 := Aside0.mk Q_BK196
               have BK197 := Aside0.mk Q_BK197
               have HB := Aside0.mk Q_HB
               have HO203 := Aside0.mk (Q_HO203_e5 (hon 5 (by kernel_rfl)))
               have HO212 := Aside0.mk (Q_HO212 (hon 5 (by kernel_rfl)))
               have BK214 := Aside0.mk (Q_BK214 (hon 9 (by kernel_rfl)) hb_)
               have GW214 := Aside0.mk (Q_GW214 (hon 9 (by kernel_rfl)))
               have GE214 := Aside0.mk (Q_GE214 (hon 9 (by kernel_rfl)))
               have NB196_214 := Aside0.mk (Q_NB196_214 (hon 9 (by kernel_rfl)))
               have NB214_196 := Aside0.mk (Q_NB214_196 (hon 9 (by kernel_rfl)))
               have NB197_214 := Aside0.mk (Q_NB197_214 (hon 9 (by kernel_rfl)))
               have NB214_197 := Aside0.mk (Q_NB214_197 (hon 9 (by kernel_rfl)))
               obtain ⟨Ao54, co54, eo54⟩ := Kd.R_slice HO212.out
               (first | subst eo54 | (injection eo54 with f1_ f2_ f3_; have f4_ := f1_.symm; have f5_ := f3_.symm; clear f1_ f2_ f3_; subst f4_; subst f5_))
               have hs52 : w'.cell? ⟨gb214, 0, none⟩ = some (.int .i64 0) := (blk_cell BK214.out 0).trans rfl
               have hfs52 := blk_frozen BK214.out 0
               have hns52_0 := NB196_214.out
               have hns52_1 := NB197_214.out
               have hms52_0 := NB214_196.out
               have hms52_1 := NB214_197.out
               have hs53 : w'.cell? ⟨gb214, 1, none⟩ = some (.int .i64 0) := (blk_cell BK214.out 1).trans rfl
               have hfs53 := blk_frozen BK214.out 1
               have hns53_0 := NB196_214.out
               have hns53_1 := NB197_214.out
               have hms53_0 := NB214_196.out
               have hms53_1 := NB214_197.out
               have hs55 : w'.cell? ⟨gb214, 2, none⟩ = some (.slice none 0 0) := (blk_cell BK214.out 2).trans rfl
               have hfs55 := blk_frozen BK214.out 2
               have hns55_0 := NB196_214.out
               have hns55_1 := NB197_214.out
               have hms55_0 := NB214_196.out
               have hms55_1 := NB214_197.out
               refine skip_ (w1 := ?_) (by rfl) rfl ?_ ?_
               rotate_left
               ·go_simp
                rfl
               refine hK.out _ _ ⟨v202, .slice Ao54 t210.length co54, gb214, m1_, m5_, m6_, m7_, m9_, (by rw [ha.out]; exact putSel_none (v := undef) rfl), (by refine blk_far ?_ NB196_214.out _; refine blk_far ?_ NB196_214.out _; refine blk_far ?_ NB196_214.out _; exact BK196.out), (by refine blk_far ?_ NB197_214.out _; refine blk_far ?_ NB197_214.out _; refine blk_far ?_ NB197_214.out _; exact BK197.out), (by repeat (first | (with_reducible first | exact HB.out | apply below_alloc | apply pw_below_drewN | apply below_drew1 | refine below_set ?_ GE196.out | refine below_set ?_ GE197.out | refine below_set ?_ GE214.out) | exact HB.out)), fun _ h1_ => absurd ((hon 5 (by kernel_rfl)).symm.trans h1_) (by decide), fun _ => (by exact Kd.R_mono (Kd.R_far (p := ⟨gb214, 2, none⟩) (Kd.R_far (p := ⟨gb214, 1, none⟩) (Kd.R_far (p := ⟨gb214, 0, none⟩) (Kd.R_types HO203.out BK214.out (by decide)) (fun _ hk => hk.2) (.int .i64 t208)) (fun _ hk => hk.2) (.int .i64 t209)) (fun _ hk => hk.2) (.slice Ao54 t210.length co54)) (fun _ hk => hk.1)), fun _ => (by exact Kd.R_mono (Kd.R_far (p := ⟨gb214, 2, none⟩) (Kd.R_far (p := ⟨gb214, 1, none⟩) (Kd.R_far (p := ⟨gb214, 0, none⟩) (Kd.R_types HO212.out BK214.out (by decide)) (fun _ hk => hk.2) (.int .i64 t208)) (fun _ hk => hk.2) (.int .i64 t209)) (fun _ hk => hk.2) (.slice Ao54 t210.length co54)) (fun _ hk => hk.1)), fun _ h1_ => absurd ((up_self b 10).symm.trans h1_) (by decide), fun _ => GW214.out, fun _ => GE214.out, fun _ => NB196_214.out, fun _ => NB214_196.out, fun _ => NB197_214.out, fun _ => NB214_197.out, fun _ => (by refine blk_put (cs := #[.int .i64 t208, .int .i64 t209, .slice none 0 0]) ?_ 2 _ rfl; refine blk_put (cs := #[.int .i64 t208, .int .i64 0, .slice none 0 0]) ?_ 1 _ rfl; refine blk_put (cs := #[.int .i64 0, .int .i64 0, .slice none 0 0]) ?_ 0 _ rfl; exact BK214.out), Q_X1_, Q_X5_, Q_X6_, Q_X7_, Q_X9_⟩
              refine steps_cons ?_ ?_
              ·rintro b a w' ⟨v202, v211, gb214, m1_, m5_, m6_, m7_, m9_, ha, Q_BK196, Q_BK197, Q_HB, Q_HO203, Q_HO203_e5, Q_HO212, Q_BK214, Q_GW214, Q_GE214, Q_NB196_214, Q_NB214_196, Q_NB197_214, Q_NB214_197, Q_BK214_e10, Q_X1_, Q_X5_, Q_X6_, Q_X7_, Q_X9_⟩ hb_ hon hoff
               refine ⟨_, rfl, fun K hK => ?_⟩
               have e31 : a.tmps[31]? = some (.bool t213) := by rw [ha]; exact putSel_on (e := (8, 31, .bool t213)) 7 rfl rfl (hon 8 (by kernel_rfl)) rfl
               replace ha := Aside0.mk ha
               have BK196 := Aside0.mk Q_BK196
               have BK197 := Aside0.mk Q_BK197
               have HB := Aside0.mk Q_HB
               have HO203 := Aside0.mk (Q_HO203_e5 (hon 5 (by kernel_rfl)))
               have HO212 := Aside0.mk (Q_HO212 (hon 5 (by kernel_rfl)))
               have GW214 := Aside0.mk (Q_GW214 (hon 9 (by kernel_rfl)))
               have GE214 := Aside0.mk (Q_GE214 (hon 9 (by kernel_rfl)))
               have NB196_214 := Aside0.mk (Q_NB196_214 (hon 9 (by kernel_rfl)))
               have NB214_196 := Aside0.mk (Q_NB214_196 (hon 9 (by kernel_rfl)))
               have NB197_214 := Aside0.mk (Q_NB197_214 (hon 9 (by kernel_rfl)))
               have NB214_197 := Aside0.mk (Q_NB214_197 (hon 9 (by kernel_rfl)))
               have BK214 := Aside0.mk (Q_BK214_e10 (hon 10 (by kernel_rfl)))
               refine value_ (w1 := w') (v := .bool t213) (by rfl) rfl ?_ ?_
               ·go_simp
                (try simp only [i64_w])
                try rfl
               refine hK.out _ _ ⟨v202, v211, gb214, m1_, m5_, m6_, m7_, m9_, (by rw [ha.out]; exact putSel_upk 9 hb_ rfl rfl rfl), Q_BK196, Q_BK197, Q_HB, fun _ h1_ => absurd ((hon 5 (by kernel_rfl)).symm.trans h1_) (by decide), Q_HO203_e5, Q_HO212, fun _ h1_ => absurd ((hon 10 (by kernel_rfl)).symm.trans h1_) (by decide), Q_GW214, Q_GE214, Q_NB196_214, Q_NB214_196, Q_NB197_214, Q_NB214_197, Q_BK214_e10, Q_X1_, Q_X5_, Q_X6_, Q_X7_, Q_X9_⟩
              exact steps_nil
             rintro b a w55 hall ⟨v202, v211, gb214, m1_, m5_, m6_, m7_, m9_, ha, Q_BK196, Q_BK197, Q_HB, Q_HO203, Q_HO203_e5, Q_HO212, Q_BK214, Q_GW214, Q_GE214, Q_NB196_214, Q_NB214_196, Q_NB197_214, Q_NB214_197, Q_BK214_e10, Q_X1_, Q_X5_, Q_X6_, Q_X7_, Q_X9_⟩
             clear BK196 BK197 HB
             have hb0_ := hall 0 (by kernel_rfl)
             have hb1_ := hall 1 (by kernel_rfl)
             have hb2_ := hall 2 (by kernel_rfl)
             have hb3_ := hall 3 (by kernel_rfl)
             have hb5_ := hall 5 (by kernel_rfl)
             have hb6_ := hall 6 (by kernel_rfl)
             have hb7_ := hall 7 (by kernel_rfl)
             have hb8_ := hall 8 (by kernel_rfl)
             have hb9_ := hall 9 (by kernel_rfl)
             have hb10_ := hall 10 (by kernel_rfl)
             have hb11_ := hall 11 (by kernel_rfl)
             subst ha
             obtain rfl := Q_X1_ hb1_
             obtain rfl := Q_X5_ hb5_
             obtain rfl := Q_X6_ hb6_
             obtain rfl := Q_X7_ hb7_
             obtain rfl := Q_X9_ hb9_
             simp only [putSel, hb0_, hb1_, hb2_, hb3_, hb5_, hb6_, hb7_, hb8_, hb9_, hb10_, hb11_, if_true, Act.put, List.setIfInBounds_toArray, List.set_cons_zero, List.set_cons_succ]
             have BK196 := Aside0.mk Q_BK196
             clear Q_BK196
             have BK197 := Aside0.mk Q_BK197
             clear Q_BK197
             have HB := Aside0.mk Q_HB
             clear Q_HB
             clear Q_HO203
             have HO203 := Aside0.mk (Q_HO203_e5 hb5_)
             clear Q_HO203_e5
             have HO212 := Aside0.mk (Q_HO212 hb5_)
             clear Q_HO212
             clear Q_BK214
             have GW214 := Aside0.mk (Q_GW214 hb9_)
             clear Q_GW214
             have GE214 := Aside0.mk (Q_GE214 hb9_)
             clear Q_GE214
             have NB196_214 := Aside0.mk (Q_NB196_214 hb9_)
             clear Q_NB196_214
             have NB214_196 := Aside0.mk (Q_NB214_196 hb9_)
             clear Q_NB214_196
             have NB197_214 := Aside0.mk (Q_NB197_214 hb9_)
             clear Q_NB197_214
             have NB214_197 := Aside0.mk (Q_NB214_197 hb9_)
             clear Q_NB214_197
             have BK214 := Aside0.mk (Q_BK214_e10 hb10_)
             clear Q_BK214_e10
             clear hall hb0_ hb1_ hb2_ hb3_ hb5_ hb6_ hb7_ hb8_ hb9_ hb10_ hb11_
             have hnb56 := NB196_214.out
             have hnc56 := NB214_196.out
             have hcz57_0 : w55.cell? ⟨gb196, 0, none⟩ = some (.int .i64 a0_0) := (blk_cell BK196.out 0).trans rfl
             have hcz57_1 : w55.cell? ⟨gb196, 1, none⟩ = some (.int .i64 a0_1) := (blk_cell BK196.out 1).trans rfl
             have hcz57_2 : w55.cell? ⟨gb196, 2, none⟩ = some (.slice A0_2 l0_2.length c0_2) := (blk_cell BK196.out 2).trans rfl
             have hfz57_0 := blk_frozen BK196.out 0
             have hfz57_1 := blk_frozen BK196.out 1
             have hfz57_2 := blk_frozen BK196.out 2
             try go_wp2_with (first | ((with_reducible refine gate_callee (f := 26) rfl ?_); refine goesL_ (some 33) rfl rfl Try.func26 (by kernel_rfl) rfl #[.agg #[.int .i64 a0_0, .int .i64 a0_1, .slice A0_2 l0_2.length c0_2]] rfl (by (try simp only [List.map_toArray, List.map_cons, List.map_nil]); first | done | rfl | (simp only [List.length_drop, List.length_take]; rfl)) ?_; (with_reducible refine (laws_toSheet.calls k a0_0 a0_1 _ _ l0_2 t215 t216 t217 _ ?side1 ?side2 A14.out).mono ?_); (case side1 => repeat (first | exact (Kd.C_below HR0_2.out HB.out) | (with_reducible refine Kd.C_alloc ?_ _) | (with_reducible refine Kd.C_drewN ?_ _) | (with_reducible refine Kd.C_drew ?_))); (case side2 => exact HC0_2.out); rintro e w58 ⟨v218, rfl, ho0, hb⟩; refine ⟨_, rfl, ?_⟩; have n0_ := Aside0.mk (Kd.R_elder' (by exact HO203.out) (Kd.R_base ho0) hb); have n1_ := Aside0.mk (Kd.R_elder' (by exact HO212.out) (Kd.R_base ho0) hb); have n2_ := Aside0.mk (Kd.R_lower (Kd.R_new' (Kd.R_new' ho0 (Kd.R_lt (by exact HO203.out))) (Kd.R_lt (by exact HO212.out))) (below_size (by repeat (first | (with_reducible first | exact HB.out | apply below_alloc | apply pw_below_drewN | apply below_drew1 | refine below_set ?_ GE196.out | refine below_set ?_ GE197.out | refine below_set ?_ GE214.out) | exact HB.out)))); have n3_ := Aside0.mk (blk_below (g := gb196) (o := .cells #[.int .i64 a0_0, .int .i64 a0_1, .slice A0_2 l0_2.length c0_2] 33 (0, 0)) (by exact BK196.out) hb); have n4_ := Aside0.mk (blk_below (g := gb197) (o := .cells #[.int .i64 a1_0, .int .i64 a1_1, .int .i64 a1_2, .int .i64 a1_3] 35 (0, 0)) (by exact BK197.out) hb); have n5_ := Aside0.mk (blk_below (g := gb214) (o := .cells #[.int .i64 t208, .int .i64 t209, v211] 37 (0, 0)) (by exact BK214.out) hb); have n6_ := Aside0.mk (below_step (by repeat (first | (with_reducible first | exact HB.out | apply below_alloc | apply pw_below_drewN | apply below_drew1 | refine below_set ?_ GE196.out | refine below_set ?_ GE197.out | refine below_set ?_ GE214.out) | exact HB.out)) hb); clear HO203; clear HO212; clear BK196; clear BK197; clear BK214; clear HB; have HO203 := n0_; have HO212 := n1_; have HO219 := n2_; have BK196 := n3_; have BK197 := n4_; have BK214 := n5_; have HB := n6_; clear n0_ n1_ n2_ n3_ n4_ n5_ n6_; (try clear hb); (try clear hb2); (try clear hk); (try clear hi); (try clear ho0)) | ((with_reducible refine gate_dst (N := 10) rfl ?_); refine box_event ?hg (N := 10) ?hd (cs := #[.int .i64 0, .int .i64 0, .slice none 0 0]) (t := 37) ?hr ?_; (case hd => rfl); (case hg => rfl); (case hr => first | (go_simp; done) | (go_simp; rfl)); intro gb220 hg w59 hbox hb; have n0_ := Aside0.mk (Kd.R_below (by exact HO203.out) hb); have n1_ := Aside0.mk (Kd.R_below (by exact HO212.out) hb); have n2_ := Aside0.mk (Kd.R_below (by exact HO219.out) hb); have n3_ := Aside0.mk (blk_below (g := gb196) (o := .cells #[.int .i64 a0_0, .int .i64 a0_1, .slice A0_2 l0_2.length c0_2] 33 (0, 0)) (by exact BK196.out) hb); have n4_ := Aside0.mk (blk_below (g := gb197) (o := .cells #[.int .i64 a1_0, .int .i64 a1_1, .int .i64 a1_2, .int .i64 a1_3] 35 (0, 0)) (by exact BK197.out) hb); have n5_ := Aside0.mk (blk_below (g := gb214) (o := .cells #[.int .i64 t208, .int .i64 t209, v211] 37 (0, 0)) (by exact BK214.out) hb); have n6_ := Aside0.mk (below_step (by repeat (first | (with_reducible first | exact HB.out | apply below_alloc | apply pw_below_drewN | apply below_drew1 | refine below_set ?_ GE196.out | refine below_set ?_ GE197.out | refine below_set ?_ GE214.out) | exact HB.out)) hb); have n7_ := Aside0.mk (hbox); have n8_ := Aside0.mk ((by rw [hg]; exact (below_size (by repeat (first | (with_reducible first | exact HB.out | apply below_alloc | apply pw_below_drewN | apply below_drew1 | refine below_set ?_ GE196.out | refine below_set ?_ GE197.out | refine below_set ?_ GE214.out) | exact HB.out))) : w.heap.size ≤ gb220)); have n9_ := Aside0.mk ((by rw [hg]; exact (below_size (by repeat (first | (with_reducible first | exact HB.out | apply below_alloc | apply pw_below_drewN | apply below_drew1 | refine below_set ?_ GE196.out | refine below_set ?_ GE197.out | refine below_set ?_ GE214.out) | exact HB.out))) : w.heap.size ≤ gb220)); have n10_ := Aside0.mk ((by rw [hg]; exact Nat.ne_of_lt (blk_lt (g := gb196) (o := .cells #[.int .i64 a0_0, .int .i64 a0_1, .slice A0_2 l0_2.length c0_2] 33 (0, 0)) (by exact BK196.out)) : gb196 ≠ gb220)); have n11_ := Aside0.mk ((by rw [hg]; exact Nat.ne_of_gt (blk_lt (g := gb196) (o := .cells #[.int .i64 a0_0, .int .i64 a0_1, .slice A0_2 l0_2.length c0_2] 33 (0, 0)) (by exact BK196.out)) : gb220 ≠ gb196)); have n12_ := Aside0.mk ((by rw [hg]; exact Nat.ne_of_lt (blk_lt (g := gb197) (o := .cells #[.int .i64 a1_0, .int .i64 a1_1, .int .i64 a1_2, .int .i64 a1_3] 35 (0, 0)) (by exact BK197.out)) : gb197 ≠ gb220)); have n13_ := Aside0.mk ((by rw [hg]; exact Nat.ne_of_gt (blk_lt (g := gb197) (o := .cells #[.int .i64 a1_0, .int .i64 a1_1, .int .i64 a1_2, .int .i64 a1_3] 35 (0, 0)) (by exact BK197.out)) : gb220 ≠ gb197)); have n14_ := Aside0.mk ((by rw [hg]; exact Nat.ne_of_lt (blk_lt (g := gb214) (o := .cells #[.int .i64 t208, .int .i64 t209, v211] 37 (0, 0)) (by exact BK214.out)) : gb214 ≠ gb220)); have n15_ := Aside0.mk ((by rw [hg]; exact Nat.ne_of_gt (blk_lt (g := gb214) (o := .cells #[.int .i64 t208, .int .i64 t209, v211] 37 (0, 0)) (by exact BK214.out)) : gb220 ≠ gb214)); clear HO203; clear HO212; clear HO219; clear BK196; clear BK197; clear BK214; clear HB; have HO203 := n0_; have HO212 := n1_; have HO219 := n2_; have BK196 := n3_; have BK197 := n4_; have BK214 := n5_; have HB := n6_; have BK220 := n7_; have GW220 := n8_; have GE220 := n9_; have NB196_220 := n10_; have NB220_196 := n11_; have NB197_220 := n12_; have NB220_197 := n13_; have NB214_220 := n14_; have NB220_214 := n15_; clear n0_ n1_ n2_ n3_ n4_ n5_ n6_ n7_ n8_ n9_ n10_ n11_ n12_ n13_ n14_ n15_; clear hb hbox hg; have hnb60 := NB220_196.out; have hnc60 := NB196_220.out; have hnb61 := NB220_197.out; have hnc61 := NB197_220.out; have hnb62 := NB220_214.out; have hnc62 := NB214_220.out; have hcz63_0 : w59.cell? ⟨gb220, 0, none⟩ = some (.int .i64 0) := (blk_cell BK220.out 0).trans rfl; have hcz63_1 : w59.cell? ⟨gb220, 1, none⟩ = some (.int .i64 0) := (blk_cell BK220.out 1).trans rfl; have hcz63_2 : w59.cell? ⟨gb220, 2, none⟩ = some (.slice none 0 0) := (blk_cell BK220.out 2).trans rfl; have hfz63_0 := blk_frozen BK220.out 0; have hfz63_1 := blk_frozen BK220.out 1; have hfz63_2 := blk_frozen BK220.out 2; obtain ⟨Ao64, co64, eo64⟩ := Kd.R_slice HO219.out; subst eo64))
             have n0_ : Aside0 (Kd.R (Kd.int .i64) 3 (((w59.setCell ⟨gb220, 0, none⟩ (.int .i64 t215)).setCell ⟨gb220, 1, none⟩ (.int .i64 t216)).setCell ⟨gb220, 2, none⟩ (.slice Ao64 t217.length co64)) w.heap.size (fun k_ => some k_ ≠ (v211 : Value).ownBlock ∧ some k_ ≠ (.slice Ao64 t217.length co64 : Value).ownBlock) v202 t201) := ⟨by exact Kd.R_mono (Kd.R_far (p := ⟨gb220, 2, none⟩) (Kd.R_far (p := ⟨gb220, 1, none⟩) (Kd.R_far (p := ⟨gb220, 0, none⟩) (Kd.R_types HO203.out BK220.out (by decide)) (fun _ hk => hk.2) (.int .i64 t215)) (fun _ hk => hk.2) (.int .i64 t216)) (fun _ hk => hk.2) (.slice Ao64 t217.length co64)) (fun _ hk => ⟨hk.1.1, hk.1.2⟩)⟩
             have n1_ : Aside0 (Kd.R (Kd.int .i64) 3 (((w59.setCell ⟨gb220, 0, none⟩ (.int .i64 t215)).setCell ⟨gb220, 1, none⟩ (.int .i64 t216)).setCell ⟨gb220, 2, none⟩ (.slice Ao64 t217.length co64)) w.heap.size (fun k_ => some k_ ≠ (v202 : Value).ownBlock ∧ some k_ ≠ (.slice Ao64 t217.length co64 : Value).ownBlock) v211 t210) := ⟨by exact Kd.R_mono (Kd.R_far (p := ⟨gb220, 2, none⟩) (Kd.R_far (p := ⟨gb220, 1, none⟩) (Kd.R_far (p := ⟨gb220, 0, none⟩) (Kd.R_types HO212.out BK220.out (by decide)) (fun _ hk => hk.2) (.int .i64 t215)) (fun _ hk => hk.2) (.int .i64 t216)) (fun _ hk => hk.2) (.slice Ao64 t217.length co64)) (fun _ hk => ⟨hk.1.1, hk.1.2⟩)⟩
             have n2_ : Aside0 (Kd.R (Kd.int .i64) 3 (((w59.setCell ⟨gb220, 0, none⟩ (.int .i64 t215)).setCell ⟨gb220, 1, none⟩ (.int .i64 t216)).setCell ⟨gb220, 2, none⟩ (.slice Ao64 t217.length co64)) w.heap.size (fun k_ => some k_ ≠ (v202 : Value).ownBlock ∧ some k_ ≠ (v211 : Value).ownBlock) (.slice Ao64 t217.length co64) t217) := ⟨by exact Kd.R_mono (Kd.R_far (p := ⟨gb220, 2, none⟩) (Kd.R_far (p := ⟨gb220, 1, none⟩) (Kd.R_far (p := ⟨gb220, 0, none⟩) (Kd.R_types HO219.out BK220.out (by decide)) (fun _ hk => hk.2) (.int .i64 t215)) (fun _ hk => hk.2) (.int .i64 t216)) (fun _ hk => hk.2) (.slice Ao64 t217.length co64)) (fun _ hk => ⟨hk.1.1.2, hk.1.2⟩)⟩
             have n3_ : Aside0 ((((w59.setCell ⟨gb220, 0, none⟩ (.int .i64 t215)).setCell ⟨gb220, 1, none⟩ (.int .i64 t216)).setCell ⟨gb220, 2, none⟩ (.slice Ao64 t217.length co64)).heap[gb196]? = some (.cells #[.int .i64 a0_0, .int .i64 a0_1, .slice A0_2 l0_2.length c0_2] 33 (0, 0))) := ⟨by refine blk_far ?_ NB196_220.out _; refine blk_far ?_ NB196_220.out _; refine blk_far ?_ NB196_220.out _; exact BK196.out⟩
             have n4_ : Aside0 ((((w59.setCell ⟨gb220, 0, none⟩ (.int .i64 t215)).setCell ⟨gb220, 1, none⟩ (.int .i64 t216)).setCell ⟨gb220, 2, none⟩ (.slice Ao64 t217.length co64)).heap[gb197]? = some (.cells #[.int .i64 a1_0, .int .i64 a1_1, .int .i64 a1_2, .int .i64 a1_3] 35 (0, 0))) := ⟨by refine blk_far ?_ NB197_220.out _; refine blk_far ?_ NB197_220.out _; refine blk_far ?_ NB197_220.out _; exact BK197.out⟩
             have n5_ : Aside0 ((((w59.setCell ⟨gb220, 0, none⟩ (.int .i64 t215)).setCell ⟨gb220, 1, none⟩ (.int .i64 t216)).setCell ⟨gb220, 2, none⟩ (.slice Ao64 t217.length co64)).heap[gb214]? = some (.cells #[.int .i64 t208, .int .i64 t209, v211] 37 (0, 0))) := ⟨by refine blk_far ?_ NB214_220.out _; refine blk_far ?_ NB214_220.out _; refine blk_far ?_ NB214_220.out _; exact BK214.out⟩
             have n6_ : Aside0 ((((w59.setCell ⟨gb220, 0, none⟩ (.int .i64 t215)).setCell ⟨gb220, 1, none⟩ (.int .i64 t216)).setCell ⟨gb220, 2, none⟩ (.slice Ao64 t217.length co64)).heap[gb220]? = some (.cells #[.int .i64 t215, .int .i64 t216, .slice Ao64 t217.length co64] 37 (0, 0))) := ⟨by refine blk_put (cs := #[.int .i64 t215, .int .i64 t216, .slice none 0 0]) ?_ 2 _ rfl; refine blk_put (cs := #[.int .i64 t215, .int .i64 0, .slice none 0 0]) ?_ 1 _ rfl; refine blk_put (cs := #[.int .i64 0, .int .i64 0, .slice none 0 0]) ?_ 0 _ rfl; exact BK220.out⟩
             have n7_ : Aside0 (Below w.heap.size w (((w59.setCell ⟨gb220, 0, none⟩ (.int .i64 t215)).setCell ⟨gb220, 1, none⟩ (.int .i64 t216)).setCell ⟨gb220, 2, none⟩ (.slice Ao64 t217.length co64))) := ⟨by repeat (first | (with_reducible first | exact HB.out | apply below_alloc | apply pw_below_drewN | apply below_drew1 | refine below_set ?_ GE196.out | refine below_set ?_ GE197.out | refine below_set ?_ GE214.out | refine below_set ?_ GE220.out) | exact HB.out)⟩
             (try clear HO203)
             (try clear HO212)
             (try clear HO219)
             (try clear BK196)
             (try clear BK197)
             (try clear BK214)
             (try clear BK220)
             (try clear HB)
             generalize (((w59.setCell ⟨gb220, 0, none⟩ (.int .i64 t215)).setCell ⟨gb220, 1, none⟩ (.int .i64 t216)).setCell ⟨gb220, 2, none⟩ (.slice Ao64 t217.length co64)) = w65 at n0_ n1_ n2_ n3_ n4_ n5_ n6_ n7_ ⊢
             have HO203 := n0_
             have HO212 := n1_
             have HO219 := n2_
             have BK196 := n3_
             have BK197 := n4_
             have BK214 := n5_
             have BK220 := n6_
             have HB := n7_
             clear n0_ n1_ n2_ n3_ n4_ n5_ n6_ n7_
             have n0_ := Aside0.mk (Kd.R_drew HO203.out)
             have n1_ := Aside0.mk (Kd.R_drew HO212.out)
             have n2_ := Aside0.mk (Kd.R_drew HO219.out)
             have n3_ := Aside0.mk (blk_drew BK196.out)
             have n4_ := Aside0.mk (blk_drew BK197.out)
             have n5_ := Aside0.mk (blk_drew BK214.out)
             have n6_ := Aside0.mk (blk_drew BK220.out)
             have n7_ := Aside0.mk (below_drew1 HB.out)
             clear HO203
             clear HO212
             clear HO219
             clear BK196
             clear BK197
             clear BK214
             clear BK220
             clear HB
             have HO203 := n0_
             have HO212 := n1_
             have HO219 := n2_
             have BK196 := n3_
             have BK197 := n4_
             have BK214 := n5_
             have BK220 := n6_
             have HB := n7_
             clear n0_ n1_ n2_ n3_ n4_ n5_ n6_ n7_
             refine start_ (n := 11) (S := fun w' => True) (ds := []) #[false, false, false, false, false, false, false, false, false, false, false] (by kernel_rfl) rfl rfl trivial (fun hHeld => ?_); refine with_tabW laws_FnExactPaintBox.tab7 laws_FnExactPaintBox.bits7 (fun HT_ HW_ => ?_)
             generalize w65.drew = w66 at HO203 HO212 HO219 BK196 BK197 BK214 BK220 HB hHeld ⊢
             refine pure_ (i := 3) (N := some 38) (v := ?_) (a' := ?_) #[false, false, false, true, false, false, false, false, false, false, false] rfl rfl (any_of HT_.out (by kernel_rfl)) (fun _ _ _ h => h) (Or.inl ⟨by rfl, ?_⟩) ?_ ?_
             rotate_left
             ·intro w'
              go_simp
              with_reducible rfl
             rotate_left
             ·simp only [Act.put, List.setIfInBounds_toArray, List.set_cons_zero, List.set_cons_succ, i64_w, i32_w]
              rfl
             refine inv_at [0, 1, 2, 4, 5, 6, 7, 8, 9, 10] (fun a0_ b a w' => ∃ (v228 : Value) (gb231 : Nat) (m4_ : Value) (m5_ : Value) (m6_ : Value) (m8_ : Value), a = putSel a0_ b [(0, 35, .agg #[.int .i64 t215, .int .i64 t216, .slice Ao64 t217.length co64]), (1, 36, .agg #[.int .i64 a1_0, .int .i64 a1_1, .int .i64 a1_2, .int .i64 a1_3]), (2, 37, .agg #[.int .i64 t221, .int .i64 t222, .int .i64 t223, .int .i64 t224]), (4, 39, m4_), (5, 34, m5_), (6, 40, m6_), (7, 41, .bool t230), (8, 11, m8_), (10, 12, .bool t230)] ∧ (b 4 = false → Kd.R (Kd.int .i64) 3 w' w.heap.size (fun k_ => some k_ ≠ (v211 : Value).ownBlock ∧ some k_ ≠ (.slice Ao64 t217.length co64 : Value).ownBlock) v202 t201) ∧ (b 4 = false → Kd.R (Kd.int .i64) 3 w' w.heap.size (fun k_ => some k_ ≠ (v202 : Value).ownBlock ∧ some k_ ≠ (.slice Ao64 t217.length co64 : Value).ownBlock) v211 t210) ∧ (b 4 = false → Kd.R (Kd.int .i64) 3 w' w.heap.size (fun k_ => some k_ ≠ (v202 : Value).ownBlock ∧ some k_ ≠ (v211 : Value).ownBlock) (.slice Ao64 t217.length co64) t217) ∧ (w'.heap[gb196]? = some (.cells #[.int .i64 a0_0, .int .i64 a0_1, .slice A0_2 l0_2.length c0_2] 33 (0, 0))) ∧ (w'.heap[gb197]? = some (.cells #[.int .i64 a1_0, .int .i64 a1_1, .int .i64 a1_2, .int .i64 a1_3] 35 (0, 0))) ∧ (w'.heap[gb214]? = some (.cells #[.int .i64 t208, .int .i64 t209, v211] 37 (0, 0))) ∧ (w'.heap[gb220]? = some (.cells #[.int .i64 t215, .int .i64 t216, .slice Ao64 t217.length co64] 37 (0, 0))) ∧ (Below w.heap.size w w') ∧ (b 4 = true → Kd.R (Kd.int .i64) 3 w' w.heap.size (fun k_ => some k_ ≠ (v211 : Value).ownBlock ∧ some k_ ≠ (.slice Ao64 t217.length co64 : Value).ownBlock ∧ some k_ ≠ (v228 : Value).ownBlock) v202 t201) ∧ (b 4 = true → Kd.R (Kd.int .i64) 3 w' w.heap.size (fun k_ => some k_ ≠ (v202 : Value).ownBlock ∧ some k_ ≠ (.slice Ao64 t217.length co64 : Value).ownBlock ∧ some k_ ≠ (v228 : Value).ownBlock) v211 t210) ∧ (b 4 = true → Kd.R (Kd.int .i64) 3 w' w.heap.size (fun k_ => some k_ ≠ (v202 : Value).ownBlock ∧ some k_ ≠ (v211 : Value).ownBlock ∧ some k_ ≠ (v228 : Value).ownBlock) (.slice Ao64 t217.length co64) t217) ∧ (b 4 = true → Kd.R (Kd.int .i64) 3 w' w.heap.size (fun k_ => some k_ ≠ (v202 : Value).ownBlock ∧ some k_ ≠ (v211 : Value).ownBlock ∧ some k_ ≠ (.slice Ao64 t217.length co64 : Value).ownBlock) v228 t227) ∧ (b 8 = true → b 9 = false → w'.heap[gb231]? = some (.cells #[.int .i64 0, .int .i64 0, .slice none 0 0] 37 (0, 0))) ∧ (b 8 = true → w.heap.size ≤ gb231) ∧ (b 8 = true → w.heap.size ≤ gb231) ∧ (b 8 = true → gb196 ≠ gb231) ∧ (b 8 = true → gb231 ≠ gb196) ∧ (b 8 = true → gb197 ≠ gb231) ∧ (b 8 = true → gb231 ≠ gb197) ∧ (b 8 = true → gb214 ≠ gb231) ∧ (b 8 = true → gb231 ≠ gb214) ∧ (b 8 = true → gb220 ≠ gb231) ∧ (b 8 = true → gb231 ≠ gb220) ∧ (b 9 = true → w'.heap[gb231]? = some (.cells #[.int .i64 t225, .int .i64 t226, v228] 37 (0, 0))) ∧ (b 4 = true → (m4_ : Value) = .tuple #[.agg #[.int .i64 t225, .int .i64 t226, v228], .bool t230]) ∧ (b 5 = true → (m5_ : Value) = .tuple #[.agg #[.int .i64 t225, .int .i64 t226, v228], .bool t230]) ∧ (b 6 = true → (m6_ : Value) = .agg #[.int .i64 t225, .int .i64 t226, v228]) ∧ (b 8 = true → (m8_ : Value) = .pointer (some ⟨gb231, 0, none⟩))) HT_.out HW_.out (by kernel_rfl) (by kernel_rfl) ?_ ?_ ?_
             ·exact ⟨.bool false, 0, .bool false, .bool false, .bool false, .bool false, by simp only [putSel, Bool.false_eq_true, if_false], fun _ => HO203.out, fun _ => HO212.out, fun _ => HO219.out, BK196.out, BK197.out, BK214.out, BK220.out, HB.out, fun h_ => absurd h_ (by decide), fun h_ => absurd h_ (by decide), fun h_ => absurd h_ (by decide), fun h_ => absurd h_ (by decide), fun h_ => absurd h_ (by decide), fun h_ => absurd h_ (by decide), fun h_ => absurd h_ (by decide), fun h_ => absurd h_ (by decide), fun h_ => absurd h_ (by decide), fun h_ => absurd h_ (by decide), fun h_ => absurd h_ (by decide), fun h_ => absurd h_ (by decide), fun h_ => absurd h_ (by decide), fun h_ => absurd h_ (by decide), fun h_ => absurd h_ (by decide), fun h_ => absurd h_ (by decide), fun h_ => absurd h_ (by decide), fun h_ => absurd h_ (by decide), fun h_ => absurd h_ (by decide), fun h_ => absurd h_ (by decide)⟩
             ·skip
              clear BK196 BK197 BK214 BK220 HB HO203 HO212 HO219
              refine steps_cons ?_ ?_
              ·rintro b a w' ⟨v228, gb231, m4_, m5_, m6_, m8_, ha, Q_HO203, Q_HO212, Q_HO219, Q_BK196, Q_BK197, Q_BK214, Q_BK220, Q_HB, Q_HO203_e4, Q_HO212_e4, Q_HO219_e4, Q_HO229, Q_BK231, Q_GW231, Q_GE231, Q_NB196_231, Q_NB231_196, Q_NB197_231, Q_NB231_197, Q_NB214_231, Q_NB231_214, Q_NB220_231, Q_NB231_220, Q_BK231_e9, Q_X4_, Q_X5_, Q_X6_, Q_X8_⟩ hb_ hon hoff
               refine ⟨_, rfl, fun K hK => ?_⟩
               have e10 : a.tmps[10]? = some (.pointer (some ⟨gb220, 0, none⟩)) := by rw [ha]; exact (putSel_off rfl).trans rfl
               replace ha := Aside0.mk ha
               have HO203 := Aside0.mk (Q_HO203 (hoff 4 (by kernel_rfl)))
               have HO212 := Aside0.mk (Q_HO212 (hoff 4 (by kernel_rfl)))
               have HO219 := Aside0.mk (Q_HO219 (hoff 4 (by kernel_rfl)))
               have BK196 := Aside0.mk Q_BK196
               have BK197 := Aside0.mk Q_BK197
               have BK214 := Aside0.mk Q_BK214
               have BK220 := Aside0.mk Q_BK220
               have HB := Aside0.mk Q_HB
               have hc0_ : w'.cell? ⟨gb220, 0, none⟩ = some (.int .i64 t215) := (blk_cell BK220.out 0).trans rfl
               have hc1_ : w'.cell? ⟨gb220, 1, none⟩ = some (.int .i64 t216) := (blk_cell BK220.out 1).trans rfl
               have hc2_ : w'.cell? ⟨gb220, 2, none⟩ = some (.slice Ao64 t217.length co64) := (blk_cell BK220.out 2).trans rfl
               refine value_ (w1 := w') (v := .agg #[.int .i64 t215, .int .i64 t216, .slice Ao64 t217.length co64]) (by rfl) rfl ?_ ?_
               ·go_simp
                (try simp only [i64_w])
                try rfl
               refine hK.out _ _ ⟨v228, gb231, m4_, m5_, m6_, m8_, (by rw [ha.out]; exact putSel_upk 0 hb_ rfl rfl rfl), Q_HO203, Q_HO212, Q_HO219, Q_BK196, Q_BK197, Q_BK214, Q_BK220, Q_HB, fun h0_ => absurd ((hoff 4 (by kernel_rfl)).symm.trans h0_) (by decide), fun h0_ => absurd ((hoff 4 (by kernel_rfl)).symm.trans h0_) (by decide), fun h0_ => absurd ((hoff 4 (by kernel_rfl)).symm.trans h0_) (by decide), fun h0_ => absurd ((hoff 4 (by kernel_rfl)).symm.trans h0_) (by decide), Q_BK231, Q_GW231, Q_GE231, Q_NB196_231, Q_NB231_196, Q_NB197_231, Q_NB231_197, Q_NB214_231, Q_NB231_214, Q_NB220_231, Q_NB231_220, fun h0_ => absurd ((hoff 9 (by kernel_rfl)).symm.trans h0_) (by decide), fun h0_ => absurd ((hoff 4 (by kernel_rfl)).symm.trans h0_) (by decide), fun h0_ => absurd ((hoff 5 (by kernel_rfl)).symm.trans h0_) (by decide), fun h0_ => absurd ((hoff 6 (by kernel_rfl)).symm.trans h0_) (by decide), Q_X8_⟩
              refine steps_cons ?_ ?_
              ·rintro b a w' ⟨v228, gb231, m4_, m5_, m6_, m8_, ha, Q_HO203, Q_HO212, Q_HO219, Q_BK196, Q_BK197, Q_BK214, Q_BK220, Q_HB, Q_HO203_e4, Q_HO212_e4, Q_HO219_e4, Q_HO229, Q_BK231, Q_GW231, Q_GE231, Q_NB196_231, Q_NB231_196, Q_NB197_231, Q_NB231_197, Q_NB214_231, Q_NB231_214, Q_NB220_231, Q_NB231_220, Q_BK231_e9, Q_X4_, Q_X5_, Q_X6_, Q_X8_⟩ hb_ hon hoff
               refine ⟨_, rfl, fun K hK => ?_⟩
               have e4 : a.tmps[4]? = some (.pointer (some ⟨gb197, 0, none⟩)) := by rw [ha]; exact (putSel_off rfl).trans rfl
               replace ha := Aside0.mk ha
               have HO203 := Aside0.mk (Q_HO203 (hoff 4 (by kernel_rfl)))
               have HO212 := Aside0.mk (Q_HO212 (hoff 4 (by kernel_rfl)))
               have HO219 := Aside0.mk (Q_HO219 (hoff 4 (by kernel_rfl)))
               have BK196 := Aside0.mk Q_BK196
               have BK197 := Aside0.mk Q_BK197
               have BK214 := Aside0.mk Q_BK214
               have BK220 := Aside0.mk Q_BK220
               have HB := Aside0.mk Q_HB
               have hc0_ : w'.cell? ⟨gb197, 0, none⟩ = some (.int .i64 a1_0) := (blk_cell BK197.out 0).trans rfl
               have hc1_ : w'.cell? ⟨gb197, 1, none⟩ = some (.int .i64 a1_1) := (blk_cell BK197.out 1).trans rfl
               have hc2_ : w'.cell? ⟨gb197, 2, none⟩ = some (.int .i64 a1_2) := (blk_cell BK197.out 2).trans rfl
               have hc3_ : w'.cell? ⟨gb197, 3, none⟩ = some (.int .i64 a1_3) := (blk_cell BK197.out 3).trans rfl
               refine value_ (w1 := w') (v := .agg #[.int .i64 a1_0, .int .i64 a1_1, .int .i64 a1_2, .int .i64 a1_3]) (by rfl) rfl ?_ ?_
               ·go_simp
                (try simp only [i64_w])
                try rfl
               refine hK.out _ _ ⟨v228, gb231, m4_, m5_, m6_, m8_, (by rw [ha.out]; exact putSel_upk 1 hb_ rfl rfl rfl), Q_HO203, Q_HO212, Q_HO219, Q_BK196, Q_BK197, Q_BK214, Q_BK220, Q_HB, fun h0_ => absurd ((hoff 4 (by kernel_rfl)).symm.trans h0_) (by decide), fun h0_ => absurd ((hoff 4 (by kernel_rfl)).symm.trans h0_) (by decide), fun h0_ => absurd ((hoff 4 (by kernel_rfl)).symm.trans h0_) (by decide), fun h0_ => absurd ((hoff 4 (by kernel_rfl)).symm.trans h0_) (by decide), Q_BK231, Q_GW231, Q_GE231, Q_NB196_231, Q_NB231_196, Q_NB197_231, Q_NB231_197, Q_NB214_231, Q_NB231_214, Q_NB220_231, Q_NB231_220, fun h0_ => absurd ((hoff 9 (by kernel_rfl)).symm.trans h0_) (by decide), fun h0_ => absurd ((hoff 4 (by kernel_rfl)).symm.trans h0_) (by decide), fun h0_ => absurd ((hoff 5 (by kernel_rfl)).symm.trans h0_) (by decide), fun h0_ => absurd ((hoff 6 (by kernel_rfl)).symm.trans h0_) (by decide), Q_X8_⟩
              refine steps_cons ?_ ?_
              ·rintro b a w' ⟨v228, gb231, m4_, m5_, m6_, m8_, ha, Q_HO203, Q_HO212, Q_HO219, Q_BK196, Q_BK197, Q_BK214, Q_BK220, Q_HB, Q_HO203_e4, Q_HO212_e4, Q_HO219_e4, Q_HO229, Q_BK231, Q_GW231, Q_GE231, Q_NB196_231, Q_NB231_196, Q_NB197_231, Q_NB231_197, Q_NB214_231, Q_NB231_214, Q_NB220_231, Q_NB231_220, Q_BK231_e9, Q_X4_, Q_X5_, Q_X6_, Q_X8_⟩ hb_ hon hoff
               refine ⟨_, rfl, fun K hK => ?_⟩
               have e36 : a.tmps[36]? = some (.agg #[.int .i64 a1_0, .int .i64 a1_1, .int .i64 a1_2, .int .i64 a1_3]) := by rw [ha]; exact putSel_on (e := (1, 36, .agg #[.int .i64 a1_0, .int .i64 a1_1, .int .i64 a1_2, .int .i64 a1_3])) 1 rfl rfl (hon 1 (by kernel_rfl)) rfl
               replace ha := Aside0.mk ha
               have HO203 := Aside0.mk (Q_HO203 (hoff 4 (by kernel_rfl)))
               have HO212 := Aside0.mk (Q_HO212 (hoff 4 (by kernel_rfl)))
               have HO219 := Aside0.mk (Q_HO219 (hoff 4 (by kernel_rfl)))
               have BK196 := Aside0.mk Q_BK196
               have BK197 := Aside0.mk Q_BK197
               have BK214 := Aside0.mk Q_BK214
               have BK220 := Aside0.mk Q_BK220
               have HB := Aside0.mk Q_HB
               refine goes_ Try.func27 (by kernel_rfl) rfl #[.agg #[.int .i64 a1_0, .int .i64 a1_1, .int .i64 a1_2, .int .i64 a1_3]] (by rfl) rfl rfl (by first | (simp only [List.map_toArray, List.map_cons, List.map_nil, Act.eval, Array.getD_eq_getD_getElem?, Option.getD_some, e36]; done) | (simp only [List.map_toArray, List.map_cons, List.map_nil, Act.eval, Array.getD_eq_getD_getElem?, Option.getD_some, e36]; rfl)) ?_
               with_reducible refine (laws_toPlaced.calls a1_0 a1_1 a1_2 a1_3 t221 t222 t223 t224 _ A15.out).mono ?_
               rintro e w67 ⟨rfl, hb⟩
               refine ⟨_, rfl, ?_⟩
               have n0_ := Aside0.mk (Kd.R_below (by exact HO203.out) hb)
               have n1_ := Aside0.mk (Kd.R_below (by exact HO212.out) hb)
               have n2_ := Aside0.mk (Kd.R_below (by exact HO219.out) hb)
               have n3_ := Aside0.mk (blk_below (g := gb196) (o := .cells #[.int .i64 a0_0, .int .i64 a0_1, .slice A0_2 l0_2.length c0_2] 33 (0, 0)) (by exact BK196.out) hb)
               have n4_ := Aside0.mk (blk_below (g := gb197) (o := .cells #[.int .i64 a1_0, .int .i64 a1_1, .int .i64 a1_2, .int .i64 a1_3] 35 (0, 0)) (by exact BK197.out) hb)
               have n5_ := Aside0.mk (blk_below (g := gb214) (o := .cells #[.int .i64 t208, .int .i64 t209, v211] 37 (0, 0)) (by exact BK214.out) hb)
               have n6_ := Aside0.mk (blk_below (g := gb220) (o := .cells #[.int .i64 t215, .int .i64 t216, .slice Ao64 t217.length co64] 37 (0, 0)) (by exact BK220.out) hb)
               have n7_ := Aside0.mk (below_step (by repeat (first | (with_reducible first | exact HB.out | apply below_alloc | apply pw_below_drewN | apply below_drew1 | refine below_set ?_ GE196.out | refine below_set ?_ GE197.out | refine below_set ?_ GE214.out | refine below_set ?_ GE220.out) | exact HB.out)) hb)
               have z_BK231 := fun (h0_ : b 8 = true) (h1_ : b 9 = false) => (show w67.heap[gb231]? = some (.cells #[.int .i64 0, .int .i64 0, .slice none 0 0] 37 (0, 0)) from by first | exact (blk_below (g := gb231) (o := .cells #[.int .i64 0, .int .i64 0, .slice none 0 0] 37 (0, 0)) (by exact (Q_BK231 h0_ h1_)) hb))
               clear HO203
               clear HO212
               clear HO219
               clear BK196
               clear BK197
               clear BK214
               clear BK220
               clear HB
               have HO203 := n0_
               have HO212 := n1_
               have HO219 := n2_
               have BK196 := n3_
               have BK197 := n4_
               have BK214 := n5_
               have BK220 := n6_
               have HB := n7_
               clear n0_ n1_ n2_ n3_ n4_ n5_ n6_ n7_
               (try clear hb)
               (try clear hb2)
               (try clear hk)
               (try clear hi)
               refine hK.out _ _ ⟨v228, gb231, m4_, m5_, m6_, m8_, (by rw [ha.out]; exact putSel_upk 2 hb_ rfl rfl rfl), fun _ => (by exact HO203.out), fun _ => (by exact HO212.out), fun _ => (by exact HO219.out), (by exact BK196.out), (by exact BK197.out), (by exact BK214.out), (by exact BK220.out), (by repeat (first | (with_reducible first | exact HB.out | apply below_alloc | apply pw_below_drewN | apply below_drew1 | refine below_set ?_ GE196.out | refine below_set ?_ GE197.out | refine below_set ?_ GE214.out | refine below_set ?_ GE220.out) | exact HB.out)), fun h0_ => absurd ((hoff 4 (by kernel_rfl)).symm.trans h0_) (by decide), fun h0_ => absurd ((hoff 4 (by kernel_rfl)).symm.trans h0_) (by decide), fun h0_ => absurd ((hoff 4 (by kernel_rfl)).symm.trans h0_) (by decide), fun h0_ => absurd ((hoff 4 (by kernel_rfl)).symm.trans h0_) (by decide), z_BK231, Q_GW231, Q_GE231, Q_NB196_231, Q_NB231_196, Q_NB197_231, Q_NB231_197, Q_NB214_231, Q_NB231_214, Q_NB220_231, Q_NB231_220, fun h0_ => absurd ((hoff 9 (by kernel_rfl)).symm.trans h0_) (by decide), fun h0_ => absurd ((hoff 4 (by kernel_rfl)).symm.trans h0_) (by decide), fun h0_ => absurd ((hoff 5 (by kernel_rfl)).symm.trans h0_) (by decide), fun h0_ => absurd ((hoff 6 (by kernel_rfl)).symm.trans h0_) (by decide), Q_X8_⟩
              refine steps_cons ?_ ?_
              ·rintro b a w' ⟨v228, gb231, m4_, m5_, m6_, m8_, ha, Q_HO203, Q_HO212, Q_HO219, Q_BK196, Q_BK197, Q_BK214, Q_BK220, Q_HB, Q_HO203_e4, Q_HO212_e4, Q_HO219_e4, Q_HO229, Q_BK231, Q_GW231, Q_GE231, Q_NB196_231, Q_NB231_196, Q_NB197_231, Q_NB231_197, Q_NB214_231, Q_NB231_214, Q_NB220_231, Q_NB231_220, Q_BK231_e9, Q_X4_, Q_X5_, Q_X6_, Q_X8_⟩ hb_ hon hoff
               refine ⟨_, rfl, fun K hK => ?_⟩
               have e35 : a.tmps[35]? = some (.agg #[.int .i64 t215, .int .i64 t216, .slice Ao64 t217.length co64]) := by rw [ha]; exact putSel_on (e := (0, 35, .agg #[.int .i64 t215, .int .i64 t216, .slice Ao64 t217.length co64])) 0 rfl rfl (hon 0 (by kernel_rfl)) rfl
               have e37 : a.tmps[37]? = some (.agg #[.int .i64 t221, .int .i64 t222, .int .i64 t223, .int .i64 t224]) := by rw [ha]; exact putSel_on (e := (2, 37, .agg #[.int .i64 t221, .int .i64 t222, .int .i64 t223, .int .i64 t224])) 2 rfl rfl (hon 2 (by kernel_rfl)) rfl
               have e38 : a.tmps[38]? = some (.int .i64 a2) := by rw [ha]; exact (putSel_off rfl).trans rfl
               replace ha := Aside0.mk ha
               have HO203 := Aside0.mk (Q_HO203 hb_)
               have HO212 := Aside0.mk (Q_HO212 hb_)
               have HO219 := Aside0.mk (Q_HO219 hb_)
               have BK196 := Aside0.mk Q_BK196
               have BK197 := Aside0.mk Q_BK197
               have BK214 := Aside0.mk Q_BK214
               have BK220 := Aside0.mk Q_BK220
               have HB := Aside0.mk Q_HB
               refine goes_ Try.func28 (by kernel_rfl) rfl #[.agg #[.int .i64 t215, .int .i64 t216, .slice Ao64 t217.length co64], .agg #[.int .i64 t221, .int .i64 t222, .int .i64 t223, .int .i64 t224], .int .i64 a2] (by rfl) rfl rfl (by first | (simp only [List.map_toArray, List.map_cons, List.map_nil, Act.eval, Array.getD_eq_getD_getElem?, Option.getD_some, e35, e37, e38]; done) | (simp only [List.map_toArray, List.map_cons, List.map_nil, Act.eval, Array.getD_eq_getD_getElem?, Option.getD_some, e35, e37, e38]; rfl)) ?_
               with_reducible refine (impl_PaintBox.calls k t215 t216 _ _ t217 t221 t222 t223 t224 a2 t225 t226 t227 t230 _ ?side1 ?side2 A16.out).mono ?_
               (case side1 => repeat (first | exact (Kd.R_reads' HO219.out).2.2 | (with_reducible refine Kd.C_alloc ?_ _) | (with_reducible refine Kd.C_drewN ?_ _) | (with_reducible refine Kd.C_drew ?_)))
               (case side2 => exact (Kd.R_reads' HO219.out).2.1)
               rintro e w69 ⟨v228, rfl, ho0, hb⟩
               refine ⟨_, rfl, ?_⟩
               have n0_ := Aside0.mk (Kd.R_elder' (by exact HO203.out) (Kd.R_base ho0) hb)
               have n1_ := Aside0.mk (Kd.R_elder' (by exact HO212.out) (Kd.R_base ho0) hb)
               have n2_ := Aside0.mk (Kd.R_elder' (by exact HO219.out) (Kd.R_base ho0) hb)
               have n3_ := Aside0.mk (Kd.R_lower (Kd.R_new' (Kd.R_new' (Kd.R_new' ho0 (Kd.R_lt (by exact HO203.out))) (Kd.R_lt (by exact HO212.out))) (Kd.R_lt (by exact HO219.out))) (below_size (by repeat (first | (with_reducible first | exact HB.out | apply below_alloc | apply pw_below_drewN | apply below_drew1 | refine below_set ?_ GE196.out | refine below_set ?_ GE197.out | refine below_set ?_ GE214.out | refine below_set ?_ GE220.out) | exact HB.out))))
               have n4_ := Aside0.mk (blk_below (g := gb196) (o := .cells #[.int .i64 a0_0, .int .i64 a0_1, .slice A0_2 l0_2.length c0_2] 33 (0, 0)) (by exact BK196.out) hb)
               have n5_ := Aside0.mk (blk_below (g := gb197) (o := .cells #[.int .i64 a1_0, .int .i64 a1_1, .int .i64 a1_2, .int .i64 a1_3] 35 (0, 0)) (by exact BK197.out) hb)
               have n6_ := Aside0.mk (blk_below (g := gb214) (o := .cells #[.int .i64 t208, .int .i64 t209, v211] 37 (0, 0)) (by exact BK214.out) hb)
               have n7_ := Aside0.mk (blk_below (g := gb220) (o := .cells #[.int .i64 t215, .int .i64 t216, .slice Ao64 t217.length co64] 37 (0, 0)) (by exact BK220.out) hb)
               have n8_ := Aside0.mk (below_step (by repeat (first | (with_reducible first | exact HB.out | apply below_alloc | apply pw_below_drewN | apply below_drew1 | refine below_set ?_ GE196.out | refine below_set ?_ GE197.out | refine below_set ?_ GE214.out | refine below_set ?_ GE220.out) | exact HB.out)) hb)
               have z_BK231 := fun (h0_ : b 8 = true) (h1_ : b 9 = false) => (show w69.heap[gb231]? = some (.cells #[.int .i64 0, .int .i64 0, .slice none 0 0] 37 (0, 0)) from by first | exact (blk_below (g := gb231) (o := .cells #[.int .i64 0, .int .i64 0, .slice none 0 0] 37 (0, 0)) (by exact (Q_BK231 h0_ h1_)) hb))
               clear HO203
               clear HO212
               clear HO219
               clear BK196
               clear BK197
               clear BK214
               clear BK220
               clear HB
               have HO203 := n0_
               have HO212 := n1_
               have HO219 := n2_
               have HO229 := n3_
               have BK196 := n4_
               have BK197 := n5_
               have BK214 := n6_
               have BK220 := n7_
               have HB := n8_
               clear n0_ n1_ n2_ n3_ n4_ n5_ n6_ n7_ n8_
               (try clear hb)
               (try clear hb2)
               (try clear hk)
               (try clear hi)
               (try clear ho0)
               refine hK.out _ _ ⟨v228, gb231, (.tuple #[.agg #[.int .i64 t225, .int .i64 t226, v228], .bool t230]), m5_, m6_, m8_, (by rw [ha.out]; exact putSel_upk 3 hb_ rfl rfl rfl), fun h0_ => absurd ((up_self b 4).symm.trans h0_) (by decide), fun h0_ => absurd ((up_self b 4).symm.trans h0_) (by decide), fun h0_ => absurd ((up_self b 4).symm.trans h0_) (by decide), (by exact BK196.out), (by exact BK197.out), (by exact BK214.out), (by exact BK220.out), (by repeat (first | (with_reducible first | exact HB.out | apply below_alloc | apply pw_below_drewN | apply below_drew1 | refine below_set ?_ GE196.out | refine below_set ?_ GE197.out | refine below_set ?_ GE214.out | refine below_set ?_ GE220.out) | exact HB.out)), fun _ => (by exact Kd.R_mono HO203.out (fun _ hk => ⟨hk.1.1, ⟨hk.1.2, hk.2⟩⟩)), fun _ => (by exact Kd.R_mono HO212.out (fun _ hk => ⟨hk.1.1, ⟨hk.1.2, hk.2⟩⟩)), fun _ => (by exact Kd.R_mono HO219.out (fun _ hk => ⟨hk.1.1, ⟨hk.1.2, hk.2⟩⟩)), fun _ => (by exact Kd.R_mono HO229.out (fun _ hk => ⟨hk.1.1.2, ⟨hk.1.2, hk.2⟩⟩)), z_BK231, Q_GW231, Q_GE231, Q_NB196_231, Q_NB231_196, Q_NB197_231, Q_NB231_197, Q_NB214_231, Q_NB231_214, Q_NB220_231, Q_NB231_220, fun h0_ => absurd ((hoff 9 (by kernel_rfl)).symm.trans h0_) (by decide), fun _ => rfl, fun h0_ => absurd ((hoff 5 (by kernel_rfl)).symm.trans h0_) (by decide), fun h0_ => absurd ((hoff 6 (by kernel_rfl)).symm.trans h0_) (by decide), Q_X8_⟩
              refine steps_cons ?_ ?_
              ·rintro b a w' ⟨v228, gb231, m4_, m5_, m6_, m8_, ha, Q_HO203, Q_HO212, Q_HO219, Q_BK196, Q_BK197, Q_BK214, Q_BK220, Q_HB, Q_HO203_e4, Q_HO212_e4, Q_HO219_e4, Q_HO229, Q_BK231, Q_GW231, Q_GE231, Q_NB196_231, Q_NB231_196, Q_NB197_231, Q_NB231_197, Q_NB214_231, Q_NB231_214, Q_NB220_231, Q_NB231_220, Q_BK231_e9, Q_X4_, Q_X5_, Q_X6_, Q_X8_⟩ hb_ hon hoff
               refine ⟨_, rfl, fun K hK => ?_⟩
               have e39 : a.tmps[39]? = some (m4_) := by rw [ha]; exact putSel_on (e := (4, 39, m4_)) 3 rfl rfl (hon 4 (by kernel_rfl)) rfl
               rw [Q_X4_ (hon 4 (by kernel_rfl))] at e39
               replace ha := Aside0.mk ha
               have BK196 := Aside0.mk Q_BK196
               have BK197 := Aside0.mk Q_BK197
               have BK214 := Aside0.mk Q_BK214
               have BK220 := Aside0.mk Q_BK220
               have HB := Aside0.mk Q_HB
               have HO203 := Aside0.mk (Q_HO203_e4 (hon 4 (by kernel_rfl)))
               have HO212 := Aside0.mk (Q_HO212_e4 (hon 4 (by kernel_rfl)))
               have HO219 := Aside0.mk (Q_HO219_e4 (hon 4 (by kernel_rfl)))
               have HO229 := Aside0.mk (Q_HO229 (hon 4 (by kernel_rfl)))
               refine value_ (w1 := w') (v := .tuple #[.agg #[.int .i64 t225, .int .i64 t226, v228], .bool t230]) (by rfl) rfl ?_ ?_
               ·go_simp
                (try simp only [i64_w])
                try rfl
               refine hK.out _ _ ⟨v228, gb231, m4_, (.tuple #[.agg #[.int .i64 t225, .int .i64 t226, v228], .bool t230]), m6_, m8_, (by rw [ha.out]; exact putSel_upk 4 hb_ rfl rfl rfl), fun h0_ => absurd ((hon 4 (by kernel_rfl)).symm.trans h0_) (by decide), fun h0_ => absurd ((hon 4 (by kernel_rfl)).symm.trans h0_) (by decide), fun h0_ => absurd ((hon 4 (by kernel_rfl)).symm.trans h0_) (by decide), Q_BK196, Q_BK197, Q_BK214, Q_BK220, Q_HB, Q_HO203_e4, Q_HO212_e4, Q_HO219_e4, Q_HO229, Q_BK231, Q_GW231, Q_GE231, Q_NB196_231, Q_NB231_196, Q_NB197_231, Q_NB231_197, Q_NB214_231, Q_NB231_214, Q_NB220_231, Q_NB231_220, fun h0_ => absurd ((hoff 9 (by kernel_rfl)).symm.trans h0_) (by decide), Q_X4_, fun _ => rfl, fun h0_ => absurd ((hoff 6 (by kernel_rfl)).symm.trans h0_) (by decide), Q_X8_⟩
              refine steps_cons ?_ ?_
              ·rintro b a w' ⟨v228, gb231, m4_, m5_, m6_, m8_, ha, Q_HO203, Q_HO212, Q_HO219, Q_BK196, Q_BK197, Q_BK214, Q_BK220, Q_HB, Q_HO203_e4, Q_HO212_e4, Q_HO219_e4, Q_HO229, Q_BK231, Q_GW231, Q_GE231, Q_NB196_231, Q_NB231_196, Q_NB197_231, Q_NB231_197, Q_NB214_231, Q_NB231_214, Q_NB220_231, Q_NB231_220, Q_BK231_e9, Q_X4_, Q_X5_, Q_X6_, Q_X8_⟩ hb_ hon hoff
               refine ⟨_, rfl, fun K hK => ?_⟩
               have e34 : a.tmps[34]? = some (m5_) := by rw [ha]; exact putSel_on (e := (5, 34, m5_)) 4 rfl rfl (hon 5 (by kernel_rfl)) rfl
               rw [Q_X5_ (hon 5 (by kernel_rfl))] at e34
               replace ha := Aside0.mk ha
               have BK196 := Aside0.mk Q_BK196
               have BK197 := Aside0.mk Q_BK197
               have BK214 := Aside0.mk Q_BK214
               have BK220 := Aside0.mk Q_BK220
               have HB := Aside0.mk Q_HB
               have HO203 := Aside0.mk (Q_HO203_e4 (hon 4 (by kernel_rfl)))
               have HO212 := Aside0.mk (Q_HO212_e4 (hon 4 (by kernel_rfl)))
               have HO219 := Aside0.mk (Q_HO219_e4 (hon 4 (by kernel_rfl)))
               have HO229 := Aside0.mk (Q_HO229 (hon 4 (by kernel_rfl)))
               refine value_ (w1 := w') (v := .agg #[.int .i64 t225, .int .i64 t226, v228]) (by rfl) rfl ?_ ?_
               ·go_simp
                (try simp only [i64_w])
                try rfl
               refine hK.out _ _ ⟨v228, gb231, m4_, m5_, (.agg #[.int .i64 t225, .int .i64 t226, v228]), m8_, (by rw [ha.out]; exact putSel_upk 5 hb_ rfl rfl rfl), fun h0_ => absurd ((hon 4 (by kernel_rfl)).symm.trans h0_) (by decide), fun h0_ => absurd ((hon 4 (by kernel_rfl)).symm.trans h0_) (by decide), fun h0_ => absurd ((hon 4 (by kernel_rfl)).symm.trans h0_) (by decide), Q_BK196, Q_BK197, Q_BK214, Q_BK220, Q_HB, Q_HO203_e4, Q_HO212_e4, Q_HO219_e4, Q_HO229, Q_BK231, Q_GW231, Q_GE231, Q_NB196_231, Q_NB231_196, Q_NB197_231, Q_NB231_197, Q_NB214_231, Q_NB231_214, Q_NB220_231, Q_NB231_220, fun h0_ => absurd ((hoff 9 (by kernel_rfl)).symm.trans h0_) (by decide), Q_X4_, Q_X5_, fun _ => rfl, Q_X8_⟩
              refine steps_cons ?_ ?_
              ·rintro b a w' ⟨v228, gb231, m4_, m5_, m6_, m8_, ha, Q_HO203, Q_HO212, Q_HO219, Q_BK196, Q_BK197, Q_BK214, Q_BK220, Q_HB, Q_HO203_e4, Q_HO212_e4, Q_HO219_e4, Q_HO229, Q_BK231, Q_GW231, Q_GE231, Q_NB196_231, Q_NB231_196, Q_NB197_231, Q_NB231_197, Q_NB214_231, Q_NB231_214, Q_NB220_231, Q_NB231_220, Q_BK231_e9, Q_X4_, Q_X5_, Q_X6_, Q_X8_⟩ hb_ hon hoff
               refine ⟨_, rfl, fun K hK => ?_⟩
               have e34 : a.tmps[34]? = some (m5_) := by rw [ha]; exact putSel_on (e := (5, 34, m5_)) 4 rfl rfl (hon 5 (by kernel_rfl)) rfl
               rw [Q_X5_ (hon 5 (by kernel_rfl))] at e34
               replace ha := Aside0.mk ha
               have BK196 := Aside0.mk Q_BK196
               have BK197 := Aside0.mk Q_BK197
               have BK214 := Aside0.mk Q_BK214
               have BK220 := Aside0.mk Q_BK220
               have HB := Aside0.mk Q_HB
               have HO203 := Aside0.mk (Q_HO203_e4 (hon 4 (by kernel_rfl)))
               have HO212 := Aside0.mk (Q_HO212_e4 (hon 4 (by kernel_rfl)))
               have HO219 := Aside0.mk (Q_HO219_e4 (hon 4 (by kernel_rfl)))
               have HO229 := Aside0.mk (Q_HO229 (hon 4 (by kernel_rfl)))
               refine value_ (w1 := w') (v := .bool t230) (by rfl) rfl ?_ ?_
               ·go_simp
                (try simp only [i64_w])
                try rfl
               refine hK.out _ _ ⟨v228, gb231, m4_, m5_, m6_, m8_, (by rw [ha.out]; exact putSel_upk 6 hb_ rfl rfl rfl), fun h0_ => absurd ((hon 4 (by kernel_rfl)).symm.trans h0_) (by decide), fun h0_ => absurd ((hon 4 (by kernel_rfl)).symm.trans h0_) (by decide), fun h0_ => absurd ((hon 4 (by kernel_rfl)).symm.trans h0_) (by decide), Q_BK196, Q_BK197, Q_BK214, Q_BK220, Q_HB, Q_HO203_e4, Q_HO212_e4, Q_HO219_e4, Q_HO229, Q_BK231, Q_GW231, Q_GE231, Q_NB196_231, Q_NB231_196, Q_NB197_231, Q_NB231_197, Q_NB214_231, Q_NB231_214, Q_NB220_231, Q_NB231_220, Q_BK231_e9, Q_X4_, Q_X5_, Q_X6_, Q_X8_⟩
              refine steps_cons ?_ ?_
              ·rintro b a w' ⟨v228, gb231, m4_, m5_, m6_, m8_, ha, Q_HO203, Q_HO212, Q_HO219, Q_BK196, Q_BK197, Q_BK214, Q_BK220, Q_HB, Q_HO203_e4, Q_HO212_e4, Q_HO219_e4, Q_HO229, Q_BK231, Q_GW231, Q_GE231, Q_NB196_231, Q_NB231_196, Q_NB197_231, Q_NB231_197, Q_NB214_231, Q_NB231_214, Q_NB220_231, Q_NB231_220, Q_BK231_e9, Q_X4_, Q_X5_, Q_X6_, Q_X8_⟩ hb_ hon hoff
               refine ⟨_, rfl, fun K hK => ?_⟩
               replace ha := Aside0.mk ha
               have BK196 := Aside0.mk Q_BK196
               have BK197 := Aside0.mk Q_BK197
               have BK214 := Aside0.mk Q_BK214
               have BK220 := Aside0.mk Q_BK220
               have HB := Aside0.mk Q_HB
               refine box_step ?hg (N := 11) ?hd (cs := #[.int .i64 0, .int .i64 0, .slice none 0 0]) (t := 37) ?hr ?_; (case hd => rfl); (case hg => rfl); (case hr => first | (go_simp; done) | (go_simp; rfl))
               intro gb231 hg w67 hbox hb
               have n3_ := Aside0.mk (blk_below (g := gb196) (o := .cells #[.int .i64 a0_0, .int .i64 a0_1, .slice A0_2 l0_2.length c0_2] 33 (0, 0)) (by exact BK196.out) hb)
               have n4_ := Aside0.mk (blk_below (g := gb197) (o := .cells #[.int .i64 a1_0, .int .i64 a1_1, .int .i64 a1_2, .int .i64 a1_3] 35 (0, 0)) (by exact BK197.out) hb)
               have n5_ := Aside0.mk (blk_below (g := gb214) (o := .cells #[.int .i64 t208, .int .i64 t209, v211] 37 (0, 0)) (by exact BK214.out) hb)
               have n6_ := Aside0.mk (blk_below (g := gb220) (o := .cells #[.int .i64 t215, .int .i64 t216, .slice Ao64 t217.length co64] 37 (0, 0)) (by exact BK220.out) hb)
               have n7_ := Aside0.mk (below_step (by repeat (first | (with_reducible first | exact HB.out | apply below_alloc | apply pw_below_drewN | apply below_drew1 | refine below_set ?_ GE196.out | refine below_set ?_ GE197.out | refine below_set ?_ GE214.out | refine below_set ?_ GE220.out) | exact HB.out)) hb)
               have n8_ := Aside0.mk (hbox)
               have n9_ := Aside0.mk ((by rw [hg]; exact (below_size (by repeat (first | (with_reducible first | exact HB.out | apply below_alloc | apply pw_below_drewN | apply below_drew1 | refine below_set ?_ GE196.out | refine below_set ?_ GE197.out | refine below_set ?_ GE214.out | refine below_set ?_ GE220.out) | exact HB.out))) : w.heap.size ≤ gb231))
               have n10_ := Aside0.mk ((by rw [hg]; exact (below_size (by repeat (first | (with_reducible first | exact HB.out | apply below_alloc | apply pw_below_drewN | apply below_drew1 | refine below_set ?_ GE196.out | refine below_set ?_ GE197.out | refine below_set ?_ GE214.out | refine below_set ?_ GE220.out) | exact HB.out))) : w.heap.size ≤ gb231))
               have n11_ := Aside0.mk ((by rw [hg]; exact Nat.ne_of_lt (blk_lt (g := gb196) (o := .cells #[.int .i64 a0_0, .int .i64 a0_1, .slice A0_2 l0_2.length c0_2] 33 (0, 0)) (by exact BK196.out)) : gb196 ≠ gb231))
               have n12_ := Aside0.mk ((by rw [hg]; exact Nat.ne_of_gt (blk_lt (g := gb196) (o := .cells #[.int .i64 a0_0, .int .i64 a0_1, .slice A0_2 l0_2.length c0_2] 33 (0, 0)) (by exact BK196.out)) : gb231 ≠ gb196))
               have n13_ := Aside0.mk ((by rw [hg]; exact Nat.ne_of_lt (blk_lt (g := gb197) (o := .cells #[.int .i64 a1_0, .int .i64 a1_1, .int .i64 a1_2, .int .i64 a1_3] 35 (0, 0)) (by exact BK197.out)) : gb197 ≠ gb231))
               have n14_ := Aside0.mk ((by rw [hg]; exact Nat.ne_of_gt (blk_lt (g := gb197) (o := .cells #[.int .i64 a1_0, .int .i64 a1_1, .int .i64 a1_2, .int .i64 a1_3] 35 (0, 0)) (by exact BK197.out)) : gb231 ≠ gb197))
               have n15_ := Aside0.mk ((by rw [hg]; exact Nat.ne_of_lt (blk_lt (g := gb214) (o := .cells #[.int .i64 t208, .int .i64 t209, v211] 37 (0, 0)) (by exact BK214.out)) : gb214 ≠ gb231))
               have n16_ := Aside0.mk ((by rw [hg]; exact Nat.ne_of_gt (blk_lt (g := gb214) (o := .cells #[.int .i64 t208, .int .i64 t209, v211] 37 (0, 0)) (by exact BK214.out)) : gb231 ≠ gb214))
               have n17_ := Aside0.mk ((by rw [hg]; exact Nat.ne_of_lt (blk_lt (g := gb220) (o := .cells #[.int .i64 t215, .int .i64 t216, .slice Ao64 t217.length co64] 37 (0, 0)) (by exact BK220.out)) : gb220 ≠ gb231))
               have n18_ := Aside0.mk ((by rw [hg]; exact Nat.ne_of_gt (blk_lt (g := gb220) (o := .cells #[.int .i64 t215, .int .i64 t216, .slice Ao64 t217.length co64] 37 (0, 0)) (by exact BK220.out)) : gb231 ≠ gb220))
               have z_HO203 := fun (h0_ : b 4 = false) => (show Kd.R (Kd.int .i64) 3 w67 w.heap.size (fun k_ => some k_ ≠ (v211 : Value).ownBlock ∧ some k_ ≠ (.slice Ao64 t217.length co64 : Value).ownBlock) v202 t201 from by first | exact (Kd.R_below (by exact (Q_HO203 h0_)) hb) | exact Kd.R_mono (Kd.R_below (by exact (Q_HO203 h0_)) hb) (fun _ h_ => by first | trivial | exact h_ | exact h_.1))
               have z_HO212 := fun (h0_ : b 4 = false) => (show Kd.R (Kd.int .i64) 3 w67 w.heap.size (fun k_ => some k_ ≠ (v202 : Value).ownBlock ∧ some k_ ≠ (.slice Ao64 t217.length co64 : Value).ownBlock) v211 t210 from by first | exact (Kd.R_below (by exact (Q_HO212 h0_)) hb) | exact Kd.R_mono (Kd.R_below (by exact (Q_HO212 h0_)) hb) (fun _ h_ => by first | trivial | exact h_ | exact h_.1))
               have z_HO219 := fun (h0_ : b 4 = false) => (show Kd.R (Kd.int .i64) 3 w67 w.heap.size (fun k_ => some k_ ≠ (v202 : Value).ownBlock ∧ some k_ ≠ (v211 : Value).ownBlock) (.slice Ao64 t217.length co64) t217 from by first | exact (Kd.R_below (by exact (Q_HO219 h0_)) hb) | exact Kd.R_mono (Kd.R_below (by exact (Q_HO219 h0_)) hb) (fun _ h_ => by first | trivial | exact h_ | exact h_.1))
               have z_HO203_e4 := fun (h0_ : b 4 = true) => (show Kd.R (Kd.int .i64) 3 w67 w.heap.size (fun k_ => some k_ ≠ (v211 : Value).ownBlock ∧ some k_ ≠ (.slice Ao64 t217.length co64 : Value).ownBlock ∧ some k_ ≠ (v228 : Value).ownBlock) v202 t201 from by first | exact (Kd.R_below (by exact (Q_HO203_e4 h0_)) hb) | exact Kd.R_mono (Kd.R_below (by exact (Q_HO203_e4 h0_)) hb) (fun _ h_ => by first | trivial | exact h_ | exact h_.1))
               have z_HO212_e4 := fun (h0_ : b 4 = true) => (show Kd.R (Kd.int .i64) 3 w67 w.heap.size (fun k_ => some k_ ≠ (v202 : Value).ownBlock ∧ some k_ ≠ (.slice Ao64 t217.length co64 : Value).ownBlock ∧ some k_ ≠ (v228 : Value).ownBlock) v211 t210 from by first | exact (Kd.R_below (by exact (Q_HO212_e4 h0_)) hb) | exact Kd.R_mono (Kd.R_below (by exact (Q_HO212_e4 h0_)) hb) (fun _ h_ => by first | trivial | exact h_ | exact h_.1))
               have z_HO219_e4 := fun (h0_ : b 4 = true) => (show Kd.R (Kd.int .i64) 3 w67 w.heap.size (fun k_ => some k_ ≠ (v202 : Value).ownBlock ∧ some k_ ≠ (v211 : Value).ownBlock ∧ some k_ ≠ (v228 : Value).ownBlock) (.slice Ao64 t217.length co64) t217 from by first | exact (Kd.R_below (by exact (Q_HO219_e4 h0_)) hb) | exact Kd.R_mono (Kd.R_below (by exact (Q_HO219_e4 h0_)) hb) (fun _ h_ => by first | trivial | exact h_ | exact h_.1))
               have z_HO229 := fun (h0_ : b 4 = true) => (show Kd.R (Kd.int .i64) 3 w67 w.heap.size (fun k_ => some k_ ≠ (v202 : Value).ownBlock ∧ some k_ ≠ (v211 : Value).ownBlock ∧ some k_ ≠ (.slice Ao64 t217.length co64 : Value).ownBlock) v228 t227 from by first | exact (Kd.R_below (by exact (Q_HO229 h0_)) hb) | exact Kd.R_mono (Kd.R_below (by exact (Q_HO229 h0_)) hb) (fun _ h_ => by first | trivial | exact h_ | exact h_.1))
               clear BK196
               clear BK197
               clear BK214
               clear BK220
               clear HB
               have BK196 := n3_
               have BK197 := n4_
               have BK214 := n5_
               have BK220 := n6_
               have HB := n7_
               have BK231 := n8_
               have GW231 := n9_
               have GE231 := n10_
               have NB196_231 := n11_
               have NB231_196 := n12_
               have NB197_231 := n13_
               have NB231_197 := n14_
               have NB214_231 := n15_
               have NB231_214 := n16_
               have NB220_231 := n17_
               have NB231_220 := n18_
               clear n3_ n4_ n5_ n6_ n7_ n8_ n9_ n10_ n11_ n12_ n13_ n14_ n15_ n16_ n17_ n18_
               clear hb hbox hg
               refine hK.out _ _ ⟨v228, gb231, m4_, m5_, m6_, (.pointer (some ⟨gb231, 0, none⟩)), (by rw [ha.out]; exact putSel_upk 7 hb_ rfl rfl rfl), z_HO203, z_HO212, z_HO219, (by exact BK196.out), (by exact BK197.out), (by exact BK214.out), (by exact BK220.out), (by repeat (first | (with_reducible first | exact HB.out | apply below_alloc | apply pw_below_drewN | apply below_drew1 | refine below_set ?_ GE196.out | refine below_set ?_ GE197.out | refine below_set ?_ GE214.out | refine below_set ?_ GE220.out | refine below_set ?_ GE231.out) | exact HB.out)), z_HO203_e4, z_HO212_e4, z_HO219_e4, z_HO229, fun _ _ => (by exact BK231.out), fun _ => GW231.out, fun _ => GE231.out, fun _ => NB196_231.out, fun _ => NB231_196.out, fun _ => NB197_231.out, fun _ => NB231_197.out, fun _ => NB214_231.out, fun _ => NB231_214.out, fun _ => NB220_231.out, fun _ => NB231_220.out, fun h0_ => absurd ((hoff 9 (by kernel_rfl)).symm.trans h0_) (by decide), Q_X4_, Q_X5_, Q_X6_, fun _ => rfl⟩
              refine steps_cons ?_ ?_
              ·rintro b a w' ⟨v228, gb231, m4_, m5_, m6_, m8_, ha, Q_HO203, Q_HO212, Q_HO219, Q_BK196, Q_BK197, Q_BK214, Q_BK220, Q_HB, Q_HO203_e4, Q_HO212_e4, Q_HO219_e4, Q_HO229, Q_BK231, Q_GW231, Q_GE231, Q_NB196_231, Q_NB231_196, Q_NB197_231, Q_NB231_197, Q_NB214_231, Q_NB231_214, Q_NB220_231, Q_NB231_220, Q_BK231_e9, Q_X4_, Q_X5_, Q_X6_, Q_X8_⟩ hb_ hon hoff
               refine ⟨_, rfl, fun K hK => ?_⟩
               have e11 : a.tmps[11]? = some (m8_) := by rw [ha]; exact putSel_on (e := (8, 11, m8_)) 7 rfl rfl (hon 8 (by kernel_rfl)) rfl
               rw [Q_X8_ (hon 8 (by kernel_rfl))] at e11
               have e40 : a.tmps[40]? = some (m6_) := by rw [ha]; exact putSel_on (e := (6, 40, m6_)) 5 rfl rfl (hon 6 (by kernel_rfl)) rfl
               rw [Q_X6_ (hon 6 (by kernel_rfl))] at e40
               replace ha := Aside0.mk ha
               have BK196 := Aside0.mk Q_BK196
               have BK197 := Aside0.mk Q_BK197
               have BK214 := Aside0.mk Q_BK214
               have BK220 := Aside0.mk Q_BK220
               have HB := Aside0.mk Q_HB
               have HO203 := Aside0.mk (Q_HO203_e4 (hon 4 (by kernel_rfl)))
               have HO212 := Aside0.mk (Q_HO212_e4 (hon 4 (by kernel_rfl)))
               have HO219 := Aside0.mk (Q_HO219_e4 (hon 4 (by kernel_rfl)))
               have HO229 := Aside0.mk (Q_HO229 (hon 4 (by kernel_rfl)))
               have BK231 := Aside0.mk (Q_BK231 (hon 8 (by kernel_rfl)) hb_)
               have GW231 := Aside0.mk (Q_GW231 (hon 8 (by kernel_rfl)))
               have GE231 := Aside0.mk (Q_GE231 (hon 8 (by kernel_rfl)))
               have NB196_231 := Aside0.mk (Q_NB196_231 (hon 8 (by kernel_rfl)))
               have NB231_196 := Aside0.mk (Q_NB231_196 (hon 8 (by kernel_rfl)))
               have NB197_231 := Aside0.mk (Q_NB197_231 (hon 8 (by kernel_rfl)))
               have NB231_197 := Aside0.mk (Q_NB231_197 (hon 8 (by kernel_rfl)))
               have NB214_231 := Aside0.mk (Q_NB214_231 (hon 8 (by kernel_rfl)))
               have NB231_214 := Aside0.mk (Q_NB231_214 (hon 8 (by kernel_rfl)))
               have NB220_231 := Aside0.mk (Q_NB220_231 (hon 8 (by kernel_rfl)))
               have NB231_220 := Aside0.mk (Q_NB231_220 (hon 8 (by kernel_rfl)))
               obtain ⟨Ao73, co73, eo73⟩ := Kd.R_slice HO229.out
               (first | subst eo73 | (injection eo73 with f1_ f2_ f3_; have f4_ := f1_.symm; have f5_ := f3_.symm; clear f1_ f2_ f3_; subst f4_; subst f5_))
               have hs71 : w'.cell? ⟨gb231, 0, none⟩ = some (.int .i64 0) := (blk_cell BK231.out 0).trans rfl
               have hfs71 := blk_frozen BK231.out 0
               have hns71_0 := NB196_231.out
               have hns71_1 := NB197_231.out
               have hns71_2 := NB214_231.out
               have hns71_3 := NB220_231.out
               have hms71_0 := NB231_196.out
               have hms71_1 := NB231_197.out
               have hms71_2 := NB231_214.out
               have hms71_3 := NB231_220.out
               have hs72 : w'.cell? ⟨gb231, 1, none⟩ = some (.int .i64 0) := (blk_cell BK231.out 1).trans rfl
               have hfs72 := blk_frozen BK231.out 1
               have hns72_0 := NB196_231.out
               have hns72_1 := NB197_231.out
               have hns72_2 := NB214_231.out
               have hns72_3 := NB220_231.out
               have hms72_0 := NB231_196.out
               have hms72_1 := NB231_197.out
               have hms72_2 := NB231_214.out
               have hms72_3 := NB231_220.out
               have hs74 : w'.cell? ⟨gb231, 2, none⟩ = some (.slice none 0 0) := (blk_cell BK231.out 2).trans rfl
               have hfs74 := blk_frozen BK231.out 2
               have hns74_0 := NB196_231.out
               have hns74_1 := NB197_231.out
               have hns74_2 := NB214_231.out
               have hns74_3 := NB220_231.out
               have hms74_0 := NB231_196.out
               have hms74_1 := NB231_197.out
               have hms74_2 := NB231_214.out
               have hms74_3 := NB231_220.out
               refine skip_ (w1 := ?_) (by rfl) rfl ?_ ?_
               rotate_left
               ·go_simp
                rfl
               refine hK.out _ _ ⟨.slice Ao73 t227.length co73, gb231, m4_, m5_, m6_, m8_, (by rw [ha.out]; exact putSel_none (v := undef) rfl), fun h0_ => absurd ((hon 4 (by kernel_rfl)).symm.trans h0_) (by decide), fun h0_ => absurd ((hon 4 (by kernel_rfl)).symm.trans h0_) (by decide), fun h0_ => absurd ((hon 4 (by kernel_rfl)).symm.trans h0_) (by decide), (by refine blk_far ?_ NB196_231.out _; refine blk_far ?_ NB196_231.out _; refine blk_far ?_ NB196_231.out _; exact BK196.out), (by refine blk_far ?_ NB197_231.out _; refine blk_far ?_ NB197_231.out _; refine blk_far ?_ NB197_231.out _; exact BK197.out), (by refine blk_far ?_ NB214_231.out _; refine blk_far ?_ NB214_231.out _; refine blk_far ?_ NB214_231.out _; exact BK214.out), (by refine blk_far ?_ NB220_231.out _; refine blk_far ?_ NB220_231.out _; refine blk_far ?_ NB220_231.out _; exact BK220.out), (by repeat (first | (with_reducible first | exact HB.out | apply below_alloc | apply pw_below_drewN | apply below_drew1 | refine below_set ?_ GE196.out | refine below_set ?_ GE197.out | refine below_set ?_ GE214.out | refine below_set ?_ GE220.out | refine below_set ?_ GE231.out) | exact HB.out)), fun _ => (by exact Kd.R_mono (Kd.R_far (p := ⟨gb231, 2, none⟩) (Kd.R_far (p := ⟨gb231, 1, none⟩) (Kd.R_far (p := ⟨gb231, 0, none⟩) (Kd.R_types HO203.out BK231.out (by decide)) (fun _ hk => hk.2) (.int .i64 t225)) (fun _ hk => hk.2) (.int .i64 t226)) (fun _ hk => hk.2) (.slice Ao73 t227.length co73)) (fun _ hk => ⟨hk.1.1, ⟨hk.1.2.1, hk.1.2.2⟩⟩)), fun _ => (by exact Kd.R_mono (Kd.R_far (p := ⟨gb231, 2, none⟩) (Kd.R_far (p := ⟨gb231, 1, none⟩) (Kd.R_far (p := ⟨gb231, 0, none⟩) (Kd.R_types HO212.out BK231.out (by decide)) (fun _ hk => hk.2) (.int .i64 t225)) (fun _ hk => hk.2) (.int .i64 t226)) (fun _ hk => hk.2) (.slice Ao73 t227.length co73)) (fun _ hk => ⟨hk.1.1, ⟨hk.1.2.1, hk.1.2.2⟩⟩)), fun _ => (by exact Kd.R_mono (Kd.R_far (p := ⟨gb231, 2, none⟩) (Kd.R_far (p := ⟨gb231, 1, none⟩) (Kd.R_far (p := ⟨gb231, 0, none⟩) (Kd.R_types HO219.out BK231.out (by decide)) (fun _ hk => hk.2) (.int .i64 t225)) (fun _ hk => hk.2) (.int .i64 t226)) (fun _ hk => hk.2) (.slice Ao73 t227.length co73)) (fun _ hk => ⟨hk.1.1, ⟨hk.1.2.1, hk.1.2.2⟩⟩)), fun _ => (by exact Kd.R_mono (Kd.R_far (p := ⟨gb231, 2, none⟩) (Kd.R_far (p := ⟨gb231, 1, none⟩) (Kd.R_far (p := ⟨gb231, 0, none⟩) (Kd.R_types HO229.out BK231.out (by decide)) (fun _ hk => hk.2) (.int .i64 t225)) (fun _ hk => hk.2) (.int .i64 t226)) (fun _ hk => hk.2) (.slice Ao73 t227.length co73)) (fun _ hk => ⟨hk.1.1, ⟨hk.1.2.1, hk.1.2.2⟩⟩)), fun _ h1_ => absurd ((up_self b 9).symm.trans h1_) (by decide), fun _ => GW231.out, fun _ => GE231.out, fun _ => NB196_231.out, fun _ => NB231_196.out, fun _ => NB197_231.out, fun _ => NB231_197.out, fun _ => NB214_231.out, fun _ => NB231_214.out, fun _ => NB220_231.out, fun _ => NB231_220.out, fun _ => (by refine blk_put (cs := #[.int .i64 t225, .int .i64 t226, .slice none 0 0]) ?_ 2 _ rfl; refine blk_put (cs := #[.int .i64 t225, .int .i64 0, .slice none 0 0]) ?_ 1 _ rfl; refine blk_put (cs := #[.int .i64 0, .int .i64 0, .slice none 0 0]) ?_ 0 _ rfl; exact BK231.out), Q_X4_, Q_X5_, Q_X6_, Q_X8_⟩
              refine steps_cons ?_ ?_
              ·rintro b a w' ⟨v228, gb231, m4_, m5_, m6_, m8_, ha, Q_HO203, Q_HO212, Q_HO219, Q_BK196, Q_BK197, Q_BK214, Q_BK220, Q_HB, Q_HO203_e4, Q_HO212_e4, Q_HO219_e4, Q_HO229, Q_BK231, Q_GW231, Q_GE231, Q_NB196_231, Q_NB231_196, Q_NB197_231, Q_NB231_197, Q_NB214_231, Q_NB231_214, Q_NB220_231, Q_NB231_220, Q_BK231_e9, Q_X4_, Q_X5_, Q_X6_, Q_X8_⟩ hb_ hon hoff
               refine ⟨_, rfl, fun K hK => ?_⟩
               have e41 : a.tmps[41]? = some (.bool t230) := by rw [ha]; exact putSel_on (e := (7, 41, .bool t230)) 6 rfl rfl (hon 7 (by kernel_rfl)) rfl
               replace ha := Aside0.mk ha
               have BK196 := Aside0.mk Q_BK196
               have BK197 := Aside0.mk Q_BK197
               have BK214 := Aside0.mk Q_BK214
               have BK220 := Aside0.mk Q_BK220
               have HB := Aside0.mk Q_HB
               have HO203 := Aside0.mk (Q_HO203_e4 (hon 4 (by kernel_rfl)))
               have HO212 := Aside0.mk (Q_HO212_e4 (hon 4 (by kernel_rfl)))
               have HO219 := Aside0.mk (Q_HO219_e4 (hon 4 (by kernel_rfl)))
               have HO229 := Aside0.mk (Q_HO229 (hon 4 (by kernel_rfl)))
               have GW231 := Aside0.mk (Q_GW231 (hon 8 (by kernel_rfl)))
               have GE231 := Aside0.mk (Q_GE231 (hon 8 (by kernel_rfl)))
               have NB196_231 := Aside0.mk (Q_NB196_231 (hon 8 (by kernel_rfl)))
               have NB231_196 := Aside0.mk (Q_NB231_196 (hon 8 (by kernel_rfl)))
               have NB197_231 := Aside0.mk (Q_NB197_231 (hon 8 (by kernel_rfl)))
               have NB231_197 := Aside0.mk (Q_NB231_197 (hon 8 (by kernel_rfl)))
               have NB214_231 := Aside0.mk (Q_NB214_231 (hon 8 (by kernel_rfl)))
               have NB231_214 := Aside0.mk (Q_NB231_214 (hon 8 (by kernel_rfl)))
               have NB220_231 := Aside0.mk (Q_NB220_231 (hon 8 (by kernel_rfl)))
               have NB231_220 := Aside0.mk (Q_NB231_220 (hon 8 (by kernel_rfl)))
               have BK231 := Aside0.mk (Q_BK231_e9 (hon 9 (by kernel_rfl)))
               refine value_ (w1 := w') (v := .bool t230) (by rfl) rfl ?_ ?_
               ·go_simp
                (try simp only [i64_w])
                try rfl
               refine hK.out _ _ ⟨v228, gb231, m4_, m5_, m6_, m8_, (by rw [ha.out]; exact putSel_upk 8 hb_ rfl rfl rfl), fun h0_ => absurd ((hon 4 (by kernel_rfl)).symm.trans h0_) (by decide), fun h0_ => absurd ((hon 4 (by kernel_rfl)).symm.trans h0_) (by decide), fun h0_ => absurd ((hon 4 (by kernel_rfl)).symm.trans h0_) (by decide), Q_BK196, Q_BK197, Q_BK214, Q_BK220, Q_HB, Q_HO203_e4, Q_HO212_e4, Q_HO219_e4, Q_HO229, fun _ h1_ => absurd ((hon 9 (by kernel_rfl)).symm.trans h1_) (by decide), Q_GW231, Q_GE231, Q_NB196_231, Q_NB231_196, Q_NB197_231, Q_NB231_197, Q_NB214_231, Q_NB231_214, Q_NB220_231, Q_NB231_220, Q_BK231_e9, Q_X4_, Q_X5_, Q_X6_, Q_X8_⟩
              exact steps_nil
             rintro b a w74 hall ⟨v228, gb231, m4_, m5_, m6_, m8_, ha, Q_HO203, Q_HO212, Q_HO219, Q_BK196, Q_BK197, Q_BK214, Q_BK220, Q_HB, Q_HO203_e4, Q_HO212_e4, Q_HO219_e4, Q_HO229, Q_BK231, Q_GW231, Q_GE231, Q_NB196_231, Q_NB231_196, Q_NB197_231, Q_NB231_197, Q_NB214_231, Q_NB231_214, Q_NB220_231, Q_NB231_220, Q_BK231_e9, Q_X4_, Q_X5_, Q_X6_, Q_X8_⟩
             clear BK196 BK197 BK214 BK220 HB HO203 HO212 HO219
             have hb0_ := hall 0 (by kernel_rfl)
             have hb1_ := hall 1 (by kernel_rfl)
             have hb2_ := hall 2 (by kernel_rfl)
             have hb4_ := hall 4 (by kernel_rfl)
             have hb5_ := hall 5 (by kernel_rfl)
             have hb6_ := hall 6 (by kernel_rfl)
             have hb7_ := hall 7 (by kernel_rfl)
             have hb8_ := hall 8 (by kernel_rfl)
             have hb9_ := hall 9 (by kernel_rfl)
             have hb10_ := hall 10 (by kernel_rfl)
             subst ha
             obtain rfl := Q_X4_ hb4_
             obtain rfl := Q_X5_ hb5_
             obtain rfl := Q_X6_ hb6_
             obtain rfl := Q_X8_ hb8_
             simp only [putSel, hb0_, hb1_, hb2_, hb4_, hb5_, hb6_, hb7_, hb8_, hb9_, hb10_, if_true, Act.put, List.setIfInBounds_toArray, List.set_cons_zero, List.set_cons_succ]
             clear Q_HO203
             clear Q_HO212
             clear Q_HO219
             have BK196 := Aside0.mk Q_BK196
             clear Q_BK196
             have BK197 := Aside0.mk Q_BK197
             clear Q_BK197
             have BK214 := Aside0.mk Q_BK214
             clear Q_BK214
             have BK220 := Aside0.mk Q_BK220
             clear Q_BK220
             have HB := Aside0.mk Q_HB
             clear Q_HB
             have HO203 := Aside0.mk (Q_HO203_e4 hb4_)
             clear Q_HO203_e4
             have HO212 := Aside0.mk (Q_HO212_e4 hb4_)
             clear Q_HO212_e4
             have HO219 := Aside0.mk (Q_HO219_e4 hb4_)
             clear Q_HO219_e4
             have HO229 := Aside0.mk (Q_HO229 hb4_)
             clear Q_HO229
             clear Q_BK231
             have GW231 := Aside0.mk (Q_GW231 hb8_)
             clear Q_GW231
             have GE231 := Aside0.mk (Q_GE231 hb8_)
             clear Q_GE231
             have NB196_231 := Aside0.mk (Q_NB196_231 hb8_)
             clear Q_NB196_231
             have NB231_196 := Aside0.mk (Q_NB231_196 hb8_)
             clear Q_NB231_196
             have NB197_231 := Aside0.mk (Q_NB197_231 hb8_)
             clear Q_NB197_231
             have NB231_197 := Aside0.mk (Q_NB231_197 hb8_)
             clear Q_NB231_197
             have NB214_231 := Aside0.mk (Q_NB214_231 hb8_)
             clear Q_NB214_231
             have NB231_214 := Aside0.mk (Q_NB231_214 hb8_)
             clear Q_NB231_214
             have NB220_231 := Aside0.mk (Q_NB220_231 hb8_)
             clear Q_NB220_231
             have NB231_220 := Aside0.mk (Q_NB231_220 hb8_)
             clear Q_NB231_220
             have BK231 := Aside0.mk (Q_BK231_e9 hb9_)
             clear Q_BK231_e9
             clear hall hb0_ hb1_ hb2_ hb4_ hb5_ hb6_ hb7_ hb8_ hb9_ hb10_
             have hnb75 := NB231_196.out
             have hnc75 := NB196_231.out
             have hnb76 := NB231_197.out
             have hnc76 := NB197_231.out
             have hnb77 := NB231_214.out
             have hnc77 := NB214_231.out
             have hnb78 := NB231_220.out
             have hnc78 := NB220_231.out
             have hcz79_0 : w74.cell? ⟨gb231, 0, none⟩ = some (.int .i64 t225) := (blk_cell BK231.out 0).trans rfl
             have hcz79_1 : w74.cell? ⟨gb231, 1, none⟩ = some (.int .i64 t226) := (blk_cell BK231.out 1).trans rfl
             have hcz79_2 : w74.cell? ⟨gb231, 2, none⟩ = some (v228) := (blk_cell BK231.out 2).trans rfl
             have hfz79_0 := blk_frozen BK231.out 0
             have hfz79_1 := blk_frozen BK231.out 1
             have hfz79_2 := blk_frozen BK231.out 2
             have hnb80 := NB214_197.out
             have hnc80 := NB197_214.out
             have hcz81_0 : w74.cell? ⟨gb214, 0, none⟩ = some (.int .i64 t208) := (blk_cell BK214.out 0).trans rfl
             have hcz81_1 : w74.cell? ⟨gb214, 1, none⟩ = some (.int .i64 t209) := (blk_cell BK214.out 1).trans rfl
             have hcz81_2 : w74.cell? ⟨gb214, 2, none⟩ = some (v211) := (blk_cell BK214.out 2).trans rfl
             have hfz81_0 := blk_frozen BK214.out 0
             have hfz81_1 := blk_frozen BK214.out 1
             have hfz81_2 := blk_frozen BK214.out 2
             obtain ⟨Ao82, co82, eo82⟩ := Kd.R_slice HO229.out
             subst eo82
             obtain ⟨Ao83, co83, eo83⟩ := Kd.R_slice HO212.out
             subst eo83
             try go_wp2_with (first | ((with_reducible refine gate_callee (f := 29) rfl ?_); refine goesL_ (some 44) rfl rfl Try.func29 (by kernel_rfl) rfl #[.agg #[.int .i64 t225, .int .i64 t226, .slice Ao82 t227.length co82], .agg #[.int .i64 t208, .int .i64 t209, .slice Ao83 t210.length co83]] rfl (by (try simp only [List.map_toArray, List.map_cons, List.map_nil]); first | done | rfl | (simp only [List.length_drop, List.length_take]; rfl)) ?_; (with_reducible refine (laws_eqSheet.calls k t225 t226 _ _ t227 t208 t209 _ _ t210 true _ ?side1 ?side2 ?side3 ?side4 A17.out).mono ?_); (case side1 => repeat (first | exact (Kd.R_reads' HO229.out).2.2 | (with_reducible refine Kd.C_alloc ?_ _) | (with_reducible refine Kd.C_drewN ?_ _) | (with_reducible refine Kd.C_drew ?_))); (case side2 => exact (Kd.R_reads' HO229.out).2.1); (case side3 => repeat (first | exact (Kd.R_reads' HO212.out).2.2 | (with_reducible refine Kd.C_alloc ?_ _) | (with_reducible refine Kd.C_drewN ?_ _) | (with_reducible refine Kd.C_drew ?_))); (case side4 => exact (Kd.R_reads' HO212.out).2.1); rintro e w84 ⟨rfl, hb⟩; refine ⟨_, rfl, ?_⟩; have n0_ := Aside0.mk (Kd.R_below (by exact HO203.out) hb); have n1_ := Aside0.mk (Kd.R_below (by exact HO212.out) hb); have n2_ := Aside0.mk (Kd.R_below (by exact HO219.out) hb); have n3_ := Aside0.mk (Kd.R_below (by exact HO229.out) hb); have n4_ := Aside0.mk (blk_below (g := gb196) (o := .cells #[.int .i64 a0_0, .int .i64 a0_1, .slice A0_2 l0_2.length c0_2] 33 (0, 0)) (by exact BK196.out) hb); have n5_ := Aside0.mk (blk_below (g := gb197) (o := .cells #[.int .i64 a1_0, .int .i64 a1_1, .int .i64 a1_2, .int .i64 a1_3] 35 (0, 0)) (by exact BK197.out) hb); have n6_ := Aside0.mk (blk_below (g := gb214) (o := .cells #[.int .i64 t208, .int .i64 t209, .slice Ao83 t210.length co83] 37 (0, 0)) (by exact BK214.out) hb); have n7_ := Aside0.mk (blk_below (g := gb220) (o := .cells #[.int .i64 t215, .int .i64 t216, .slice Ao64 t217.length co64] 37 (0, 0)) (by exact BK220.out) hb); have n8_ := Aside0.mk (blk_below (g := gb231) (o := .cells #[.int .i64 t225, .int .i64 t226, .slice Ao82 t227.length co82] 37 (0, 0)) (by exact BK231.out) hb); have n9_ := Aside0.mk (below_step (by repeat (first | (with_reducible first | exact HB.out | apply below_alloc | apply pw_below_drewN | apply below_drew1 | refine below_set ?_ GE196.out | refine below_set ?_ GE197.out | refine below_set ?_ GE214.out | refine below_set ?_ GE220.out | refine below_set ?_ GE231.out) | exact HB.out)) hb); clear HO203; clear HO212; clear HO219; clear HO229; clear BK196; clear BK197; clear BK214; clear BK220; clear BK231; clear HB; have HO203 := n0_; have HO212 := n1_; have HO219 := n2_; have HO229 := n3_; have BK196 := n4_; have BK197 := n5_; have BK214 := n6_; have BK220 := n7_; have BK231 := n8_; have HB := n9_; clear n0_ n1_ n2_ n3_ n4_ n5_ n6_ n7_ n8_ n9_; (try clear hb); (try clear hb2); (try clear hk); (try clear hi)))
             have n0_ := Aside0.mk (Kd.R_drew HO203.out)
             have n1_ := Aside0.mk (Kd.R_drew HO212.out)
             have n2_ := Aside0.mk (Kd.R_drew HO219.out)
             have n3_ := Aside0.mk (Kd.R_drew HO229.out)
             have n4_ := Aside0.mk (blk_drew BK196.out)
             have n5_ := Aside0.mk (blk_drew BK197.out)
             have n6_ := Aside0.mk (blk_drew BK214.out)
             have n7_ := Aside0.mk (blk_drew BK220.out)
             have n8_ := Aside0.mk (blk_drew BK231.out)
             have n9_ := Aside0.mk (below_drew1 HB.out)
             clear HO203
             clear HO212
             clear HO219
             clear HO229
             clear BK196
             clear BK197
             clear BK214
             clear BK220
             clear BK231
             clear HB
             have HO203 := n0_
             have HO212 := n1_
             have HO219 := n2_
             have HO229 := n3_
             have BK196 := n4_
             have BK197 := n5_
             have BK214 := n6_
             have BK220 := n7_
             have BK231 := n8_
             have HB := n9_
             clear n0_ n1_ n2_ n3_ n4_ n5_ n6_ n7_ n8_ n9_
             refine start_ (n := 5) (S := fun w' => w'.cell? ⟨gb220, 0, none⟩ = some (.int .i64 t215) ∧ w'.cell? ⟨gb220, 1, none⟩ = some (.int .i64 t216) ∧ w'.cell? ⟨gb220, 2, none⟩ = some (.slice Ao64 t217.length co64) ∧ w'.cell? ⟨gb196, 0, none⟩ = some (.int .i64 a0_0) ∧ w'.cell? ⟨gb196, 1, none⟩ = some (.int .i64 a0_1) ∧ w'.cell? ⟨gb196, 2, none⟩ = some (.slice A0_2 l0_2.length c0_2)) (ds := []) #[false, false, false, false, false] (by kernel_rfl) rfl rfl ⟨(blk_cell BK220.out 0).trans rfl, (blk_cell BK220.out 1).trans rfl, (blk_cell BK220.out 2).trans rfl, (blk_cell BK196.out 0).trans rfl, (blk_cell BK196.out 1).trans rfl, (blk_cell BK196.out 2).trans rfl⟩ (fun hHeld => ?_)
             generalize w84.drew = w85 at HO203 HO212 HO219 HO229 BK196 BK197 BK214 BK220 BK231 HB hHeld ⊢
             refine take_ (i := 0) (N := some 51) (v := ?_) (a' := ?_) #[true, false, false, false, false] rfl rfl (by kernel_rfl) (fun _ _ _ h => h) (Or.inl ⟨by rfl, ?_⟩) hHeld ?_ ?_
             rotate_left
             ·rintro w' ⟨s0, s1, s2, s3, s4, s5⟩
              go_simp
              with_reducible rfl
             rotate_left
             ·simp only [Act.put, List.setIfInBounds_toArray, List.set_cons_zero, List.set_cons_succ, i64_w, i32_w]
              rfl
             refine take_ (i := 1) (N := some 52) (v := ?_) (a' := ?_) #[true, true, false, false, false] rfl rfl (by kernel_rfl) (fun _ _ _ h => h) (Or.inl ⟨by rfl, ?_⟩) hHeld ?_ ?_
             rotate_left
             ·rintro w' ⟨s0, s1, s2, s3, s4, s5⟩
              go_simp
              with_reducible rfl
             rotate_left
             ·simp only [Act.put, List.setIfInBounds_toArray, List.set_cons_zero, List.set_cons_succ, i64_w, i32_w]
              rfl
             refine one_ (i := 2) (N := some 53) #[true, true, true, false, false] rfl rfl (by kernel_rfl) (by decide) (fun K hK => ?_)
             refine goes_ Try.func26 (by kernel_rfl) rfl #[.agg #[.int .i64 a0_0, .int .i64 a0_1, .slice A0_2 l0_2.length c0_2]] (by rfl) rfl rfl (by (try simp only [List.map_toArray, List.map_cons, List.map_nil]); first | done | rfl | (simp only [List.length_drop, List.length_take]; rfl)) ?_
             with_reducible refine (laws_toSheet.calls k a0_0 a0_1 _ _ l0_2 t233 t234 t235 _ ?side1 ?side2 A20.out).mono ?_
             (case side1 => repeat (first | exact (Kd.C_below HR0_2.out HB.out) | (with_reducible refine Kd.C_alloc ?_ _) | (with_reducible refine Kd.C_drewN ?_ _) | (with_reducible refine Kd.C_drew ?_)))
             (case side2 => exact HC0_2.out)
             rintro e w86 ⟨v236, rfl, ho0, hb⟩
             refine ⟨_, rfl, ?_⟩
             have n0_ := Aside0.mk (Kd.R_elder' (by exact HO203.out) (Kd.R_base ho0) hb)
             have n1_ := Aside0.mk (Kd.R_elder' (by exact HO212.out) (Kd.R_base ho0) hb)
             have n2_ := Aside0.mk (Kd.R_elder' (by exact HO219.out) (Kd.R_base ho0) hb)
             have n3_ := Aside0.mk (Kd.R_elder' (by exact HO229.out) (Kd.R_base ho0) hb)
             have n4_ := Aside0.mk (Kd.R_lower (Kd.R_new' (Kd.R_new' (Kd.R_new' (Kd.R_new' ho0 (Kd.R_lt (by exact HO203.out))) (Kd.R_lt (by exact HO212.out))) (Kd.R_lt (by exact HO219.out))) (Kd.R_lt (by exact HO229.out))) (below_size (by repeat (first | (with_reducible first | exact HB.out | apply below_alloc | apply pw_below_drewN | apply below_drew1 | refine below_set ?_ GE196.out | refine below_set ?_ GE197.out | refine below_set ?_ GE214.out | refine below_set ?_ GE220.out | refine below_set ?_ GE231.out) | exact HB.out))))
             have n5_ := Aside0.mk (blk_below (g := gb196) (o := .cells #[.int .i64 a0_0, .int .i64 a0_1, .slice A0_2 l0_2.length c0_2] 33 (0, 0)) (by exact BK196.out) hb)
             have n6_ := Aside0.mk (blk_below (g := gb197) (o := .cells #[.int .i64 a1_0, .int .i64 a1_1, .int .i64 a1_2, .int .i64 a1_3] 35 (0, 0)) (by exact BK197.out) hb)
             have n7_ := Aside0.mk (blk_below (g := gb214) (o := .cells #[.int .i64 t208, .int .i64 t209, .slice Ao83 t210.length co83] 37 (0, 0)) (by exact BK214.out) hb)
             have n8_ := Aside0.mk (blk_below (g := gb220) (o := .cells #[.int .i64 t215, .int .i64 t216, .slice Ao64 t217.length co64] 37 (0, 0)) (by exact BK220.out) hb)
             have n9_ := Aside0.mk (blk_below (g := gb231) (o := .cells #[.int .i64 t225, .int .i64 t226, .slice Ao82 t227.length co82] 37 (0, 0)) (by exact BK231.out) hb)
             have n10_ := Aside0.mk (below_step (by repeat (first | (with_reducible first | exact HB.out | apply below_alloc | apply pw_below_drewN | apply below_drew1 | refine below_set ?_ GE196.out | refine below_set ?_ GE197.out | refine below_set ?_ GE214.out | refine below_set ?_ GE220.out | refine below_set ?_ GE231.out) | exact HB.out)) hb)
             clear HO203
             clear HO212
             clear HO219
             clear HO229
             clear BK196
             clear BK197
             clear BK214
             clear BK220
             clear BK231
             clear HB
             have HO203 := n0_
             have HO212 := n1_
             have HO219 := n2_
             have HO229 := n3_
             have HO237 := n4_
             have BK196 := n5_
             have BK197 := n6_
             have BK214 := n7_
             have BK220 := n8_
             have BK231 := n9_
             have HB := n10_
             clear n0_ n1_ n2_ n3_ n4_ n5_ n6_ n7_ n8_ n9_ n10_
             (try clear hb)
             (try clear hb2)
             (try clear hk)
             (try clear hi)
             (try clear ho0)
             obtain ⟨Ao87, co87, eo87⟩ := Kd.R_slice HO237.out
             (first | subst eo87 | (injection eo87 with f1_ f2_ f3_; have f4_ := f1_.symm; have f5_ := f3_.symm; clear f1_ f2_ f3_; subst f4_; subst f5_))
             refine hK.out _ _ ⟨(blk_cell BK220.out 0).trans rfl, (blk_cell BK220.out 1).trans rfl, (blk_cell BK220.out 2).trans rfl, (blk_cell BK196.out 0).trans rfl, (blk_cell BK196.out 1).trans rfl, (blk_cell BK196.out 2).trans rfl⟩ (fun hHeld => ?_)
             clear hK K
             refine norm_ (a' := ?_) ?_ ?_
             rotate_left
             ·show Act.put _ (some 53) _ = _
              simp only [Act.put, List.setIfInBounds_toArray, List.set_cons_zero, List.set_cons_succ, i64_w, i32_w]
              rfl
             refine one_ (i := 3) (N := some 54) #[true, true, true, true, false] rfl rfl (by kernel_rfl) (by decide) (fun K hK => ?_)
             refine goes_ Try.func29 (by kernel_rfl) rfl #[.agg #[.int .i64 t215, .int .i64 t216, .slice Ao64 t217.length co64], .agg #[.int .i64 t233, .int .i64 t234, .slice Ao87 t235.length co87]] (by rfl) rfl rfl (by (try simp only [List.map_toArray, List.map_cons, List.map_nil]); first | done | rfl | (simp only [List.length_drop, List.length_take]; rfl)) ?_
             with_reducible refine (laws_eqSheet.calls k t215 t216 _ _ t217 t233 t234 _ _ t235 true _ ?side1 ?side2 ?side3 ?side4 A21.out).mono ?_
             (case side1 => repeat (first | exact (Kd.R_reads' HO219.out).2.2 | (with_reducible refine Kd.C_alloc ?_ _) | (with_reducible refine Kd.C_drewN ?_ _) | (with_reducible refine Kd.C_drew ?_)))
             (case side2 => exact (Kd.R_reads' HO219.out).2.1)
             (case side3 => repeat (first | exact (Kd.R_reads' HO237.out).2.2 | (with_reducible refine Kd.C_alloc ?_ _) | (with_reducible refine Kd.C_drewN ?_ _) | (with_reducible refine Kd.C_drew ?_)))
             (case side4 => exact (Kd.R_reads' HO237.out).2.1)
             rintro e w88 ⟨rfl, hb⟩
             refine ⟨_, rfl, ?_⟩
             have n0_ := Aside0.mk (Kd.R_below (by exact HO203.out) hb)
             have n1_ := Aside0.mk (Kd.R_below (by exact HO212.out) hb)
             have n2_ := Aside0.mk (Kd.R_below (by exact HO219.out) hb)
             have n3_ := Aside0.mk (Kd.R_below (by exact HO229.out) hb)
             have n4_ := Aside0.mk (Kd.R_below (by exact HO237.out) hb)
             have n5_ := Aside0.mk (blk_below (g := gb196) (o := .cells #[.int .i64 a0_0, .int .i64 a0_1, .slice A0_2 l0_2.length c0_2] 33 (0, 0)) (by exact BK196.out) hb)
             have n6_ := Aside0.mk (blk_below (g := gb197) (o := .cells #[.int .i64 a1_0, .int .i64 a1_1, .int .i64 a1_2, .int .i64 a1_3] 35 (0, 0)) (by exact BK197.out) hb)
             have n7_ := Aside0.mk (blk_below (g := gb214) (o := .cells #[.int .i64 t208, .int .i64 t209, .slice Ao83 t210.length co83] 37 (0, 0)) (by exact BK214.out) hb)
             have n8_ := Aside0.mk (blk_below (g := gb220) (o := .cells #[.int .i64 t215, .int .i64 t216, .slice Ao64 t217.length co64] 37 (0, 0)) (by exact BK220.out) hb)
             have n9_ := Aside0.mk (blk_below (g := gb231) (o := .cells #[.int .i64 t225, .int .i64 t226, .slice Ao82 t227.length co82] 37 (0, 0)) (by exact BK231.out) hb)
             have n10_ := Aside0.mk (below_step (by repeat (first | (with_reducible first | exact HB.out | apply below_alloc | apply pw_below_drewN | apply below_drew1 | refine below_set ?_ GE196.out | refine below_set ?_ GE197.out | refine below_set ?_ GE214.out | refine below_set ?_ GE220.out | refine below_set ?_ GE231.out) | exact HB.out)) hb)
             clear HO203
             clear HO212
             clear HO219
             clear HO229
             clear HO237
             clear BK196
             clear BK197
             clear BK214
             clear BK220
             clear BK231
             clear HB
             have HO203 := n0_
             have HO212 := n1_
             have HO219 := n2_
             have HO229 := n3_
             have HO237 := n4_
             have BK196 := n5_
             have BK197 := n6_
             have BK214 := n7_
             have BK220 := n8_
             have BK231 := n9_
             have HB := n10_
             clear n0_ n1_ n2_ n3_ n4_ n5_ n6_ n7_ n8_ n9_ n10_
             (try clear hb)
             (try clear hb2)
             (try clear hk)
             (try clear hi)
             refine hK.out _ _ ⟨(blk_cell BK220.out 0).trans rfl, (blk_cell BK220.out 1).trans rfl, (blk_cell BK220.out 2).trans rfl, (blk_cell BK196.out 0).trans rfl, (blk_cell BK196.out 1).trans rfl, (blk_cell BK196.out 2).trans rfl⟩ (fun hHeld => ?_)
             clear hK K
             refine norm_ (a' := ?_) ?_ ?_
             rotate_left
             ·show Act.put _ (some 54) _ = _
              simp only [Act.put, List.setIfInBounds_toArray, List.set_cons_zero, List.set_cons_succ, i64_w, i32_w]
              rfl
             refine pure_ (i := 4) (N := some 55) (v := ?_) (a' := ?_) #[true, true, true, true, true] rfl rfl (by kernel_rfl) (fun _ _ _ h => h) (Or.inl ⟨by rfl, ?_⟩) ?_ ?_
             rotate_left
             ·intro w'
              go_simp
              with_reducible rfl
             rotate_left
             ·simp only [Act.put, List.setIfInBounds_toArray, List.set_cons_zero, List.set_cons_succ, i64_w, i32_w]
              rfl
             refine done_ (by kernel_rfl) ?_
             have hcz89_0 : w88.cell? ⟨gb220, 0, none⟩ = some (.int .i64 t215) := (blk_cell BK220.out 0).trans rfl
             have hcz89_1 : w88.cell? ⟨gb220, 1, none⟩ = some (.int .i64 t216) := (blk_cell BK220.out 1).trans rfl
             have hcz89_2 : w88.cell? ⟨gb220, 2, none⟩ = some (.slice Ao64 t217.length co64) := (blk_cell BK220.out 2).trans rfl
             have hfz89_0 := blk_frozen BK220.out 0
             have hfz89_1 := blk_frozen BK220.out 1
             have hfz89_2 := blk_frozen BK220.out 2
             try go_wp2_with (first | ((with_reducible refine gate_callee (f := 30) rfl ?_); refine goesL_ (some 58) rfl rfl Try.func30 (by kernel_rfl) rfl #[.agg #[.int .i64 t215, .int .i64 t216, .slice Ao64 t217.length co64], .int .i64 1] rfl (by (try simp only [List.map_toArray, List.map_cons, List.map_nil]); first | done | rfl | (simp only [List.length_drop, List.length_take]; rfl)) ?_; (with_reducible refine (laws_markSheet.calls k t215 t216 (fun k_ => some k_ = (.slice Ao64 t217.length co64 : Value).ownBlock) (.slice Ao64 t217.length co64) t217 1 t239 t240 w _ ?side1 ?side2 A23.out).mono ?_); (case side1 => repeat (first | (with_reducible first | exact HB.out | apply below_alloc | apply pw_below_drewN | apply below_drew1 | refine below_set ?_ GE196.out | refine below_set ?_ GE197.out | refine below_set ?_ GE214.out | refine below_set ?_ GE220.out | refine below_set ?_ GE231.out) | exact HB.out)); (case side2 => exact Kd.R_tight rfl HO219.out); rintro e w90 ⟨rfl, hy0, hb, hkp⟩; refine ⟨_, rfl, ?_⟩; have n0_ := Aside0.mk (blk_kept (by exact BK196.out) hkp (fun hs_ => (fun e_ => (Kd.R_ne HO219.out BK196.out (by decide)) e_) hs_)); have n1_ := Aside0.mk (blk_kept (by exact BK197.out) hkp (fun hs_ => (fun e_ => (Kd.R_ne HO219.out BK197.out (by decide)) e_) hs_)); have n2_ := Aside0.mk (Kd.R_mono (ok' := fun k_ => some k_ ≠ (.slice Ao83 t210.length co83 : Value).ownBlock ∧ some k_ ≠ (.slice Ao64 t217.length co64 : Value).ownBlock ∧ some k_ ≠ (.slice Ao82 t227.length co82 : Value).ownBlock ∧ some k_ ≠ (.slice Ao87 t235.length co87 : Value).ownBlock) (Kd.R_keptB (HO203.out) hkp (fun k_ hk_ hs_ => (hk_.1.2.1) hs_)) (fun k_ hk_ => ⟨hk_.1.1.1, hk_.1.1.2.1, hk_.1.1.2.2, hk_.1.2⟩)); have n3_ := Aside0.mk (Kd.R_mono (ok' := fun k_ => some k_ ≠ (v202 : Value).ownBlock ∧ some k_ ≠ (.slice Ao64 t217.length co64 : Value).ownBlock ∧ some k_ ≠ (.slice Ao82 t227.length co82 : Value).ownBlock ∧ some k_ ≠ (.slice Ao87 t235.length co87 : Value).ownBlock) (Kd.R_keptB (HO212.out) hkp (fun k_ hk_ hs_ => (hk_.1.2.1) hs_)) (fun k_ hk_ => ⟨hk_.1.1.1, hk_.1.1.2.1, hk_.1.1.2.2, hk_.1.2⟩)); have n4_ := Aside0.mk (blk_kept (by exact BK214.out) hkp (fun hs_ => (fun e_ => (Kd.R_ne HO219.out BK214.out (by decide)) e_) hs_)); have n5_ := Aside0.mk (Kd.R_reok rfl hy0 (fun k_ e_ => HO219.out.1 k_ e_)); have n6_ := Aside0.mk (blk_kept (by exact BK220.out) hkp (fun hs_ => (fun e_ => (Kd.R_ne HO219.out BK220.out (by decide)) e_) hs_)); have n7_ := Aside0.mk (Kd.R_mono (ok' := fun k_ => some k_ ≠ (v202 : Value).ownBlock ∧ some k_ ≠ (.slice Ao83 t210.length co83 : Value).ownBlock ∧ some k_ ≠ (.slice Ao64 t217.length co64 : Value).ownBlock ∧ some k_ ≠ (.slice Ao87 t235.length co87 : Value).ownBlock) (Kd.R_keptB (HO229.out) hkp (fun k_ hk_ hs_ => (hk_.1.2.2) hs_)) (fun k_ hk_ => ⟨hk_.1.1.1, hk_.1.1.2.1, hk_.1.1.2.2, hk_.1.2⟩)); have n8_ := Aside0.mk (blk_kept (by exact BK231.out) hkp (fun hs_ => (fun e_ => (Kd.R_ne HO219.out BK231.out (by decide)) e_) hs_)); have n9_ := Aside0.mk (Kd.R_mono (ok' := fun k_ => some k_ ≠ (v202 : Value).ownBlock ∧ some k_ ≠ (.slice Ao83 t210.length co83 : Value).ownBlock ∧ some k_ ≠ (.slice Ao64 t217.length co64 : Value).ownBlock ∧ some k_ ≠ (.slice Ao82 t227.length co82 : Value).ownBlock) (Kd.R_keptB (HO237.out) hkp (fun k_ hk_ hs_ => (hk_.1.2) hs_)) (fun k_ hk_ => ⟨hk_.1.1.1.1.2, hk_.1.1.1.2, hk_.1.1.2, hk_.1.2⟩)); have n10_ := Aside0.mk (hb); clear BK196; clear BK197; clear HO203; clear HO212; clear BK214; clear HO219; clear BK220; clear HO229; clear BK231; clear HO237; clear HB; have BK196 := n0_; have BK197 := n1_; have HO203 := n2_; have HO212 := n3_; have BK214 := n4_; have HO219 := n5_; have BK220 := n6_; have HO229 := n7_; have BK231 := n8_; have HO237 := n9_; have HB := n10_; clear n0_ n1_ n2_ n3_ n4_ n5_ n6_ n7_ n8_ n9_ n10_; (try clear hb); (try clear hkp); (try clear hy0); have hcz91_0 : w90.cell? ⟨gb231, 0, none⟩ = some (.int .i64 t225) := (blk_cell BK231.out 0).trans rfl; have hcz91_1 : w90.cell? ⟨gb231, 1, none⟩ = some (.int .i64 t226) := (blk_cell BK231.out 1).trans rfl; have hcz91_2 : w90.cell? ⟨gb231, 2, none⟩ = some (.slice Ao82 t227.length co82) := (blk_cell BK231.out 2).trans rfl; have hfz91_0 := blk_frozen BK231.out 0; have hfz91_1 := blk_frozen BK231.out 1; have hfz91_2 := blk_frozen BK231.out 2; have hcz92_0 : w90.cell? ⟨gb214, 0, none⟩ = some (.int .i64 t208) := (blk_cell BK214.out 0).trans rfl; have hcz92_1 : w90.cell? ⟨gb214, 1, none⟩ = some (.int .i64 t209) := (blk_cell BK214.out 1).trans rfl; have hcz92_2 : w90.cell? ⟨gb214, 2, none⟩ = some (.slice Ao83 t210.length co83) := (blk_cell BK214.out 2).trans rfl; have hfz92_0 := blk_frozen BK214.out 0; have hfz92_1 := blk_frozen BK214.out 1; have hfz92_2 := blk_frozen BK214.out 2) | (go_at_call 29; (with_reducible refine (laws_eqSheet.calls k t225 t226 _ _ t227 t208 t209 _ _ t210 true _ ?side1 ?side2 ?side3 ?side4 A25.out).mono ?_); (case side1 => repeat (first | exact (Kd.R_reads' HO229.out).2.2 | (with_reducible refine Kd.C_alloc ?_ _) | (with_reducible refine Kd.C_drewN ?_ _) | (with_reducible refine Kd.C_drew ?_))); (case side2 => exact (Kd.R_reads' HO229.out).2.1); (case side3 => repeat (first | exact (Kd.R_reads' HO212.out).2.2 | (with_reducible refine Kd.C_alloc ?_ _) | (with_reducible refine Kd.C_drewN ?_ _) | (with_reducible refine Kd.C_drew ?_))); (case side4 => exact (Kd.R_reads' HO212.out).2.1); rintro e w93 ⟨rfl, hb⟩; have n0_ := Aside0.mk (Kd.R_below (by exact HO203.out) hb); have n1_ := Aside0.mk (Kd.R_below (by exact HO212.out) hb); have n2_ := Aside0.mk (Kd.R_below (by exact HO219.out) hb); have n3_ := Aside0.mk (Kd.R_below (by exact HO229.out) hb); have n4_ := Aside0.mk (Kd.R_below (by exact HO237.out) hb); have n5_ := Aside0.mk (blk_below (g := gb196) (o := .cells #[.int .i64 a0_0, .int .i64 a0_1, .slice A0_2 l0_2.length c0_2] 33 (0, 0)) (by exact BK196.out) hb); have n6_ := Aside0.mk (blk_below (g := gb197) (o := .cells #[.int .i64 a1_0, .int .i64 a1_1, .int .i64 a1_2, .int .i64 a1_3] 35 (0, 0)) (by exact BK197.out) hb); have n7_ := Aside0.mk (blk_below (g := gb214) (o := .cells #[.int .i64 t208, .int .i64 t209, .slice Ao83 t210.length co83] 37 (0, 0)) (by exact BK214.out) hb); have n8_ := Aside0.mk (blk_below (g := gb220) (o := .cells #[.int .i64 t215, .int .i64 t216, .slice Ao64 t217.length co64] 37 (0, 0)) (by exact BK220.out) hb); have n9_ := Aside0.mk (blk_below (g := gb231) (o := .cells #[.int .i64 t225, .int .i64 t226, .slice Ao82 t227.length co82] 37 (0, 0)) (by exact BK231.out) hb); have n10_ := Aside0.mk (below_step (by repeat (first | (with_reducible first | exact HB.out | apply below_alloc | apply pw_below_drewN | apply below_drew1 | refine below_set ?_ GE196.out | refine below_set ?_ GE197.out | refine below_set ?_ GE214.out | refine below_set ?_ GE220.out | refine below_set ?_ GE231.out) | exact HB.out)) hb); clear HO203; clear HO212; clear HO219; clear HO229; clear HO237; clear BK196; clear BK197; clear BK214; clear BK220; clear BK231; clear HB; have HO203 := n0_; have HO212 := n1_; have HO219 := n2_; have HO229 := n3_; have HO237 := n4_; have BK196 := n5_; have BK197 := n6_; have BK214 := n7_; have BK220 := n8_; have BK231 := n9_; have HB := n10_; clear n0_ n1_ n2_ n3_ n4_ n5_ n6_ n7_ n8_ n9_ n10_; (try clear hb); (try clear hb2); (try clear hk); (try clear hi); have hcz94_0 : w93.cell? ⟨gb231, 0, none⟩ = some (.int .i64 t225) := (blk_cell BK231.out 0).trans rfl; have hcz94_1 : w93.cell? ⟨gb231, 1, none⟩ = some (.int .i64 t226) := (blk_cell BK231.out 1).trans rfl; have hcz94_2 : w93.cell? ⟨gb231, 2, none⟩ = some (.slice Ao82 t227.length co82) := (blk_cell BK231.out 2).trans rfl; have hfz94_0 := blk_frozen BK231.out 0; have hfz94_1 := blk_frozen BK231.out 1; have hfz94_2 := blk_frozen BK231.out 2) | ((with_reducible refine gate_callee (f := 30) rfl ?_); refine goesL_ (some 74) rfl rfl Try.func30 (by kernel_rfl) rfl #[.agg #[.int .i64 t225, .int .i64 t226, .slice Ao82 t227.length co82], .int .i64 1] rfl (by (try simp only [List.map_toArray, List.map_cons, List.map_nil]); first | done | rfl | (simp only [List.length_drop, List.length_take]; rfl)) ?_; (with_reducible refine (laws_markSheet.calls k t225 t226 (fun k_ => some k_ = (.slice Ao82 t227.length co82 : Value).ownBlock) (.slice Ao82 t227.length co82) t227 1 t242 t243 w _ ?side1 ?side2 A27.out).mono ?_); (case side1 => repeat (first | (with_reducible first | exact HB.out | apply below_alloc | apply pw_below_drewN | apply below_drew1 | refine below_set ?_ GE196.out | refine below_set ?_ GE197.out | refine below_set ?_ GE214.out | refine below_set ?_ GE220.out | refine below_set ?_ GE231.out) | exact HB.out)); (case side2 => exact Kd.R_tight rfl HO229.out); rintro e w95 ⟨rfl, hy0, hb, hkp⟩; refine ⟨_, rfl, ?_⟩; have n0_ := Aside0.mk (blk_kept (by exact BK196.out) hkp (fun hs_ => (fun e_ => (Kd.R_ne HO229.out BK196.out (by decide)) e_) hs_)); have n1_ := Aside0.mk (blk_kept (by exact BK197.out) hkp (fun hs_ => (fun e_ => (Kd.R_ne HO229.out BK197.out (by decide)) e_) hs_)); have n2_ := Aside0.mk (Kd.R_mono (ok' := fun k_ => some k_ ≠ (.slice Ao83 t210.length co83 : Value).ownBlock ∧ some k_ ≠ (.slice Ao64 t217.length co64 : Value).ownBlock ∧ some k_ ≠ (.slice Ao82 t227.length co82 : Value).ownBlock ∧ some k_ ≠ (.slice Ao87 t235.length co87 : Value).ownBlock) (Kd.R_keptB (HO203.out) hkp (fun k_ hk_ hs_ => (hk_.2.2.1) hs_)) (fun k_ hk_ => ⟨hk_.1.1, hk_.1.2.1, hk_.1.2.2.1, hk_.1.2.2.2⟩)); have n3_ := Aside0.mk (Kd.R_mono (ok' := fun k_ => some k_ ≠ (v202 : Value).ownBlock ∧ some k_ ≠ (.slice Ao64 t217.length co64 : Value).ownBlock ∧ some k_ ≠ (.slice Ao82 t227.length co82 : Value).ownBlock ∧ some k_ ≠ (.slice Ao87 t235.length co87 : Value).ownBlock) (Kd.R_keptB (HO212.out) hkp (fun k_ hk_ hs_ => (hk_.2.2.1) hs_)) (fun k_ hk_ => ⟨hk_.1.1, hk_.1.2.1, hk_.1.2.2.1, hk_.1.2.2.2⟩)); have n4_ := Aside0.mk (blk_kept (by exact BK214.out) hkp (fun hs_ => (fun e_ => (Kd.R_ne HO229.out BK214.out (by decide)) e_) hs_)); have n5_ := Aside0.mk (Kd.R_mono (ok' := fun k_ => some k_ ≠ (v202 : Value).ownBlock ∧ some k_ ≠ (.slice Ao83 t210.length co83 : Value).ownBlock ∧ some k_ ≠ (.slice Ao82 t227.length co82 : Value).ownBlock ∧ some k_ ≠ (.slice Ao87 t235.length co87 : Value).ownBlock) (Kd.R_keptB (HO219.out) hkp (fun k_ hk_ hs_ => (hk_.1.2.2) hs_)) (fun k_ hk_ => ⟨hk_.1.1.1, hk_.1.1.2.1, hk_.1.1.2.2, hk_.1.2⟩)); have n6_ := Aside0.mk (blk_kept (by exact BK220.out) hkp (fun hs_ => (fun e_ => (Kd.R_ne HO229.out BK220.out (by decide)) e_) hs_)); have n7_ := Aside0.mk (Kd.R_reok rfl hy0 (fun k_ e_ => HO229.out.1 k_ e_)); have n8_ := Aside0.mk (blk_kept (by exact BK231.out) hkp (fun hs_ => (fun e_ => (Kd.R_ne HO229.out BK231.out (by decide)) e_) hs_)); have n9_ := Aside0.mk (Kd.R_mono (ok' := fun k_ => some k_ ≠ (v202 : Value).ownBlock ∧ some k_ ≠ (.slice Ao83 t210.length co83 : Value).ownBlock ∧ some k_ ≠ (.slice Ao64 t217.length co64 : Value).ownBlock ∧ some k_ ≠ (.slice Ao82 t227.length co82 : Value).ownBlock) (Kd.R_keptB (HO237.out) hkp (fun k_ hk_ hs_ => (hk_.2.2.2) hs_)) (fun k_ hk_ => ⟨hk_.1.1, hk_.1.2.1, hk_.1.2.2.1, hk_.1.2.2.2⟩)); have n10_ := Aside0.mk (hb); clear BK196; clear BK197; clear HO203; clear HO212; clear BK214; clear HO219; clear BK220; clear HO229; clear BK231; clear HO237; clear HB; have BK196 := n0_; have BK197 := n1_; have HO203 := n2_; have HO212 := n3_; have BK214 := n4_; have HO219 := n5_; have BK220 := n6_; have HO229 := n7_; have BK231 := n8_; have HO237 := n9_; have HB := n10_; clear n0_ n1_ n2_ n3_ n4_ n5_ n6_ n7_ n8_ n9_ n10_; (try clear hb); (try clear hkp); (try clear hy0); have hcz96_0 : w95.cell? ⟨gb231, 0, none⟩ = some (.int .i64 t225) := (blk_cell BK231.out 0).trans rfl; have hcz96_1 : w95.cell? ⟨gb231, 1, none⟩ = some (.int .i64 t226) := (blk_cell BK231.out 1).trans rfl; have hcz96_2 : w95.cell? ⟨gb231, 2, none⟩ = some (.slice Ao82 t227.length co82) := (blk_cell BK231.out 2).trans rfl; have hfz96_0 := blk_frozen BK231.out 0; have hfz96_1 := blk_frozen BK231.out 1; have hfz96_2 := blk_frozen BK231.out 2) | ((with_reducible refine gate_callee (f := 31) rfl ?_); refine goesL_ (some 77) rfl rfl Try.func31 (by kernel_rfl) rfl #[.agg #[.int .i64 t225, .int .i64 t226, .slice Ao82 t243.length co82], .int .i64 1] rfl (by (try simp only [List.map_toArray, List.map_cons, List.map_nil]); first | done | (rw [show t243.length = t227.length from (Kd.R_reads' HO229.out).1.symm] <;> rfl) | rfl | (simp only [List.length_drop, List.length_take]; rfl)) ?_; (with_reducible refine (laws_heldSheet.calls k t225 t226 _ _ t243 1 t244 _ ?side1 ?side2 A28.out).mono ?_); (case side1 => repeat (first | exact (Kd.R_reads' HO229.out).2.2 | (with_reducible refine Kd.C_alloc ?_ _) | (with_reducible refine Kd.C_drewN ?_ _) | (with_reducible refine Kd.C_drew ?_))); (case side2 => rw [show t243.length = t227.length from (Kd.R_reads' HO229.out).1.symm]; exact (Kd.R_reads' HO229.out).2.1); rintro e w97 ⟨rfl, hb⟩; refine ⟨_, rfl, ?_⟩; have n0_ := Aside0.mk (Kd.R_below (by exact HO203.out) hb); have n1_ := Aside0.mk (Kd.R_below (by exact HO212.out) hb); have n2_ := Aside0.mk (Kd.R_below (by exact HO219.out) hb); have n3_ := Aside0.mk (Kd.R_below (by exact HO229.out) hb); have n4_ := Aside0.mk (Kd.R_below (by exact HO237.out) hb); have n5_ := Aside0.mk (blk_below (g := gb196) (o := .cells #[.int .i64 a0_0, .int .i64 a0_1, .slice A0_2 l0_2.length c0_2] 33 (0, 0)) (by exact BK196.out) hb); have n6_ := Aside0.mk (blk_below (g := gb197) (o := .cells #[.int .i64 a1_0, .int .i64 a1_1, .int .i64 a1_2, .int .i64 a1_3] 35 (0, 0)) (by exact BK197.out) hb); have n7_ := Aside0.mk (blk_below (g := gb214) (o := .cells #[.int .i64 t208, .int .i64 t209, .slice Ao83 t210.length co83] 37 (0, 0)) (by exact BK214.out) hb); have n8_ := Aside0.mk (blk_below (g := gb220) (o := .cells #[.int .i64 t215, .int .i64 t216, .slice Ao64 t217.length co64] 37 (0, 0)) (by exact BK220.out) hb); have n9_ := Aside0.mk (blk_below (g := gb231) (o := .cells #[.int .i64 t225, .int .i64 t226, .slice Ao82 t227.length co82] 37 (0, 0)) (by exact BK231.out) hb); have n10_ := Aside0.mk (below_step (by repeat (first | (with_reducible first | exact HB.out | apply below_alloc | apply pw_below_drewN | apply below_drew1 | refine below_set ?_ GE196.out | refine below_set ?_ GE197.out | refine below_set ?_ GE214.out | refine below_set ?_ GE220.out | refine below_set ?_ GE231.out) | exact HB.out)) hb); clear HO203; clear HO212; clear HO219; clear HO229; clear HO237; clear BK196; clear BK197; clear BK214; clear BK220; clear BK231; clear HB; have HO203 := n0_; have HO212 := n1_; have HO219 := n2_; have HO229 := n3_; have HO237 := n4_; have BK196 := n5_; have BK197 := n6_; have BK214 := n7_; have BK220 := n8_; have BK231 := n9_; have HB := n10_; clear n0_ n1_ n2_ n3_ n4_ n5_ n6_ n7_ n8_ n9_ n10_; (try clear hb); (try clear hb2); (try clear hk); (try clear hi)))
             have n0_ := Aside0.mk (Kd.R_drew HO203.out)
             have n1_ := Aside0.mk (Kd.R_drew HO212.out)
             have n2_ := Aside0.mk (Kd.R_drew HO219.out)
             have n3_ := Aside0.mk (Kd.R_drew HO229.out)
             have n4_ := Aside0.mk (Kd.R_drew HO237.out)
             have n5_ := Aside0.mk (blk_drew BK196.out)
             have n6_ := Aside0.mk (blk_drew BK197.out)
             have n7_ := Aside0.mk (blk_drew BK214.out)
             have n8_ := Aside0.mk (blk_drew BK220.out)
             have n9_ := Aside0.mk (blk_drew BK231.out)
             have n10_ := Aside0.mk (below_drew1 HB.out)
             clear HO203
             clear HO212
             clear HO219
             clear HO229
             clear HO237
             clear BK196
             clear BK197
             clear BK214
             clear BK220
             clear BK231
             clear HB
             have HO203 := n0_
             have HO212 := n1_
             have HO219 := n2_
             have HO229 := n3_
             have HO237 := n4_
             have BK196 := n5_
             have BK197 := n6_
             have BK214 := n7_
             have BK220 := n8_
             have BK231 := n9_
             have HB := n10_
             clear n0_ n1_ n2_ n3_ n4_ n5_ n6_ n7_ n8_ n9_ n10_
             refine start_ (n := 12) (S := fun w' => True) (ds := []) #[false, false, false, false, false, false, false, false, false, false, false, false] (by kernel_rfl) rfl rfl trivial (fun hHeld => ?_); refine with_tabW laws_FnExactPaintBox.tab24 laws_FnExactPaintBox.bits24 (fun HT_ HW_ => ?_)
             generalize w97.drew = w98 at HO203 HO212 HO219 HO229 HO237 BK196 BK197 BK214 BK220 BK231 HB hHeld ⊢
             refine pure_ (i := 4) (N := some 88) (v := ?_) (a' := ?_) #[false, false, false, false, true, false, false, false, false, false, false, false] rfl rfl (any_of HT_.out (by kernel_rfl)) (fun _ _ _ h => h) (Or.inl ⟨by rfl, ?_⟩) ?_ ?_
             rotate_left
             ·intro w'
              go_simp
              with_reducible rfl
             rotate_left
             ·simp only [Act.put, List.setIfInBounds_toArray, List.set_cons_zero, List.set_cons_succ, i64_w, i32_w]
              rfl
             refine inv_at [0, 1, 2, 3, 5, 6, 7, 8, 9, 10, 11] (fun a0_ b a w' => ∃ (v248 : Value) (v257 : Value) (gb260 : Nat) (m1_ : Value) (m5_ : Value) (m6_ : Value) (m7_ : Value) (m9_ : Value), a = putSel a0_ b [(0, 84, .agg #[.int .i64 a0_0, .int .i64 a0_1, .slice A0_2 l0_2.length c0_2]), (1, 85, m1_), (2, 86, .agg #[.int .i64 a1_0, .int .i64 a1_1, .int .i64 a1_2, .int .i64 a1_3]), (3, 87, .agg #[.int .i64 t250, .int .i64 t251, .int .i64 t252, .int .i64 t253]), (5, 89, m5_), (6, 83, m6_), (7, 90, m7_), (8, 91, .bool t259), (9, 16, m9_), (11, 17, .bool t259)] ∧ (b 1 = false → Kd.R (Kd.int .i64) 3 w' w.heap.size (fun k_ => some k_ ≠ (.slice Ao83 t210.length co83 : Value).ownBlock ∧ some k_ ≠ (.slice Ao64 t217.length co64 : Value).ownBlock ∧ some k_ ≠ (.slice Ao82 t227.length co82 : Value).ownBlock ∧ some k_ ≠ (.slice Ao87 t235.length co87 : Value).ownBlock) v202 t201) ∧ (b 1 = false → Kd.R (Kd.int .i64) 3 w' w.heap.size (fun k_ => some k_ ≠ (v202 : Value).ownBlock ∧ some k_ ≠ (.slice Ao64 t217.length co64 : Value).ownBlock ∧ some k_ ≠ (.slice Ao82 t227.length co82 : Value).ownBlock ∧ some k_ ≠ (.slice Ao87 t235.length co87 : Value).ownBlock) (.slice Ao83 t210.length co83) t210) ∧ (b 1 = false → Kd.R (Kd.int .i64) 3 w' w.heap.size (fun k_ => some k_ ≠ (v202 : Value).ownBlock ∧ some k_ ≠ (.slice Ao83 t210.length co83 : Value).ownBlock ∧ some k_ ≠ (.slice Ao82 t227.length co82 : Value).ownBlock ∧ some k_ ≠ (.slice Ao87 t235.length co87 : Value).ownBlock) (.slice Ao64 t217.length co64) t240) ∧ (b 1 = false → Kd.R (Kd.int .i64) 3 w' w.heap.size (fun k_ => some k_ ≠ (v202 : Value).ownBlock ∧ some k_ ≠ (.slice Ao83 t210.length co83 : Value).ownBlock ∧ some k_ ≠ (.slice Ao64 t217.length co64 : Value).ownBlock ∧ some k_ ≠ (.slice Ao87 t235.length co87 : Value).ownBlock) (.slice Ao82 t227.length co82) t243) ∧ (b 1 = false → Kd.R (Kd.int .i64) 3 w' w.heap.size (fun k_ => some k_ ≠ (v202 : Value).ownBlock ∧ some k_ ≠ (.slice Ao83 t210.length co83 : Value).ownBlock ∧ some k_ ≠ (.slice Ao64 t217.length co64 : Value).ownBlock ∧ some k_ ≠ (.slice Ao82 t227.length co82 : Value).ownBlock) (.slice Ao87 t235.length co87) t235) ∧ (w'.heap[gb196]? = some (.cells #[.int .i64 a0_0, .int .i64 a0_1, .slice A0_2 l0_2.length c0_2] 33 (0, 0))) ∧ (w'.heap[gb197]? = some (.cells #[.int .i64 a1_0, .int .i64 a1_1, .int .i64 a1_2, .int .i64 a1_3] 35 (0, 0))) ∧ (w'.heap[gb214]? = some (.cells #[.int .i64 t208, .int .i64 t209, .slice Ao83 t210.length co83] 37 (0, 0))) ∧ (w'.heap[gb220]? = some (.cells #[.int .i64 t215, .int .i64 t216, .slice Ao64 t217.length co64] 37 (0, 0))) ∧ (w'.heap[gb231]? = some (.cells #[.int .i64 t225, .int .i64 t226, .slice Ao82 t227.length co82] 37 (0, 0))) ∧ (Below w.heap.size w w') ∧ (b 1 = true → b 5 = false → Kd.R (Kd.int .i64) 3 w' w.heap.size (fun k_ => some k_ ≠ (.slice Ao83 t210.length co83 : Value).ownBlock ∧ some k_ ≠ (.slice Ao64 t217.length co64 : Value).ownBlock ∧ some k_ ≠ (.slice Ao82 t227.length co82 : Value).ownBlock ∧ some k_ ≠ (.slice Ao87 t235.length co87 : Value).ownBlock ∧ some k_ ≠ (v248 : Value).ownBlock) v202 t201) ∧ (b 1 = true → b 5 = false → Kd.R (Kd.int .i64) 3 w' w.heap.size (fun k_ => some k_ ≠ (v202 : Value).ownBlock ∧ some k_ ≠ (.slice Ao64 t217.length co64 : Value).ownBlock ∧ some k_ ≠ (.slice Ao82 t227.length co82 : Value).ownBlock ∧ some k_ ≠ (.slice Ao87 t235.length co87 : Value).ownBlock ∧ some k_ ≠ (v248 : Value).ownBlock) (.slice Ao83 t210.length co83) t210) ∧ (b 1 = true → b 5 = false → Kd.R (Kd.int .i64) 3 w' w.heap.size (fun k_ => some k_ ≠ (v202 : Value).ownBlock ∧ some k_ ≠ (.slice Ao83 t210.length co83 : Value).ownBlock ∧ some k_ ≠ (.slice Ao82 t227.length co82 : Value).ownBlock ∧ some k_ ≠ (.slice Ao87 t235.length co87 : Value).ownBlock ∧ some k_ ≠ (v248 : Value).ownBlock) (.slice Ao64 t217.length co64) t240) ∧ (b 1 = true → b 5 = false → Kd.R (Kd.int .i64) 3 w' w.heap.size (fun k_ => some k_ ≠ (v202 : Value).ownBlock ∧ some k_ ≠ (.slice Ao83 t210.length co83 : Value).ownBlock ∧ some k_ ≠ (.slice Ao64 t217.length co64 : Value).ownBlock ∧ some k_ ≠ (.slice Ao87 t235.length co87 : Value).ownBlock ∧ some k_ ≠ (v248 : Value).ownBlock) (.slice Ao82 t227.length co82) t243) ∧ (b 1 = true → b 5 = false → Kd.R (Kd.int .i64) 3 w' w.heap.size (fun k_ => some k_ ≠ (v202 : Value).ownBlock ∧ some k_ ≠ (.slice Ao83 t210.length co83 : Value).ownBlock ∧ some k_ ≠ (.slice Ao64 t217.length co64 : Value).ownBlock ∧ some k_ ≠ (.slice Ao82 t227.length co82 : Value).ownBlock ∧ some k_ ≠ (v248 : Value).ownBlock) (.slice Ao87 t235.length co87) t235) ∧ (b 1 = true → b 5 = false → Kd.R (Kd.int .i64) 3 w' w.heap.size (fun k_ => some k_ ≠ (v202 : Value).ownBlock ∧ some k_ ≠ (.slice Ao83 t210.length co83 : Value).ownBlock ∧ some k_ ≠ (.slice Ao64 t217.length co64 : Value).ownBlock ∧ some k_ ≠ (.slice Ao82 t227.length co82 : Value).ownBlock ∧ some k_ ≠ (.slice Ao87 t235.length co87 : Value).ownBlock) v248 t247) ∧ (b 5 = true → Kd.R (Kd.int .i64) 3 w' w.heap.size (fun k_ => some k_ ≠ (.slice Ao83 t210.length co83 : Value).ownBlock ∧ some k_ ≠ (.slice Ao64 t217.length co64 : Value).ownBlock ∧ some k_ ≠ (.slice Ao82 t227.length co82 : Value).ownBlock ∧ some k_ ≠ (.slice Ao87 t235.length co87 : Value).ownBlock ∧ some k_ ≠ (v248 : Value).ownBlock ∧ some k_ ≠ (v257 : Value).ownBlock) v202 t201) ∧ (b 5 = true → Kd.R (Kd.int .i64) 3 w' w.heap.size (fun k_ => some k_ ≠ (v202 : Value).ownBlock ∧ some k_ ≠ (.slice Ao64 t217.length co64 : Value).ownBlock ∧ some k_ ≠ (.slice Ao82 t227.length co82 : Value).ownBlock ∧ some k_ ≠ (.slice Ao87 t235.length co87 : Value).ownBlock ∧ some k_ ≠ (v248 : Value).ownBlock ∧ some k_ ≠ (v257 : Value).ownBlock) (.slice Ao83 t210.length co83) t210) ∧ (b 5 = true → Kd.R (Kd.int .i64) 3 w' w.heap.size (fun k_ => some k_ ≠ (v202 : Value).ownBlock ∧ some k_ ≠ (.slice Ao83 t210.length co83 : Value).ownBlock ∧ some k_ ≠ (.slice Ao82 t227.length co82 : Value).ownBlock ∧ some k_ ≠ (.slice Ao87 t235.length co87 : Value).ownBlock ∧ some k_ ≠ (v248 : Value).ownBlock ∧ some k_ ≠ (v257 : Value).ownBlock) (.slice Ao64 t217.length co64) t240) ∧ (b 5 = true → Kd.R (Kd.int .i64) 3 w' w.heap.size (fun k_ => some k_ ≠ (v202 : Value).ownBlock ∧ some k_ ≠ (.slice Ao83 t210.length co83 : Value).ownBlock ∧ some k_ ≠ (.slice Ao64 t217.length co64 : Value).ownBlock ∧ some k_ ≠ (.slice Ao87 t235.length co87 : Value).ownBlock ∧ some k_ ≠ (v248 : Value).ownBlock ∧ some k_ ≠ (v257 : Value).ownBlock) (.slice Ao82 t227.length co82) t243) ∧ (b 5 = true → Kd.R (Kd.int .i64) 3 w' w.heap.size (fun k_ => some k_ ≠ (v202 : Value).ownBlock ∧ some k_ ≠ (.slice Ao83 t210.length co83 : Value).ownBlock ∧ some k_ ≠ (.slice Ao64 t217.length co64 : Value).ownBlock ∧ some k_ ≠ (.slice Ao82 t227.length co82 : Value).ownBlock ∧ some k_ ≠ (v248 : Value).ownBlock ∧ some k_ ≠ (v257 : Value).ownBlock) (.slice Ao87 t235.length co87) t235) ∧ (b 5 = true → Kd.R (Kd.int .i64) 3 w' w.heap.size (fun k_ => some k_ ≠ (v202 : Value).ownBlock ∧ some k_ ≠ (.slice Ao83 t210.length co83 : Value).ownBlock ∧ some k_ ≠ (.slice Ao64 t217.length co64 : Value).ownBlock ∧ some k_ ≠ (.slice Ao82 t227.length co82 : Value).ownBlock ∧ some k_ ≠ (.slice Ao87 t235.length co87 : Value).ownBlock ∧ some k_ ≠ (v257 : Value).ownBlock) v248 t247) ∧ (b 5 = true → Kd.R (Kd.int .i64) 3 w' w.heap.size (fun k_ => some k_ ≠ (v202 : Value).ownBlock ∧ some k_ ≠ (.slice Ao83 t210.length co83 : Value).ownBlock ∧ some k_ ≠ (.slice Ao64 t217.length co64 : Value).ownBlock ∧ some k_ ≠ (.slice Ao82 t227.length co82 : Value).ownBlock ∧ some k_ ≠ (.slice Ao87 t235.length co87 : Value).ownBlock ∧ some k_ ≠ (v248 : Value).ownBlock) v257 t256) ∧ (b 9 = true → b 10 = false → w'.heap[gb260]? = some (.cells #[.int .i64 0, .int .i64 0, .slice none 0 0] 37 (0, 0))) ∧ (b 9 = true → w.heap.size ≤ gb260) ∧ (b 9 = true → w.heap.size ≤ gb260) ∧ (b 9 = true → gb196 ≠ gb260) ∧ (b 9 = true → gb260 ≠ gb196) ∧ (b 9 = true → gb197 ≠ gb260) ∧ (b 9 = true → gb260 ≠ gb197) ∧ (b 9 = true → gb214 ≠ gb260) ∧ (b 9 = true → gb260 ≠ gb214) ∧ (b 9 = true → gb220 ≠ gb260) ∧ (b 9 = true → gb260 ≠ gb220) ∧ (b 9 = true → gb231 ≠ gb260) ∧ (b 9 = true → gb260 ≠ gb231) ∧ (b 10 = true → w'.heap[gb260]? = some (.cells #[.int .i64 t254, .int .i64 t255, v257] 37 (0, 0))) ∧ (b 1 = true → (m1_ : Value) = .agg #[.int .i64 t245, .int .i64 t246, v248]) ∧ (b 5 = true → (m5_ : Value) = .tuple #[.agg #[.int .i64 t254, .int .i64 t255, v257], .bool t259]) ∧ (b 6 = true → (m6_ : Value) = .tuple #[.agg #[.int .i64 t254, .int .i64 t255, v257], .bool t259]) ∧ (b 7 = true → (m7_ : Value) = .agg #[.int .i64 t254, .int .i64 t255, v257]) ∧ (b 9 = true → (m9_ : Value) = .pointer (some ⟨gb260, 0, none⟩))) HT_.out HW_.out (by kernel_rfl) (by kernel_rfl) ?_ ?_ ?_
             ·exact ⟨.bool false, .bool false, 0, .bool false, .bool false, .bool false, .bool false, .bool false, by simp only [putSel, Bool.false_eq_true, if_false], fun _ => HO203.out, fun _ => HO212.out, fun _ => HO219.out, fun _ => HO229.out, fun _ => HO237.out, BK196.out, BK197.out, BK214.out, BK220.out, BK231.out, HB.out, fun h_ => absurd h_ (by decide), fun h_ => absurd h_ (by decide), fun h_ => absurd h_ (by decide), fun h_ => absurd h_ (by decide), fun h_ => absurd h_ (by decide), fun h_ => absurd h_ (by decide), fun h_ => absurd h_ (by decide), fun h_ => absurd h_ (by decide), fun h_ => absurd h_ (by decide), fun h_ => absurd h_ (by decide), fun h_ => absurd h_ (by decide), fun h_ => absurd h_ (by decide), fun h_ => absurd h_ (by decide), fun h_ => absurd h_ (by decide), fun h_ => absurd h_ (by decide), fun h_ => absurd h_ (by decide), fun h_ => absurd h_ (by decide), fun h_ => absurd h_ (by decide), fun h_ => absurd h_ (by decide), fun h_ => absurd h_ (by decide), fun h_ => absurd h_ (by decide), fun h_ => absurd h_ (by decide), fun h_ => absurd h_ (by decide), fun h_ => absurd h_ (by decide), fun h_ => absurd h_ (by decide), fun h_ => absurd h_ (by decide), fun h_ => absurd h_ (by decide), fun h_ => absurd h_ (by decide), fun h_ => absurd h_ (by decide), fun h_ => absurd h_ (by decide), fun h_ => absurd h_ (by decide), fun h_ => absurd h_ (by decide)⟩
             ·skip
              clear BK196 BK197 BK214 BK220 BK231 HB HO203 HO212 HO219 HO229 HO237
              refine steps_cons ?_ ?_
              ·rintro b a w' ⟨v248, v257, gb260, m1_, m5_, m6_, m7_, m9_, ha, Q_HO203, Q_HO212, Q_HO219, Q_HO229, Q_HO237, Q_BK196, Q_BK197, Q_BK214, Q_BK220, Q_BK231, Q_HB, Q_HO203_e1, Q_HO212_e1, Q_HO219_e1, Q_HO229_e1, Q_HO237_e1, Q_HO249, Q_HO203_e5, Q_HO212_e5, Q_HO219_e5, Q_HO229_e5, Q_HO237_e5, Q_HO249_e5, Q_HO258, Q_BK260, Q_GW260, Q_GE260, Q_NB196_260, Q_NB260_196, Q_NB197_260, Q_NB260_197, Q_NB214_260, Q_NB260_214, Q_NB220_260, Q_NB260_220, Q_NB231_260, Q_NB260_231, Q_BK260_e10, Q_X1_, Q_X5_, Q_X6_, Q_X7_, Q_X9_⟩ hb_ hon hoff
               refine ⟨_, rfl, fun K hK => ?_⟩
               have e3 : a.tmps[3]? = some (.pointer (some ⟨gb196, 0, none⟩)) := by rw [ha]; exact (putSel_off rfl).trans rfl
               replace ha := Aside0.mk ha
               have HO203 := Aside0.mk (Q_HO203 (hoff 1 (by kernel_rfl)))
               have HO212 := Aside0.mk (Q_HO212 (hoff 1 (by kernel_rfl)))
               have HO219 := Aside0.mk (Q_HO219 (hoff 1 (by kernel_rfl)))
               have HO229 := Aside0.mk (Q_HO229 (hoff 1 (by kernel_rfl)))
               have HO237 := Aside0.mk (Q_HO237 (hoff 1 (by kernel_rfl)))
               have BK196 := Aside0.mk Q_BK196
               have BK197 := Aside0.mk Q_BK197
               have BK214 := Aside0.mk Q_BK214
               have BK220 := Aside0.mk Q_BK220
               have BK231 := Aside0.mk Q_BK231
               have HB := Aside0.mk Q_HB
               have hc0_ : w'.cell? ⟨gb196, 0, none⟩ = some (.int .i64 a0_0) := (blk_cell BK196.out 0).trans rfl
               have hc1_ : w'.cell? ⟨gb196, 1, none⟩ = some (.int .i64 a0_1) := (blk_cell BK196.out 1).trans rfl
               have hc2_ : w'.cell? ⟨gb196, 2, none⟩ = some (.slice A0_2 l0_2.length c0_2) := (blk_cell BK196.out 2).trans rfl
               refine value_ (w1 := w') (v := .agg #[.int .i64 a0_0, .int .i64 a0_1, .slice A0_2 l0_2.length c0_2]) (by rfl) rfl ?_ ?_
               ·go_simp
                (try simp only [i64_w])
                try rfl
               refine hK.out _ _ ⟨v248, v257, gb260, m1_, m5_, m6_, m7_, m9_, (by rw [ha.out]; exact putSel_upk 0 hb_ rfl rfl rfl), Q_HO203, Q_HO212, Q_HO219, Q_HO229, Q_HO237, Q_BK196, Q_BK197, Q_BK214, Q_BK220, Q_BK231, Q_HB, fun h0_ _ => absurd ((hoff 1 (by kernel_rfl)).symm.trans h0_) (by decide), fun h0_ _ => absurd ((hoff 1 (by kernel_rfl)).symm.trans h0_) (by decide), fun h0_ _ => absurd ((hoff 1 (by kernel_rfl)).symm.trans h0_) (by decide), fun h0_ _ => absurd ((hoff 1 (by kernel_rfl)).symm.trans h0_) (by decide), fun h0_ _ => absurd ((hoff 1 (by kernel_rfl)).symm.trans h0_) (by decide), fun h0_ _ => absurd ((hoff 1 (by kernel_rfl)).symm.trans h0_) (by decide), fun h0_ => absurd ((hoff 5 (by kernel_rfl)).symm.trans h0_) (by decide), fun h0_ => absurd ((hoff 5 (by kernel_rfl)).symm.trans h0_) (by decide), fun h0_ => absurd ((hoff 5 (by kernel_rfl)).symm.trans h0_) (by decide), fun h0_ => absurd ((hoff 5 (by kernel_rfl)).symm.trans h0_) (by decide), fun h0_ => absurd ((hoff 5 (by kernel_rfl)).symm.trans h0_) (by decide), fun h0_ => absurd ((hoff 5 (by kernel_rfl)).symm.trans h0_) (by decide), fun h0_ => absurd ((hoff 5 (by kernel_rfl)).symm.trans h0_) (by decide), Q_BK260, Q_GW260, Q_GE260, Q_NB196_260, Q_NB260_196, Q_NB197_260, Q_NB260_197, Q_NB214_260, Q_NB260_214, Q_NB220_260, Q_NB260_220, Q_NB231_260, Q_NB260_231, fun h0_ => absurd ((hoff 10 (by kernel_rfl)).symm.trans h0_) (by decide), fun h0_ => absurd ((hoff 1 (by kernel_rfl)).symm.trans h0_) (by decide), fun h0_ => absurd ((hoff 5 (by kernel_rfl)).symm.trans h0_) (by decide), fun h0_ => absurd ((hoff 6 (by kernel_rfl)).symm.trans h0_) (by decide), fun h0_ => absurd ((hoff 7 (by kernel_rfl)).symm.trans h0_) (by decide), Q_X9_⟩
              refine steps_cons ?_ ?_
              ·rintro b a w' ⟨v248, v257, gb260, m1_, m5_, m6_, m7_, m9_, ha, Q_HO203, Q_HO212, Q_HO219, Q_HO229, Q_HO237, Q_BK196, Q_BK197, Q_BK214, Q_BK220, Q_BK231, Q_HB, Q_HO203_e1, Q_HO212_e1, Q_HO219_e1, Q_HO229_e1, Q_HO237_e1, Q_HO249, Q_HO203_e5, Q_HO212_e5, Q_HO219_e5, Q_HO229_e5, Q_HO237_e5, Q_HO249_e5, Q_HO258, Q_BK260, Q_GW260, Q_GE260, Q_NB196_260, Q_NB260_196, Q_NB197_260, Q_NB260_197, Q_NB214_260, Q_NB260_214, Q_NB220_260, Q_NB260_220, Q_NB231_260, Q_NB260_231, Q_BK260_e10, Q_X1_, Q_X5_, Q_X6_, Q_X7_, Q_X9_⟩ hb_ hon hoff
               refine ⟨_, rfl, fun K hK => ?_⟩
               have e84 : a.tmps[84]? = some (.agg #[.int .i64 a0_0, .int .i64 a0_1, .slice A0_2 l0_2.length c0_2]) := by rw [ha]; exact putSel_on (e := (0, 84, .agg #[.int .i64 a0_0, .int .i64 a0_1, .slice A0_2 l0_2.length c0_2])) 0 rfl rfl (hon 0 (by kernel_rfl)) rfl
               replace ha := Aside0.mk ha
               have HO203 := Aside0.mk (Q_HO203 hb_)
               have HO212 := Aside0.mk (Q_HO212 hb_)
               have HO219 := Aside0.mk (Q_HO219 hb_)
               have HO229 := Aside0.mk (Q_HO229 hb_)
               have HO237 := Aside0.mk (Q_HO237 hb_)
               have BK196 := Aside0.mk Q_BK196
               have BK197 := Aside0.mk Q_BK197
               have BK214 := Aside0.mk Q_BK214
               have BK220 := Aside0.mk Q_BK220
               have BK231 := Aside0.mk Q_BK231
               have HB := Aside0.mk Q_HB
               refine goes_ Try.func26 (by kernel_rfl) rfl #[.agg #[.int .i64 a0_0, .int .i64 a0_1, .slice A0_2 l0_2.length c0_2]] (by rfl) rfl rfl (by first | (simp only [List.map_toArray, List.map_cons, List.map_nil, Act.eval, Array.getD_eq_getD_getElem?, Option.getD_some, e84]; done) | (simp only [List.map_toArray, List.map_cons, List.map_nil, Act.eval, Array.getD_eq_getD_getElem?, Option.getD_some, e84]; rfl)) ?_
               with_reducible refine (laws_toSheet.calls k a0_0 a0_1 _ _ l0_2 t245 t246 t247 _ ?side1 ?side2 A31.out).mono ?_
               (case side1 => repeat (first | exact (Kd.C_below HR0_2.out HB.out) | (with_reducible refine Kd.C_alloc ?_ _) | (with_reducible refine Kd.C_drewN ?_ _) | (with_reducible refine Kd.C_drew ?_)))
               (case side2 => exact HC0_2.out)
               rintro e w99 ⟨v248, rfl, ho0, hb⟩
               refine ⟨_, rfl, ?_⟩
               have n0_ := Aside0.mk (Kd.R_elder' (by exact HO203.out) (Kd.R_base ho0) hb)
               have n1_ := Aside0.mk (Kd.R_elder' (by exact HO212.out) (Kd.R_base ho0) hb)
               have n2_ := Aside0.mk (Kd.R_elder' (by exact HO219.out) (Kd.R_base ho0) hb)
               have n3_ := Aside0.mk (Kd.R_elder' (by exact HO229.out) (Kd.R_base ho0) hb)
               have n4_ := Aside0.mk (Kd.R_elder' (by exact HO237.out) (Kd.R_base ho0) hb)
               have n5_ := Aside0.mk (Kd.R_lower (Kd.R_new' (Kd.R_new' (Kd.R_new' (Kd.R_new' (Kd.R_new' ho0 (Kd.R_lt (by exact HO203.out))) (Kd.R_lt (by exact HO212.out))) (Kd.R_lt (by exact HO219.out))) (Kd.R_lt (by exact HO229.out))) (Kd.R_lt (by exact HO237.out))) (below_size (by repeat (first | (with_reducible first | exact HB.out | apply below_alloc | apply pw_below_drewN | apply below_drew1 | refine below_set ?_ GE196.out | refine below_set ?_ GE197.out | refine below_set ?_ GE214.out | refine below_set ?_ GE220.out | refine below_set ?_ GE231.out) | exact HB.out))))
               have n6_ := Aside0.mk (blk_below (g := gb196) (o := .cells #[.int .i64 a0_0, .int .i64 a0_1, .slice A0_2 l0_2.length c0_2] 33 (0, 0)) (by exact BK196.out) hb)
               have n7_ := Aside0.mk (blk_below (g := gb197) (o := .cells #[.int .i64 a1_0, .int .i64 a1_1, .int .i64 a1_2, .int .i64 a1_3] 35 (0, 0)) (by exact BK197.out) hb)
               have n8_ := Aside0.mk (blk_below (g := gb214) (o := .cells #[.int .i64 t208, .int .i64 t209, .slice Ao83 t210.length co83] 37 (0, 0)) (by exact BK214.out) hb)
               have n9_ := Aside0.mk (blk_below (g := gb220) (o := .cells #[.int .i64 t215, .int .i64 t216, .slice Ao64 t217.length co64] 37 (0, 0)) (by exact BK220.out) hb)
               have n10_ := Aside0.mk (blk_below (g := gb231) (o := .cells #[.int .i64 t225, .int .i64 t226, .slice Ao82 t227.length co82] 37 (0, 0)) (by exact BK231.out) hb)
               have n11_ := Aside0.mk (below_step (by repeat (first | (with_reducible first | exact HB.out | apply below_alloc | apply pw_below_drewN | apply below_drew1 | refine below_set ?_ GE196.out | refine below_set ?_ GE197.out | refine below_set ?_ GE214.out | refine below_set ?_ GE220.out | refine below_set ?_ GE231.out) | exact HB.out)) hb)
               have z_BK260 := fun (h0_ : b 9 = true) (h1_ : b 10 = false) => (show w99.heap[gb260]? = some (.cells #[.int .i64 0, .int .i64 0, .slice none 0 0] 37 (0, 0)) from by first | exact (blk_below (g := gb260) (o := .cells #[.int .i64 0, .int .i64 0, .slice none 0 0] 37 (0, 0)) (by exact (Q_BK260 h0_ h1_)) hb))
               clear HO203
               clear HO212
               clear HO219
               clear HO229
               clear HO237
               clear BK196
               clear BK197
               clear BK214
               clear BK220
               clear BK231
               clear HB
               have HO203 := n0_
               have HO212 := n1_
               have HO219 := n2_
               have HO229 := n3_
               have HO237 := n4_
               have HO249 := n5_
               have BK196 := n6_
               have BK197 := n7_
               have BK214 := n8_
               have BK220 := n9_
               have BK231 := n10_
               have HB := n11_
               clear n0_ n1_ n2_ n3_ n4_ n5_ n6_ n7_ n8_ n9_ n10_ n11_
               (try clear hb)
               (try clear hb2)
               (try clear hk)
               (try clear hi)
               (try clear ho0)
               refine hK.out _ _ ⟨v248, v257, gb260, (.agg #[.int .i64 t245, .int .i64 t246, v248]), m5_, m6_, m7_, m9_, (by rw [ha.out]; exact putSel_upk 1 hb_ rfl rfl rfl), fun h0_ => absurd ((up_self b 1).symm.trans h0_) (by decide), fun h0_ => absurd ((up_self b 1).symm.trans h0_) (by decide), fun h0_ => absurd ((up_self b 1).symm.trans h0_) (by decide), fun h0_ => absurd ((up_self b 1).symm.trans h0_) (by decide), fun h0_ => absurd ((up_self b 1).symm.trans h0_) (by decide), (by exact BK196.out), (by exact BK197.out), (by exact BK214.out), (by exact BK220.out), (by exact BK231.out), (by repeat (first | (with_reducible first | exact HB.out | apply below_alloc | apply pw_below_drewN | apply below_drew1 | refine below_set ?_ GE196.out | refine below_set ?_ GE197.out | refine below_set ?_ GE214.out | refine below_set ?_ GE220.out | refine below_set ?_ GE231.out) | exact HB.out)), fun _ _ => (by exact Kd.R_mono HO203.out (fun _ hk => ⟨hk.1.1, ⟨hk.1.2.1, ⟨hk.1.2.2.1, ⟨hk.1.2.2.2, hk.2⟩⟩⟩⟩)), fun _ _ => (by exact Kd.R_mono HO212.out (fun _ hk => ⟨hk.1.1, ⟨hk.1.2.1, ⟨hk.1.2.2.1, ⟨hk.1.2.2.2, hk.2⟩⟩⟩⟩)), fun _ _ => (by exact Kd.R_mono HO219.out (fun _ hk => ⟨hk.1.1, ⟨hk.1.2.1, ⟨hk.1.2.2.1, ⟨hk.1.2.2.2, hk.2⟩⟩⟩⟩)), fun _ _ => (by exact Kd.R_mono HO229.out (fun _ hk => ⟨hk.1.1, ⟨hk.1.2.1, ⟨hk.1.2.2.1, ⟨hk.1.2.2.2, hk.2⟩⟩⟩⟩)), fun _ _ => (by exact Kd.R_mono HO237.out (fun _ hk => ⟨hk.1.1, ⟨hk.1.2.1, ⟨hk.1.2.2.1, ⟨hk.1.2.2.2, hk.2⟩⟩⟩⟩)), fun _ _ => (by exact Kd.R_mono HO249.out (fun _ hk => ⟨hk.1.1.1.1.2, ⟨hk.1.1.1.2, ⟨hk.1.1.2, ⟨hk.1.2, hk.2⟩⟩⟩⟩)), fun h0_ => absurd ((hoff 5 (by kernel_rfl)).symm.trans h0_) (by decide), fun h0_ => absurd ((hoff 5 (by kernel_rfl)).symm.trans h0_) (by decide), fun h0_ => absurd ((hoff 5 (by kernel_rfl)).symm.trans h0_) (by decide), fun h0_ => absurd ((hoff 5 (by kernel_rfl)).symm.trans h0_) (by decide), fun h0_ => absurd ((hoff 5 (by kernel_rfl)).symm.trans h0_) (by decide), fun h0_ => absurd ((hoff 5 (by kernel_rfl)).symm.trans h0_) (by decide), fun h0_ => absurd ((hoff 5 (by kernel_rfl)).symm.trans h0_) (by decide), z_BK260, Q_GW260, Q_GE260, Q_NB196_260, Q_NB260_196, Q_NB197_260, Q_NB260_197, Q_NB214_260, Q_NB260_214, Q_NB220_260, Q_NB260_220, Q_NB231_260, Q_NB260_231, fun h0_ => absurd ((hoff 10 (by kernel_rfl)).symm.trans h0_) (by decide), fun _ => rfl, fun h0_ => absurd ((hoff 5 (by kernel_rfl)).symm.trans h0_) (by decide), fun h0_ => absurd ((hoff 6 (by kernel_rfl)).symm.trans h0_) (by decide), fun h0_ => absurd ((hoff 7 (by kernel_rfl)).symm.trans h0_) (by decide), Q_X9_⟩
              refine steps_cons ?_ ?_
              ·rintro b a w' ⟨v248, v257, gb260, m1_, m5_, m6_, m7_, m9_, ha, Q_HO203, Q_HO212, Q_HO219, Q_HO229, Q_HO237, Q_BK196, Q_BK197, Q_BK214, Q_BK220, Q_BK231, Q_HB, Q_HO203_e1, Q_HO212_e1, Q_HO219_e1, Q_HO229_e1, Q_HO237_e1, Q_HO249, Q_HO203_e5, Q_HO212_e5, Q_HO219_e5, Q_HO229_e5, Q_HO237_e5, Q_HO249_e5, Q_HO258, Q_BK260, Q_GW260, Q_GE260, Q_NB196_260, Q_NB260_196, Q_NB197_260, Q_NB260_197, Q_NB214_260, Q_NB260_214, Q_NB220_260, Q_NB260_220, Q_NB231_260, Q_NB260_231, Q_BK260_e10, Q_X1_, Q_X5_, Q_X6_, Q_X7_, Q_X9_⟩ hb_ hon hoff
               refine ⟨_, rfl, fun K hK => ?_⟩
               have e4 : a.tmps[4]? = some (.pointer (some ⟨gb197, 0, none⟩)) := by rw [ha]; exact (putSel_off rfl).trans rfl
               replace ha := Aside0.mk ha
               have BK196 := Aside0.mk Q_BK196
               have BK197 := Aside0.mk Q_BK197
               have BK214 := Aside0.mk Q_BK214
               have BK220 := Aside0.mk Q_BK220
               have BK231 := Aside0.mk Q_BK231
               have HB := Aside0.mk Q_HB
               have hc0_ : w'.cell? ⟨gb197, 0, none⟩ = some (.int .i64 a1_0) := (blk_cell BK197.out 0).trans rfl
               have hc1_ : w'.cell? ⟨gb197, 1, none⟩ = some (.int .i64 a1_1) := (blk_cell BK197.out 1).trans rfl
               have hc2_ : w'.cell? ⟨gb197, 2, none⟩ = some (.int .i64 a1_2) := (blk_cell BK197.out 2).trans rfl
               have hc3_ : w'.cell? ⟨gb197, 3, none⟩ = some (.int .i64 a1_3) := (blk_cell BK197.out 3).trans rfl
               refine value_ (w1 := w') (v := .agg #[.int .i64 a1_0, .int .i64 a1_1, .int .i64 a1_2, .int .i64 a1_3]) (by rfl) rfl ?_ ?_
               ·go_simp
                (try simp only [i64_w])
                try rfl
               refine hK.out _ _ ⟨v248, v257, gb260, m1_, m5_, m6_, m7_, m9_, (by rw [ha.out]; exact putSel_upk 2 hb_ rfl rfl rfl), Q_HO203, Q_HO212, Q_HO219, Q_HO229, Q_HO237, Q_BK196, Q_BK197, Q_BK214, Q_BK220, Q_BK231, Q_HB, Q_HO203_e1, Q_HO212_e1, Q_HO219_e1, Q_HO229_e1, Q_HO237_e1, Q_HO249, fun h0_ => absurd ((hoff 5 (by kernel_rfl)).symm.trans h0_) (by decide), fun h0_ => absurd ((hoff 5 (by kernel_rfl)).symm.trans h0_) (by decide), fun h0_ => absurd ((hoff 5 (by kernel_rfl)).symm.trans h0_) (by decide), fun h0_ => absurd ((hoff 5 (by kernel_rfl)).symm.trans h0_) (by decide), fun h0_ => absurd ((hoff 5 (by kernel_rfl)).symm.trans h0_) (by decide), fun h0_ => absurd ((hoff 5 (by kernel_rfl)).symm.trans h0_) (by decide), fun h0_ => absurd ((hoff 5 (by kernel_rfl)).symm.trans h0_) (by decide), Q_BK260, Q_GW260, Q_GE260, Q_NB196_260, Q_NB260_196, Q_NB197_260, Q_NB260_197, Q_NB214_260, Q_NB260_214, Q_NB220_260, Q_NB260_220, Q_NB231_260, Q_NB260_231, fun h0_ => absurd ((hoff 10 (by kernel_rfl)).symm.trans h0_) (by decide), Q_X1_, fun h0_ => absurd ((hoff 5 (by kernel_rfl)).symm.trans h0_) (by decide), fun h0_ => absurd ((hoff 6 (by kernel_rfl)).symm.trans h0_) (by decide), fun h0_ => absurd ((hoff 7 (by kernel_rfl)).symm.trans h0_) (by decide), Q_X9_⟩
              refine steps_cons ?_ ?_
              ·rintro b a w' ⟨v248, v257, gb260, m1_, m5_, m6_, m7_, m9_, ha, Q_HO203, Q_HO212, Q_HO219, Q_HO229, Q_HO237, Q_BK196, Q_BK197, Q_BK214, Q_BK220, Q_BK231, Q_HB, Q_HO203_e1, Q_HO212_e1, Q_HO219_e1, Q_HO229_e1, Q_HO237_e1, Q_HO249, Q_HO203_e5, Q_HO212_e5, Q_HO219_e5, Q_HO229_e5, Q_HO237_e5, Q_HO249_e5, Q_HO258, Q_BK260, Q_GW260, Q_GE260, Q_NB196_260, Q_NB260_196, Q_NB197_260, Q_NB260_197, Q_NB214_260, Q_NB260_214, Q_NB220_260, Q_NB260_220, Q_NB231_260, Q_NB260_231, Q_BK260_e10, Q_X1_, Q_X5_, Q_X6_, Q_X7_, Q_X9_⟩ hb_ hon hoff
               refine ⟨_, rfl, fun K hK => ?_⟩
               have e86 : a.tmps[86]? = some (.agg #[.int .i64 a1_0, .int .i64 a1_1, .int .i64 a1_2, .int .i64 a1_3]) := by rw [ha]; exact putSel_on (e := (2, 86, .agg #[.int .i64 a1_0, .int .i64 a1_1, .int .i64 a1_2, .int .i64 a1_3])) 2 rfl rfl (hon 2 (by kernel_rfl)) rfl
               replace ha := Aside0.mk ha
               have BK196 := Aside0.mk Q_BK196
               have BK197 := Aside0.mk Q_BK197
               have BK214 := Aside0.mk Q_BK214
               have BK220 := Aside0.mk Q_BK220
               have BK231 := Aside0.mk Q_BK231
               have HB := Aside0.mk Q_HB
               have HO203 := Aside0.mk (Q_HO203_e1 (hon 1 (by kernel_rfl)) (hoff 5 (by kernel_rfl)))
               have HO212 := Aside0.mk (Q_HO212_e1 (hon 1 (by kernel_rfl)) (hoff 5 (by kernel_rfl)))
               have HO219 := Aside0.mk (Q_HO219_e1 (hon 1 (by kernel_rfl)) (hoff 5 (by kernel_rfl)))
               have HO229 := Aside0.mk (Q_HO229_e1 (hon 1 (by kernel_rfl)) (hoff 5 (by kernel_rfl)))
               have HO237 := Aside0.mk (Q_HO237_e1 (hon 1 (by kernel_rfl)) (hoff 5 (by kernel_rfl)))
               have HO249 := Aside0.mk (Q_HO249 (hon 1 (by kernel_rfl)) (hoff 5 (by kernel_rfl)))
               refine goes_ Try.func27 (by kernel_rfl) rfl #[.agg #[.int .i64 a1_0, .int .i64 a1_1, .int .i64 a1_2, .int .i64 a1_3]] (by rfl) rfl rfl (by first | (simp only [List.map_toArray, List.map_cons, List.map_nil, Act.eval, Array.getD_eq_getD_getElem?, Option.getD_some, e86]; done) | (simp only [List.map_toArray, List.map_cons, List.map_nil, Act.eval, Array.getD_eq_getD_getElem?, Option.getD_some, e86]; rfl)) ?_
               with_reducible refine (laws_toPlaced.calls a1_0 a1_1 a1_2 a1_3 t250 t251 t252 t253 _ A32.out).mono ?_
               rintro e w101 ⟨rfl, hb⟩
               refine ⟨_, rfl, ?_⟩
               have n0_ := Aside0.mk (Kd.R_below (by exact HO203.out) hb)
               have n1_ := Aside0.mk (Kd.R_below (by exact HO212.out) hb)
               have n2_ := Aside0.mk (Kd.R_below (by exact HO219.out) hb)
               have n3_ := Aside0.mk (Kd.R_below (by exact HO229.out) hb)
               have n4_ := Aside0.mk (Kd.R_below (by exact HO237.out) hb)
               have n5_ := Aside0.mk (Kd.R_below (by exact HO249.out) hb)
               have n6_ := Aside0.mk (blk_below (g := gb196) (o := .cells #[.int .i64 a0_0, .int .i64 a0_1, .slice A0_2 l0_2.length c0_2] 33 (0, 0)) (by exact BK196.out) hb)
               have n7_ := Aside0.mk (blk_below (g := gb197) (o := .cells #[.int .i64 a1_0, .int .i64 a1_1, .int .i64 a1_2, .int .i64 a1_3] 35 (0, 0)) (by exact BK197.out) hb)
               have n8_ := Aside0.mk (blk_below (g := gb214) (o := .cells #[.int .i64 t208, .int .i64 t209, .slice Ao83 t210.length co83] 37 (0, 0)) (by exact BK214.out) hb)
               have n9_ := Aside0.mk (blk_below (g := gb220) (o := .cells #[.int .i64 t215, .int .i64 t216, .slice Ao64 t217.length co64] 37 (0, 0)) (by exact BK220.out) hb)
               have n10_ := Aside0.mk (blk_below (g := gb231) (o := .cells #[.int .i64 t225, .int .i64 t226, .slice Ao82 t227.length co82] 37 (0, 0)) (by exact BK231.out) hb)
               have n11_ := Aside0.mk (below_step (by repeat (first | (with_reducible first | exact HB.out | apply below_alloc | apply pw_below_drewN | apply below_drew1 | refine below_set ?_ GE196.out | refine below_set ?_ GE197.out | refine below_set ?_ GE214.out | refine below_set ?_ GE220.out | refine below_set ?_ GE231.out) | exact HB.out)) hb)
               have z_BK260 := fun (h0_ : b 9 = true) (h1_ : b 10 = false) => (show w101.heap[gb260]? = some (.cells #[.int .i64 0, .int .i64 0, .slice none 0 0] 37 (0, 0)) from by first | exact (blk_below (g := gb260) (o := .cells #[.int .i64 0, .int .i64 0, .slice none 0 0] 37 (0, 0)) (by exact (Q_BK260 h0_ h1_)) hb))
               clear HO203
               clear HO212
               clear HO219
               clear HO229
               clear HO237
               clear HO249
               clear BK196
               clear BK197
               clear BK214
               clear BK220
               clear BK231
               clear HB
               have HO203 := n0_
               have HO212 := n1_
               have HO219 := n2_
               have HO229 := n3_
               have HO237 := n4_
               have HO249 := n5_
               have BK196 := n6_
               have BK197 := n7_
               have BK214 := n8_
               have BK220 := n9_
               have BK231 := n10_
               have HB := n11_
               clear n0_ n1_ n2_ n3_ n4_ n5_ n6_ n7_ n8_ n9_ n10_ n11_
               (try clear hb)
               (try clear hb2)
               (try clear hk)
               (try clear hi)
               refine hK.out _ _ ⟨v248, v257, gb260, m1_, m5_, m6_, m7_, m9_, (by rw [ha.out]; exact putSel_upk 3 hb_ rfl rfl rfl), fun h0_ => absurd ((hon 1 (by kernel_rfl)).symm.trans h0_) (by decide), fun h0_ => absurd ((hon 1 (by kernel_rfl)).symm.trans h0_) (by decide), fun h0_ => absurd ((hon 1 (by kernel_rfl)).symm.trans h0_) (by decide), fun h0_ => absurd ((hon 1 (by kernel_rfl)).symm.trans h0_) (by decide), fun h0_ => absurd ((hon 1 (by kernel_rfl)).symm.trans h0_) (by decide), (by exact BK196.out), (by exact BK197.out), (by exact BK214.out), (by exact BK220.out), (by exact BK231.out), (by repeat (first | (with_reducible first | exact HB.out | apply below_alloc | apply pw_below_drewN | apply below_drew1 | refine below_set ?_ GE196.out | refine below_set ?_ GE197.out | refine below_set ?_ GE214.out | refine below_set ?_ GE220.out | refine below_set ?_ GE231.out) | exact HB.out)), fun _ _ => (by exact HO203.out), fun _ _ => (by exact HO212.out), fun _ _ => (by exact HO219.out), fun _ _ => (by exact HO229.out), fun _ _ => (by exact HO237.out), fun _ _ => (by exact HO249.out), fun h0_ => absurd ((hoff 5 (by kernel_rfl)).symm.trans h0_) (by decide), fun h0_ => absurd ((hoff 5 (by kernel_rfl)).symm.trans h0_) (by decide), fun h0_ => absurd ((hoff 5 (by kernel_rfl)).symm.trans h0_) (by decide), fun h0_ => absurd ((hoff 5 (by kernel_rfl)).symm.trans h0_) (by decide), fun h0_ => absurd ((hoff 5 (by kernel_rfl)).symm.trans h0_) (by decide), fun h0_ => absurd ((hoff 5 (by kernel_rfl)).symm.trans h0_) (by decide), fun h0_ => absurd ((hoff 5 (by kernel_rfl)).symm.trans h0_) (by decide), z_BK260, Q_GW260, Q_GE260, Q_NB196_260, Q_NB260_196, Q_NB197_260, Q_NB260_197, Q_NB214_260, Q_NB260_214, Q_NB220_260, Q_NB260_220, Q_NB231_260, Q_NB260_231, fun h0_ => absurd ((hoff 10 (by kernel_rfl)).symm.trans h0_) (by decide), Q_X1_, fun h0_ => absurd ((hoff 5 (by kernel_rfl)).symm.trans h0_) (by decide), fun h0_ => absurd ((hoff 6 (by kernel_rfl)).symm.trans h0_) (by decide), fun h0_ => absurd ((hoff 7 (by kernel_rfl)).symm.trans h0_) (by decide), Q_X9_⟩
              refine steps_cons ?_ ?_
              ·rintro b a w' ⟨v248, v257, gb260, m1_, m5_, m6_, m7_, m9_, ha, Q_HO203, Q_HO212, Q_HO219, Q_HO229, Q_HO237, Q_BK196, Q_BK197, Q_BK214, Q_BK220, Q_BK231, Q_HB, Q_HO203_e1, Q_HO212_e1, Q_HO219_e1, Q_HO229_e1, Q_HO237_e1, Q_HO249, Q_HO203_e5, Q_HO212_e5, Q_HO219_e5, Q_HO229_e5, Q_HO237_e5, Q_HO249_e5, Q_HO258, Q_BK260, Q_GW260, Q_GE260, Q_NB196_260, Q_NB260_196, Q_NB197_260, Q_NB260_197, Q_NB214_260, Q_NB260_214, Q_NB220_260, Q_NB260_220, Q_NB231_260, Q_NB260_231, Q_BK260_e10, Q_X1_, Q_X5_, Q_X6_, Q_X7_, Q_X9_⟩ hb_ hon hoff
               refine ⟨_, rfl, fun K hK => ?_⟩
               have e85 : a.tmps[85]? = some (m1_) := by rw [ha]; exact putSel_on (e := (1, 85, m1_)) 1 rfl rfl (hon 1 (by kernel_rfl)) rfl
               rw [Q_X1_ (hon 1 (by kernel_rfl))] at e85
               have e87 : a.tmps[87]? = some (.agg #[.int .i64 t250, .int .i64 t251, .int .i64 t252, .int .i64 t253]) := by rw [ha]; exact putSel_on (e := (3, 87, .agg #[.int .i64 t250, .int .i64 t251, .int .i64 t252, .int .i64 t253])) 3 rfl rfl (hon 3 (by kernel_rfl)) rfl
               have e88 : a.tmps[88]? = some (.int .i64 a2) := by rw [ha]; exact (putSel_off rfl).trans rfl
               replace ha := Aside0.mk ha
               have BK196 := Aside0.mk Q_BK196
               have BK197 := Aside0.mk Q_BK197
               have BK214 := Aside0.mk Q_BK214
               have BK220 := Aside0.mk Q_BK220
               have BK231 := Aside0.mk Q_BK231
               have HB := Aside0.mk Q_HB
               have HO203 := Aside0.mk (Q_HO203_e1 (hon 1 (by kernel_rfl)) hb_)
               have HO212 := Aside0.mk (Q_HO212_e1 (hon 1 (by kernel_rfl)) hb_)
               have HO219 := Aside0.mk (Q_HO219_e1 (hon 1 (by kernel_rfl)) hb_)
               have HO229 := Aside0.mk (Q_HO229_e1 (hon 1 (by kernel_rfl)) hb_)
               have HO237 := Aside0.mk (Q_HO237_e1 (hon 1 (by kernel_rfl)) hb_)
               have HO249 := Aside0.mk (Q_HO249 (hon 1 (by kernel_rfl)) hb_)
               obtain ⟨Ao102, co102, eo102⟩ := Kd.R_slice HO249.out
               (first | subst eo102 | (injection eo102 with f1_ f2_ f3_; have f4_ := f1_.symm; have f5_ := f3_.symm; clear f1_ f2_ f3_; subst f4_; subst f5_))
               refine goes_ Try.func28 (by kernel_rfl) rfl #[.agg #[.int .i64 t245, .int .i64 t246, .slice Ao102 t247.length co102], .agg #[.int .i64 t250, .int .i64 t251, .int .i64 t252, .int .i64 t253], .int .i64 a2] (by rfl) rfl rfl (by first | (simp only [List.map_toArray, List.map_cons, List.map_nil, Act.eval, Array.getD_eq_getD_getElem?, Option.getD_some, e85, e87, e88]; done) | (simp only [List.map_toArray, List.map_cons, List.map_nil, Act.eval, Array.getD_eq_getD_getElem?, Option.getD_some, e85, e87, e88]; rfl)) ?_
               with_reducible refine (impl_PaintBox.calls k t245 t246 _ _ t247 t250 t251 t252 t253 a2 t254 t255 t256 t259 _ ?side1 ?side2 A33.out).mono ?_
               (case side1 => repeat (first | exact (Kd.R_reads' HO249.out).2.2 | (with_reducible refine Kd.C_alloc ?_ _) | (with_reducible refine Kd.C_drewN ?_ _) | (with_reducible refine Kd.C_drew ?_)))
               (case side2 => exact (Kd.R_reads' HO249.out).2.1)
               rintro e w103 ⟨v257, rfl, ho0, hb⟩
               refine ⟨_, rfl, ?_⟩
               have n0_ := Aside0.mk (Kd.R_elder' (by exact HO203.out) (Kd.R_base ho0) hb)
               have n1_ := Aside0.mk (Kd.R_elder' (by exact HO212.out) (Kd.R_base ho0) hb)
               have n2_ := Aside0.mk (Kd.R_elder' (by exact HO219.out) (Kd.R_base ho0) hb)
               have n3_ := Aside0.mk (Kd.R_elder' (by exact HO229.out) (Kd.R_base ho0) hb)
               have n4_ := Aside0.mk (Kd.R_elder' (by exact HO237.out) (Kd.R_base ho0) hb)
               have n5_ := Aside0.mk (Kd.R_elder' (by exact HO249.out) (Kd.R_base ho0) hb)
               have n6_ := Aside0.mk (Kd.R_lower (Kd.R_new' (Kd.R_new' (Kd.R_new' (Kd.R_new' (Kd.R_new' (Kd.R_new' ho0 (Kd.R_lt (by exact HO203.out))) (Kd.R_lt (by exact HO212.out))) (Kd.R_lt (by exact HO219.out))) (Kd.R_lt (by exact HO229.out))) (Kd.R_lt (by exact HO237.out))) (Kd.R_lt (by exact HO249.out))) (below_size (by repeat (first | (with_reducible first | exact HB.out | apply below_alloc | apply pw_below_drewN | apply below_drew1 | refine below_set ?_ GE196.out | refine below_set ?_ GE197.out | refine below_set ?_ GE214.out | refine below_set ?_ GE220.out | refine below_set ?_ GE231.out) | exact HB.out))))
               have n7_ := Aside0.mk (blk_below (g := gb196) (o := .cells #[.int .i64 a0_0, .int .i64 a0_1, .slice A0_2 l0_2.length c0_2] 33 (0, 0)) (by exact BK196.out) hb)
               have n8_ := Aside0.mk (blk_below (g := gb197) (o := .cells #[.int .i64 a1_0, .int .i64 a1_1, .int .i64 a1_2, .int .i64 a1_3] 35 (0, 0)) (by exact BK197.out) hb)
               have n9_ := Aside0.mk (blk_below (g := gb214) (o := .cells #[.int .i64 t208, .int .i64 t209, .slice Ao83 t210.length co83] 37 (0, 0)) (by exact BK214.out) hb)
               have n10_ := Aside0.mk (blk_below (g := gb220) (o := .cells #[.int .i64 t215, .int .i64 t216, .slice Ao64 t217.length co64] 37 (0, 0)) (by exact BK220.out) hb)
               have n11_ := Aside0.mk (blk_below (g := gb231) (o := .cells #[.int .i64 t225, .int .i64 t226, .slice Ao82 t227.length co82] 37 (0, 0)) (by exact BK231.out) hb)
               have n12_ := Aside0.mk (below_step (by repeat (first | (with_reducible first | exact HB.out | apply below_alloc | apply pw_below_drewN | apply below_drew1 | refine below_set ?_ GE196.out | refine below_set ?_ GE197.out | refine below_set ?_ GE214.out | refine below_set ?_ GE220.out | refine below_set ?_ GE231.out) | exact HB.out)) hb)
               have z_BK260 := fun (h0_ : b 9 = true) (h1_ : b 10 = false) => (show w103.heap[gb260]? = some (.cells #[.int .i64 0, .int .i64 0, .slice none 0 0] 37 (0, 0)) from by first | exact (blk_below (g := gb260) (o := .cells #[.int .i64 0, .int .i64 0, .slice none 0 0] 37 (0, 0)) (by exact (Q_BK260 h0_ h1_)) hb))
               clear HO203
               clear HO212
               clear HO219
               clear HO229
               clear HO237
               clear HO249
               clear BK196
               clear BK197
               clear BK214
               clear BK220
               clear BK231
               clear HB
               have HO203 := n0_
               have HO212 := n1_
               have HO219 := n2_
               have HO229 := n3_
               have HO237 := n4_
               have HO249 := n5_
               have HO258 := n6_
               have BK196 := n7_
               have BK197 := n8_
               have BK214 := n9_
               have BK220 := n10_
               have BK231 := n11_
               have HB := n12_
               clear n0_ n1_ n2_ n3_ n4_ n5_ n6_ n7_ n8_ n9_ n10_ n11_ n12_
               (try clear hb)
               (try clear hb2)
               (try clear hk)
               (try clear hi)
               (try clear ho0)
               refine hK.out _ _ ⟨.slice Ao102 t247.length co102, v257, gb260, m1_, (.tuple #[.agg #[.int .i64 t254, .int .i64 t255, v257], .bool t259]), m6_, m7_, m9_, (by rw [ha.out]; exact putSel_upk 4 hb_ rfl rfl rfl), fun h0_ => absurd ((hon 1 (by kernel_rfl)).symm.trans h0_) (by decide), fun h0_ => absurd ((hon 1 (by kernel_rfl)).symm.trans h0_) (by decide), fun h0_ => absurd ((hon 1 (by kernel_rfl)).symm.trans h0_) (by decide), fun h0_ => absurd ((hon 1 (by kernel_rfl)).symm.trans h0_) (by decide), fun h0_ => absurd ((hon 1 (by kernel_rfl)).symm.trans h0_) (by decide), (by exact BK196.out), (by exact BK197.out), (by exact BK214.out), (by exact BK220.out), (by exact BK231.out), (by repeat (first | (with_reducible first | exact HB.out | apply below_alloc | apply pw_below_drewN | apply below_drew1 | refine below_set ?_ GE196.out | refine below_set ?_ GE197.out | refine below_set ?_ GE214.out | refine below_set ?_ GE220.out | refine below_set ?_ GE231.out) | exact HB.out)), fun _ h1_ => absurd ((up_self b 5).symm.trans h1_) (by decide), fun _ h1_ => absurd ((up_self b 5).symm.trans h1_) (by decide), fun _ h1_ => absurd ((up_self b 5).symm.trans h1_) (by decide), fun _ h1_ => absurd ((up_self b 5).symm.trans h1_) (by decide), fun _ h1_ => absurd ((up_self b 5).symm.trans h1_) (by decide), fun _ h1_ => absurd ((up_self b 5).symm.trans h1_) (by decide), fun _ => (by exact Kd.R_mono HO203.out (fun _ hk => ⟨hk.1.1, ⟨hk.1.2.1, ⟨hk.1.2.2.1, ⟨hk.1.2.2.2.1, ⟨hk.1.2.2.2.2, hk.2⟩⟩⟩⟩⟩)), fun _ => (by exact Kd.R_mono HO212.out (fun _ hk => ⟨hk.1.1, ⟨hk.1.2.1, ⟨hk.1.2.2.1, ⟨hk.1.2.2.2.1, ⟨hk.1.2.2.2.2, hk.2⟩⟩⟩⟩⟩)), fun _ => (by exact Kd.R_mono HO219.out (fun _ hk => ⟨hk.1.1, ⟨hk.1.2.1, ⟨hk.1.2.2.1, ⟨hk.1.2.2.2.1, ⟨hk.1.2.2.2.2, hk.2⟩⟩⟩⟩⟩)), fun _ => (by exact Kd.R_mono HO229.out (fun _ hk => ⟨hk.1.1, ⟨hk.1.2.1, ⟨hk.1.2.2.1, ⟨hk.1.2.2.2.1, ⟨hk.1.2.2.2.2, hk.2⟩⟩⟩⟩⟩)), fun _ => (by exact Kd.R_mono HO237.out (fun _ hk => ⟨hk.1.1, ⟨hk.1.2.1, ⟨hk.1.2.2.1, ⟨hk.1.2.2.2.1, ⟨hk.1.2.2.2.2, hk.2⟩⟩⟩⟩⟩)), fun _ => (by exact Kd.R_mono HO249.out (fun _ hk => ⟨hk.1.1, ⟨hk.1.2.1, ⟨hk.1.2.2.1, ⟨hk.1.2.2.2.1, ⟨hk.1.2.2.2.2, hk.2⟩⟩⟩⟩⟩)), fun _ => (by exact Kd.R_mono HO258.out (fun _ hk => ⟨hk.1.1.1.1.1.2, ⟨hk.1.1.1.1.2, ⟨hk.1.1.1.2, ⟨hk.1.1.2, ⟨hk.1.2, hk.2⟩⟩⟩⟩⟩)), z_BK260, Q_GW260, Q_GE260, Q_NB196_260, Q_NB260_196, Q_NB197_260, Q_NB260_197, Q_NB214_260, Q_NB260_214, Q_NB220_260, Q_NB260_220, Q_NB231_260, Q_NB260_231, fun h0_ => absurd ((hoff 10 (by kernel_rfl)).symm.trans h0_) (by decide), Q_X1_, fun _ => rfl, fun h0_ => absurd ((hoff 6 (by kernel_rfl)).symm.trans h0_) (by decide), fun h0_ => absurd ((hoff 7 (by kernel_rfl)).symm.trans h0_) (by decide), Q_X9_⟩
              refine steps_cons ?_ ?_
              ·rintro b a w' ⟨v248, v257, gb260, m1_, m5_, m6_, m7_, m9_, ha, Q_HO203, Q_HO212, Q_HO219, Q_HO229, Q_HO237, Q_BK196, Q_BK197, Q_BK214, Q_BK220, Q_BK231, Q_HB, Q_HO203_e1, Q_HO212_e1, Q_HO219_e1, Q_HO229_e1, Q_HO237_e1, Q_HO249, Q_HO203_e5, Q_HO212_e5, Q_HO219_e5, Q_HO229_e5, Q_HO237_e5, Q_HO249_e5, Q_HO258, Q_BK260, Q_GW260, Q_GE260, Q_NB196_260, Q_NB260_196, Q_NB197_260, Q_NB260_197, Q_NB214_260, Q_NB260_214, Q_NB220_260, Q_NB260_220, Q_NB231_260, Q_NB260_231, Q_BK260_e10, Q_X1_, Q_X5_, Q_X6_, Q_X7_, Q_X9_⟩ hb_ hon hoff
               refine ⟨_, rfl, fun K hK => ?_⟩
               have e89 : a.tmps[89]? = some (m5_) := by rw [ha]; exact putSel_on (e := (5, 89, m5_)) 4 rfl rfl (hon 5 (by kernel_rfl)) rfl
               rw [Q_X5_ (hon 5 (by kernel_rfl))] at e89
               replace ha := Aside0.mk ha
               have BK196 := Aside0.mk Q_BK196
               have BK197 := Aside0.mk Q_BK197
               have BK214 := Aside0.mk Q_BK214
               have BK220 := Aside0.mk Q_BK220
               have BK231 := Aside0.mk Q_BK231
               have HB := Aside0.mk Q_HB
               have HO203 := Aside0.mk (Q_HO203_e5 (hon 5 (by kernel_rfl)))
               have HO212 := Aside0.mk (Q_HO212_e5 (hon 5 (by kernel_rfl)))
               have HO219 := Aside0.mk (Q_HO219_e5 (hon 5 (by kernel_rfl)))
               have HO229 := Aside0.mk (Q_HO229_e5 (hon 5 (by kernel_rfl)))
               have HO237 := Aside0.mk (Q_HO237_e5 (hon 5 (by kernel_rfl)))
               have HO249 := Aside0.mk (Q_HO249_e5 (hon 5 (by kernel_rfl)))
               have HO258 := Aside0.mk (Q_HO258 (hon 5 (by kernel_rfl)))
               refine value_ (w1 := w') (v := .tuple #[.agg #[.int .i64 t254, .int .i64 t255, v257], .bool t259]) (by rfl) rfl ?_ ?_
               ·go_simp
                (try simp only [i64_w])
                try rfl
               refine hK.out _ _ ⟨v248, v257, gb260, m1_, m5_, (.tuple #[.agg #[.int .i64 t254, .int .i64 t255, v257], .bool t259]), m7_, m9_, (by rw [ha.out]; exact putSel_upk 5 hb_ rfl rfl rfl), fun h0_ => absurd ((hon 1 (by kernel_rfl)).symm.trans h0_) (by decide), fun h0_ => absurd ((hon 1 (by kernel_rfl)).symm.trans h0_) (by decide), fun h0_ => absurd ((hon 1 (by kernel_rfl)).symm.trans h0_) (by decide), fun h0_ => absurd ((hon 1 (by kernel_rfl)).symm.trans h0_) (by decide), fun h0_ => absurd ((hon 1 (by kernel_rfl)).symm.trans h0_) (by decide), Q_BK196, Q_BK197, Q_BK214, Q_BK220, Q_BK231, Q_HB, fun _ h1_ => absurd ((hon 5 (by kernel_rfl)).symm.trans h1_) (by decide), fun _ h1_ => absurd ((hon 5 (by kernel_rfl)).symm.trans h1_) (by decide), fun _ h1_ => absurd ((hon 5 (by kernel_rfl)).symm.trans h1_) (by decide), fun _ h1_ => absurd ((hon 5 (by kernel_rfl)).symm.trans h1_) (by decide), fun _ h1_ => absurd ((hon 5 (by kernel_rfl)).symm.trans h1_) (by decide), fun _ h1_ => absurd ((hon 5 (by kernel_rfl)).symm.trans h1_) (by decide), Q_HO203_e5, Q_HO212_e5, Q_HO219_e5, Q_HO229_e5, Q_HO237_e5, Q_HO249_e5, Q_HO258, Q_BK260, Q_GW260, Q_GE260, Q_NB196_260, Q_NB260_196, Q_NB197_260, Q_NB260_197, Q_NB214_260, Q_NB260_214, Q_NB220_260, Q_NB260_220, Q_NB231_260, Q_NB260_231, fun h0_ => absurd ((hoff 10 (by kernel_rfl)).symm.trans h0_) (by decide), Q_X1_, Q_X5_, fun _ => rfl, fun h0_ => absurd ((hoff 7 (by kernel_rfl)).symm.trans h0_) (by decide), Q_X9_⟩
              refine steps_cons ?_ ?_
              ·rintro b a w' ⟨v248, v257, gb260, m1_, m5_, m6_, m7_, m9_, ha, Q_HO203, Q_HO212, Q_HO219, Q_HO229, Q_HO237, Q_BK196, Q_BK197, Q_BK214, Q_BK220, Q_BK231, Q_HB, Q_HO203_e1, Q_HO212_e1, Q_HO219_e1, Q_HO229_e1, Q_HO237_e1, Q_HO249, Q_HO203_e5, Q_HO212_e5, Q_HO219_e5, Q_HO229_e5, Q_HO237_e5, Q_HO249_e5, Q_HO258, Q_BK260, Q_GW260, Q_GE260, Q_NB196_260, Q_NB260_196, Q_NB197_260, Q_NB260_197, Q_NB214_260, Q_NB260_214, Q_NB220_260, Q_NB260_220, Q_NB231_260, Q_NB260_231, Q_BK260_e10, Q_X1_, Q_X5_, Q_X6_, Q_X7_, Q_X9_⟩ hb_ hon hoff
               refine ⟨_, rfl, fun K hK => ?_⟩
               have e83 : a.tmps[83]? = some (m6_) := by rw [ha]; exact putSel_on (e := (6, 83, m6_)) 5 rfl rfl (hon 6 (by kernel_rfl)) rfl
               rw [Q_X6_ (hon 6 (by kernel_rfl))] at e83
               replace ha := Aside0.mk ha
               have BK196 := Aside0.mk Q_BK196
               have BK197 := Aside0.mk Q_BK197
               have BK214 := Aside0.mk Q_BK214
               have BK220 := Aside0.mk Q_BK220
               have BK231 := Aside0.mk Q_BK231
               have HB := Aside0.mk Q_HB
               have HO203 := Aside0.mk (Q_HO203_e5 (hon 5 (by kernel_rfl)))
               have HO212 := Aside0.mk (Q_HO212_e5 (hon 5 (by kernel_rfl)))
               have HO219 := Aside0.mk (Q_HO219_e5 (hon 5 (by kernel_rfl)))
               have HO229 := Aside0.mk (Q_HO229_e5 (hon 5 (by kernel_rfl)))
               have HO237 := Aside0.mk (Q_HO237_e5 (hon 5 (by kernel_rfl)))
               have HO249 := Aside0.mk (Q_HO249_e5 (hon 5 (by kernel_rfl)))
               have HO258 := Aside0.mk (Q_HO258 (hon 5 (by kernel_rfl)))
               refine value_ (w1 := w') (v := .agg #[.int .i64 t254, .int .i64 t255, v257]) (by rfl) rfl ?_ ?_
               ·go_simp
                (try simp only [i64_w])
                try rfl
               refine hK.out _ _ ⟨v248, v257, gb260, m1_, m5_, m6_, (.agg #[.int .i64 t254, .int .i64 t255, v257]), m9_, (by rw [ha.out]; exact putSel_upk 6 hb_ rfl rfl rfl), fun h0_ => absurd ((hon 1 (by kernel_rfl)).symm.trans h0_) (by decide), fun h0_ => absurd ((hon 1 (by kernel_rfl)).symm.trans h0_) (by decide), fun h0_ => absurd ((hon 1 (by kernel_rfl)).symm.trans h0_) (by decide), fun h0_ => absurd ((hon 1 (by kernel_rfl)).symm.trans h0_) (by decide), fun h0_ => absurd ((hon 1 (by kernel_rfl)).symm.trans h0_) (by decide), Q_BK196, Q_BK197, Q_BK214, Q_BK220, Q_BK231, Q_HB, fun _ h1_ => absurd ((hon 5 (by kernel_rfl)).symm.trans h1_) (by decide), fun _ h1_ => absurd ((hon 5 (by kernel_rfl)).symm.trans h1_) (by decide), fun _ h1_ => absurd ((hon 5 (by kernel_rfl)).symm.trans h1_) (by decide), fun _ h1_ => absurd ((hon 5 (by kernel_rfl)).symm.trans h1_) (by decide), fun _ h1_ => absurd ((hon 5 (by kernel_rfl)).symm.trans h1_) (by decide), fun _ h1_ => absurd ((hon 5 (by kernel_rfl)).symm.trans h1_) (by decide), Q_HO203_e5, Q_HO212_e5, Q_HO219_e5, Q_HO229_e5, Q_HO237_e5, Q_HO249_e5, Q_HO258, Q_BK260, Q_GW260, Q_GE260, Q_NB196_260, Q_NB260_196, Q_NB197_260, Q_NB260_197, Q_NB214_260, Q_NB260_214, Q_NB220_260, Q_NB260_220, Q_NB231_260, Q_NB260_231, fun h0_ => absurd ((hoff 10 (by kernel_rfl)).symm.trans h0_) (by decide), Q_X1_, Q_X5_, Q_X6_, fun _ => rfl, Q_X9_⟩
              refine steps_cons ?_ ?_
              ·rintro b a w' ⟨v248, v257, gb260, m1_, m5_, m6_, m7_, m9_, ha, Q_HO203, Q_HO212, Q_HO219, Q_HO229, Q_HO237, Q_BK196, Q_BK197, Q_BK214, Q_BK220, Q_BK231, Q_HB, Q_HO203_e1, Q_HO212_e1, Q_HO219_e1, Q_HO229_e1, Q_HO237_e1, Q_HO249, Q_HO203_e5, Q_HO212_e5, Q_HO219_e5, Q_HO229_e5, Q_HO237_e5, Q_HO249_e5, Q_HO258, Q_BK260, Q_GW260, Q_GE260, Q_NB196_260, Q_NB260_196, Q_NB197_260, Q_NB260_197, Q_NB214_260, Q_NB260_214, Q_NB220_260, Q_NB260_220, Q_NB231_260, Q_NB260_231, Q_BK260_e10, Q_X1_, Q_X5_, Q_X6_, Q_X7_, Q_X9_⟩ hb_ hon hoff
               refine ⟨_, rfl, fun K hK => ?_⟩
               have e83 : a.tmps[83]? = some (m6_) := by rw [ha]; exact putSel_on (e := (6, 83, m6_)) 5 rfl rfl (hon 6 (by kernel_rfl)) rfl
               rw [Q_X6_ (hon 6 (by kernel_rfl))] at e83
               replace ha := Aside0.mk ha
               have BK196 := Aside0.mk Q_BK196
               have BK197 := Aside0.mk Q_BK197
               have BK214 := Aside0.mk Q_BK214
               have BK220 := Aside0.mk Q_BK220
               have BK231 := Aside0.mk Q_BK231
               have HB := Aside0.mk Q_HB
               have HO203 := Aside0.mk (Q_HO203_e5 (hon 5 (by kernel_rfl)))
               have HO212 := Aside0.mk (Q_HO212_e5 (hon 5 (by kernel_rfl)))
               have HO219 := Aside0.mk (Q_HO219_e5 (hon 5 (by kernel_rfl)))
               have HO229 := Aside0.mk (Q_HO229_e5 (hon 5 (by kernel_rfl)))
               have HO237 := Aside0.mk (Q_HO237_e5 (hon 5 (by kernel_rfl)))
               have HO249 := Aside0.mk (Q_HO249_e5 (hon 5 (by kernel_rfl)))
               have HO258 := Aside0.mk (Q_HO258 (hon 5 (by kernel_rfl)))
               refine value_ (w1 := w') (v := .bool t259) (by rfl) rfl ?_ ?_
               ·go_simp
                (try simp only [i64_w])
                try rfl
               refine hK.out _ _ ⟨v248, v257, gb260, m1_, m5_, m6_, m7_, m9_, (by rw [ha.out]; exact putSel_upk 7 hb_ rfl rfl rfl), fun h0_ => absurd ((hon 1 (by kernel_rfl)).symm.trans h0_) (by decide), fun h0_ => absurd ((hon 1 (by kernel_rfl)).symm.trans h0_) (by decide), fun h0_ => absurd ((hon 1 (by kernel_rfl)).symm.trans h0_) (by decide), fun h0_ => absurd ((hon 1 (by kernel_rfl)).symm.trans h0_) (by decide), fun h0_ => absurd ((hon 1 (by kernel_rfl)).symm.trans h0_) (by decide), Q_BK196, Q_BK197, Q_BK214, Q_BK220, Q_BK231, Q_HB, fun _ h1_ => absurd ((hon 5 (by kernel_rfl)).symm.trans h1_) (by decide), fun _ h1_ => absurd ((hon 5 (by kernel_rfl)).symm.trans h1_) (by decide), fun _ h1_ => absurd ((hon 5 (by kernel_rfl)).symm.trans h1_) (by decide), fun _ h1_ => absurd ((hon 5 (by kernel_rfl)).symm.trans h1_) (by decide), fun _ h1_ => absurd ((hon 5 (by kernel_rfl)).symm.trans h1_) (by decide), fun _ h1_ => absurd ((hon 5 (by kernel_rfl)).symm.trans h1_) (by decide), Q_HO203_e5, Q_HO212_e5, Q_HO219_e5, Q_HO229_e5, Q_HO237_e5, Q_HO249_e5, Q_HO258, Q_BK260, Q_GW260, Q_GE260, Q_NB196_260, Q_NB260_196, Q_NB197_260, Q_NB260_197, Q_NB214_260, Q_NB260_214, Q_NB220_260, Q_NB260_220, Q_NB231_260, Q_NB260_231, Q_BK260_e10, Q_X1_, Q_X5_, Q_X6_, Q_X7_, Q_X9_⟩
              refine steps_cons ?_ ?_
              ·rintro b a w' ⟨v248, v257, gb260, m1_, m5_, m6_, m7_, m9_, ha, Q_HO203, Q_HO212, Q_HO219, Q_HO229, Q_HO237, Q_BK196, Q_BK197, Q_BK214, Q_BK220, Q_BK231, Q_HB, Q_HO203_e1, Q_HO212_e1, Q_HO219_e1, Q_HO229_e1, Q_HO237_e1, Q_HO249, Q_HO203_e5, Q_HO212_e5, Q_HO219_e5, Q_HO229_e5, Q_HO237_e5, Q_HO249_e5, Q_HO258, Q_BK260, Q_GW260, Q_GE260, Q_NB196_260, Q_NB260_196, Q_NB197_260, Q_NB260_197, Q_NB214_260, Q_NB260_214, Q_NB220_260, Q_NB260_220, Q_NB231_260, Q_NB260_231, Q_BK260_e10, Q_X1_, Q_X5_, Q_X6_, Q_X7_, Q_X9_⟩ hb_ hon hoff
               refine ⟨_, rfl, fun K hK => ?_⟩
               replace ha := Aside0.mk ha
               have BK196 := Aside0.mk Q_BK196
               have BK197 := Aside0.mk Q_BK197
               have BK214 := Aside0.mk Q_BK214
               have BK220 := Aside0.mk Q_BK220
               have BK231 := Aside0.mk Q_BK231
               have HB := Aside0.mk Q_HB
               refine box_step ?hg (N := 16) ?hd (cs := #[.int .i64 0, .int .i64 0, .slice none 0 0]) (t := 37) ?hr ?_; (case hd => rfl); (case hg => rfl); (case hr => first | (go_simp; done) | (go_simp; rfl))
               intro gb260 hg w99 hbox hb
               have n5_ := Aside0.mk (blk_below (g := gb196) (o := .cells #[.int .i64 a0_0, .int .i64 a0_1, .slice A0_2 l0_2.length c0_2] 33 (0, 0)) (by exact BK196.out) hb)
               have n6_ := Aside0.mk (blk_below (g := gb197) (o := .cells #[.int .i64 a1_0, .int .i64 a1_1, .int .i64 a1_2, .int .i64 a1_3] 35 (0, 0)) (by exact BK197.out) hb)
               have n7_ := Aside0.mk (blk_below (g := gb214) (o := .cells #[.int .i64 t208, .int .i64 t209, .slice Ao83 t210.length co83] 37 (0, 0)) (by exact BK214.out) hb)
               have n8_ := Aside0.mk (blk_below (g := gb220) (o := .cells #[.int .i64 t215, .int .i64 t216, .slice Ao64 t217.length co64] 37 (0, 0)) (by exact BK220.out) hb)
               have n9_ := Aside0.mk (blk_below (g := gb231) (o := .cells #[.int .i64 t225, .int .i64 t226, .slice Ao82 t227.length co82] 37 (0, 0)) (by exact BK231.out) hb)
               have n10_ := Aside0.mk (below_step (by repeat (first | (with_reducible first | exact HB.out | apply below_alloc | apply pw_below_drewN | apply below_drew1 | refine below_set ?_ GE196.out | refine below_set ?_ GE197.out | refine below_set ?_ GE214.out | refine below_set ?_ GE220.out | refine below_set ?_ GE231.out) | exact HB.out)) hb)
               have n11_ := Aside0.mk (hbox)
               have n12_ := Aside0.mk ((by rw [hg]; exact (below_size (by repeat (first | (with_reducible first | exact HB.out | apply below_alloc | apply pw_below_drewN | apply below_drew1 | refine below_set ?_ GE196.out | refine below_set ?_ GE197.out | refine below_set ?_ GE214.out | refine below_set ?_ GE220.out | refine below_set ?_ GE231.out) | exact HB.out))) : w.heap.size ≤ gb260))
               have n13_ := Aside0.mk ((by rw [hg]; exact (below_size (by repeat (first | (with_reducible first | exact HB.out | apply below_alloc | apply pw_below_drewN | apply below_drew1 | refine below_set ?_ GE196.out | refine below_set ?_ GE197.out | refine below_set ?_ GE214.out | refine below_set ?_ GE220.out | refine below_set ?_ GE231.out) | exact HB.out))) : w.heap.size ≤ gb260))
               have n14_ := Aside0.mk ((by rw [hg]; exact Nat.ne_of_lt (blk_lt (g := gb196) (o := .cells #[.int .i64 a0_0, .int .i64 a0_1, .slice A0_2 l0_2.length c0_2] 33 (0, 0)) (by exact BK196.out)) : gb196 ≠ gb260))
               have n15_ := Aside0.mk ((by rw [hg]; exact Nat.ne_of_gt (blk_lt (g := gb196) (o := .cells #[.int .i64 a0_0, .int .i64 a0_1, .slice A0_2 l0_2.length c0_2] 33 (0, 0)) (by exact BK196.out)) : gb260 ≠ gb196))
               have n16_ := Aside0.mk ((by rw [hg]; exact Nat.ne_of_lt (blk_lt (g := gb197) (o := .cells #[.int .i64 a1_0, .int .i64 a1_1, .int .i64 a1_2, .int .i64 a1_3] 35 (0, 0)) (by exact BK197.out)) : gb197 ≠ gb260))
               have n17_ := Aside0.mk ((by rw [hg]; exact Nat.ne_of_gt (blk_lt (g := gb197) (o := .cells #[.int .i64 a1_0, .int .i64 a1_1, .int .i64 a1_2, .int .i64 a1_3] 35 (0, 0)) (by exact BK197.out)) : gb260 ≠ gb197))
               have n18_ := Aside0.mk ((by rw [hg]; exact Nat.ne_of_lt (blk_lt (g := gb214) (o := .cells #[.int .i64 t208, .int .i64 t209, .slice Ao83 t210.length co83] 37 (0, 0)) (by exact BK214.out)) : gb214 ≠ gb260))
               have n19_ := Aside0.mk ((by rw [hg]; exact Nat.ne_of_gt (blk_lt (g := gb214) (o := .cells #[.int .i64 t208, .int .i64 t209, .slice Ao83 t210.length co83] 37 (0, 0)) (by exact BK214.out)) : gb260 ≠ gb214))
               have n20_ := Aside0.mk ((by rw [hg]; exact Nat.ne_of_lt (blk_lt (g := gb220) (o := .cells #[.int .i64 t215, .int .i64 t216, .slice Ao64 t217.length co64] 37 (0, 0)) (by exact BK220.out)) : gb220 ≠ gb260))
               have n21_ := Aside0.mk ((by rw [hg]; exact Nat.ne_of_gt (blk_lt (g := gb220) (o := .cells #[.int .i64 t215, .int .i64 t216, .slice Ao64 t217.length co64] 37 (0, 0)) (by exact BK220.out)) : gb260 ≠ gb220))
               have n22_ := Aside0.mk ((by rw [hg]; exact Nat.ne_of_lt (blk_lt (g := gb231) (o := .cells #[.int .i64 t225, .int .i64 t226, .slice Ao82 t227.length co82] 37 (0, 0)) (by exact BK231.out)) : gb231 ≠ gb260))
               have n23_ := Aside0.mk ((by rw [hg]; exact Nat.ne_of_gt (blk_lt (g := gb231) (o := .cells #[.int .i64 t225, .int .i64 t226, .slice Ao82 t227.length co82] 37 (0, 0)) (by exact BK231.out)) : gb260 ≠ gb231))
               have z_HO203 := fun (h0_ : b 1 = false) => (show Kd.R (Kd.int .i64) 3 w99 w.heap.size (fun k_ => some k_ ≠ (.slice Ao83 t210.length co83 : Value).ownBlock ∧ some k_ ≠ (.slice Ao64 t217.length co64 : Value).ownBlock ∧ some k_ ≠ (.slice Ao82 t227.length co82 : Value).ownBlock ∧ some k_ ≠ (.slice Ao87 t235.length co87 : Value).ownBlock) v202 t201 from by first | exact (Kd.R_below (by exact (Q_HO203 h0_)) hb) | exact Kd.R_mono (Kd.R_below (by exact (Q_HO203 h0_)) hb) (fun _ h_ => by first | trivial | exact h_ | exact h_.1))
               have z_HO212 := fun (h0_ : b 1 = false) => (show Kd.R (Kd.int .i64) 3 w99 w.heap.size (fun k_ => some k_ ≠ (v202 : Value).ownBlock ∧ some k_ ≠ (.slice Ao64 t217.length co64 : Value).ownBlock ∧ some k_ ≠ (.slice Ao82 t227.length co82 : Value).ownBlock ∧ some k_ ≠ (.slice Ao87 t235.length co87 : Value).ownBlock) (.slice Ao83 t210.length co83) t210 from by first | exact (Kd.R_below (by exact (Q_HO212 h0_)) hb) | exact Kd.R_mono (Kd.R_below (by exact (Q_HO212 h0_)) hb) (fun _ h_ => by first | trivial | exact h_ | exact h_.1))
               have z_HO219 := fun (h0_ : b 1 = false) => (show Kd.R (Kd.int .i64) 3 w99 w.heap.size (fun k_ => some k_ ≠ (v202 : Value).ownBlock ∧ some k_ ≠ (.slice Ao83 t210.length co83 : Value).ownBlock ∧ some k_ ≠ (.slice Ao82 t227.length co82 : Value).ownBlock ∧ some k_ ≠ (.slice Ao87 t235.length co87 : Value).ownBlock) (.slice Ao64 t217.length co64) t240 from by first | exact (Kd.R_below (by exact (Q_HO219 h0_)) hb) | exact Kd.R_mono (Kd.R_below (by exact (Q_HO219 h0_)) hb) (fun _ h_ => by first | trivial | exact h_ | exact h_.1))
               have z_HO229 := fun (h0_ : b 1 = false) => (show Kd.R (Kd.int .i64) 3 w99 w.heap.size (fun k_ => some k_ ≠ (v202 : Value).ownBlock ∧ some k_ ≠ (.slice Ao83 t210.length co83 : Value).ownBlock ∧ some k_ ≠ (.slice Ao64 t217.length co64 : Value).ownBlock ∧ some k_ ≠ (.slice Ao87 t235.length co87 : Value).ownBlock) (.slice Ao82 t227.length co82) t243 from by first | exact (Kd.R_below (by exact (Q_HO229 h0_)) hb) | exact Kd.R_mono (Kd.R_below (by exact (Q_HO229 h0_)) hb) (fun _ h_ => by first | trivial | exact h_ | exact h_.1))
               have z_HO237 := fun (h0_ : b 1 = false) => (show Kd.R (Kd.int .i64) 3 w99 w.heap.size (fun k_ => some k_ ≠ (v202 : Value).ownBlock ∧ some k_ ≠ (.slice Ao83 t210.length co83 : Value).ownBlock ∧ some k_ ≠ (.slice Ao64 t217.length co64 : Value).ownBlock ∧ some k_ ≠ (.slice Ao82 t227.length co82 : Value).ownBlock) (.slice Ao87 t235.length co87) t235 from by first | exact (Kd.R_below (by exact (Q_HO237 h0_)) hb) | exact Kd.R_mono (Kd.R_below (by exact (Q_HO237 h0_)) hb) (fun _ h_ => by first | trivial | exact h_ | exact h_.1))
               have z_HO203_e1 := fun (h0_ : b 1 = true) (h1_ : b 5 = false) => (show Kd.R (Kd.int .i64) 3 w99 w.heap.size (fun k_ => some k_ ≠ (.slice Ao83 t210.length co83 : Value).ownBlock ∧ some k_ ≠ (.slice Ao64 t217.length co64 : Value).ownBlock ∧ some k_ ≠ (.slice Ao82 t227.length co82 : Value).ownBlock ∧ some k_ ≠ (.slice Ao87 t235.length co87 : Value).ownBlock ∧ some k_ ≠ (v248 : Value).ownBlock) v202 t201 from by first | exact (Kd.R_below (by exact (Q_HO203_e1 h0_ h1_)) hb) | exact Kd.R_mono (Kd.R_below (by exact (Q_HO203_e1 h0_ h1_)) hb) (fun _ h_ => by first | trivial | exact h_ | exact h_.1))
               have z_HO212_e1 := fun (h0_ : b 1 = true) (h1_ : b 5 = false) => (show Kd.R (Kd.int .i64) 3 w99 w.heap.size (fun k_ => some k_ ≠ (v202 : Value).ownBlock ∧ some k_ ≠ (.slice Ao64 t217.length co64 : Value).ownBlock ∧ some k_ ≠ (.slice Ao82 t227.length co82 : Value).ownBlock ∧ some k_ ≠ (.slice Ao87 t235.length co87 : Value).ownBlock ∧ some k_ ≠ (v248 : Value).ownBlock) (.slice Ao83 t210.length co83) t210 from by first | exact (Kd.R_below (by exact (Q_HO212_e1 h0_ h1_)) hb) | exact Kd.R_mono (Kd.R_below (by exact (Q_HO212_e1 h0_ h1_)) hb) (fun _ h_ => by first | trivial | exact h_ | exact h_.1))
               have z_HO219_e1 := fun (h0_ : b 1 = true) (h1_ : b 5 = false) => (show Kd.R (Kd.int .i64) 3 w99 w.heap.size (fun k_ => some k_ ≠ (v202 : Value).ownBlock ∧ some k_ ≠ (.slice Ao83 t210.length co83 : Value).ownBlock ∧ some k_ ≠ (.slice Ao82 t227.length co82 : Value).ownBlock ∧ some k_ ≠ (.slice Ao87 t235.length co87 : Value).ownBlock ∧ some k_ ≠ (v248 : Value).ownBlock) (.slice Ao64 t217.length co64) t240 from by first | exact (Kd.R_below (by exact (Q_HO219_e1 h0_ h1_)) hb) | exact Kd.R_mono (Kd.R_below (by exact (Q_HO219_e1 h0_ h1_)) hb) (fun _ h_ => by first | trivial | exact h_ | exact h_.1))
               have z_HO229_e1 := fun (h0_ : b 1 = true) (h1_ : b 5 = false) => (show Kd.R (Kd.int .i64) 3 w99 w.heap.size (fun k_ => some k_ ≠ (v202 : Value).ownBlock ∧ some k_ ≠ (.slice Ao83 t210.length co83 : Value).ownBlock ∧ some k_ ≠ (.slice Ao64 t217.length co64 : Value).ownBlock ∧ some k_ ≠ (.slice Ao87 t235.length co87 : Value).ownBlock ∧ some k_ ≠ (v248 : Value).ownBlock) (.slice Ao82 t227.length co82) t243 from by first | exact (Kd.R_below (by exact (Q_HO229_e1 h0_ h1_)) hb) | exact Kd.R_mono (Kd.R_below (by exact (Q_HO229_e1 h0_ h1_)) hb) (fun _ h_ => by first | trivial | exact h_ | exact h_.1))
               have z_HO237_e1 := fun (h0_ : b 1 = true) (h1_ : b 5 = false) => (show Kd.R (Kd.int .i64) 3 w99 w.heap.size (fun k_ => some k_ ≠ (v202 : Value).ownBlock ∧ some k_ ≠ (.slice Ao83 t210.length co83 : Value).ownBlock ∧ some k_ ≠ (.slice Ao64 t217.length co64 : Value).ownBlock ∧ some k_ ≠ (.slice Ao82 t227.length co82 : Value).ownBlock ∧ some k_ ≠ (v248 : Value).ownBlock) (.slice Ao87 t235.length co87) t235 from by first | exact (Kd.R_below (by exact (Q_HO237_e1 h0_ h1_)) hb) | exact Kd.R_mono (Kd.R_below (by exact (Q_HO237_e1 h0_ h1_)) hb) (fun _ h_ => by first | trivial | exact h_ | exact h_.1))
               have z_HO249 := fun (h0_ : b 1 = true) (h1_ : b 5 = false) => (show Kd.R (Kd.int .i64) 3 w99 w.heap.size (fun k_ => some k_ ≠ (v202 : Value).ownBlock ∧ some k_ ≠ (.slice Ao83 t210.length co83 : Value).ownBlock ∧ some k_ ≠ (.slice Ao64 t217.length co64 : Value).ownBlock ∧ some k_ ≠ (.slice Ao82 t227.length co82 : Value).ownBlock ∧ some k_ ≠ (.slice Ao87 t235.length co87 : Value).ownBlock) v248 t247 from by first | exact (Kd.R_below (by exact (Q_HO249 h0_ h1_)) hb) | exact Kd.R_mono (Kd.R_below (by exact (Q_HO249 h0_ h1_)) hb) (fun _ h_ => by first | trivial | exact h_ | exact h_.1))
               have z_HO203_e5 := fun (h0_ : b 5 = true) => (show Kd.R (Kd.int .i64) 3 w99 w.heap.size (fun k_ => some k_ ≠ (.slice Ao83 t210.length co83 : Value).ownBlock ∧ some k_ ≠ (.slice Ao64 t217.length co64 : Value).ownBlock ∧ some k_ ≠ (.slice Ao82 t227.length co82 : Value).ownBlock ∧ some k_ ≠ (.slice Ao87 t235.length co87 : Value).ownBlock ∧ some k_ ≠ (v248 : Value).ownBlock ∧ some k_ ≠ (v257 : Value).ownBlock) v202 t201 from by first | exact (Kd.R_below (by exact (Q_HO203_e5 h0_)) hb) | exact Kd.R_mono (Kd.R_below (by exact (Q_HO203_e5 h0_)) hb) (fun _ h_ => by first | trivial | exact h_ | exact h_.1))
               have z_HO212_e5 := fun (h0_ : b 5 = true) => (show Kd.R (Kd.int .i64) 3 w99 w.heap.size (fun k_ => some k_ ≠ (v202 : Value).ownBlock ∧ some k_ ≠ (.slice Ao64 t217.length co64 : Value).ownBlock ∧ some k_ ≠ (.slice Ao82 t227.length co82 : Value).ownBlock ∧ some k_ ≠ (.slice Ao87 t235.length co87 : Value).ownBlock ∧ some k_ ≠ (v248 : Value).ownBlock ∧ some k_ ≠ (v257 : Value).ownBlock) (.slice Ao83 t210.length co83) t210 from by first | exact (Kd.R_below (by exact (Q_HO212_e5 h0_)) hb) | exact Kd.R_mono (Kd.R_below (by exact (Q_HO212_e5 h0_)) hb) (fun _ h_ => by first | trivial | exact h_ | exact h_.1))
               have z_HO219_e5 := fun (h0_ : b 5 = true) => (show Kd.R (Kd.int .i64) 3 w99 w.heap.size (fun k_ => some k_ ≠ (v202 : Value).ownBlock ∧ some k_ ≠ (.slice Ao83 t210.length co83 : Value).ownBlock ∧ some k_ ≠ (.slice Ao82 t227.length co82 : Value).ownBlock ∧ some k_ ≠ (.slice Ao87 t235.length co87 : Value).ownBlock ∧ some k_ ≠ (v248 : Value).ownBlock ∧ some k_ ≠ (v257 : Value).ownBlock) (.slice Ao64 t217.length co64) t240 from by first | exact (Kd.R_below (by exact (Q_HO219_e5 h0_)) hb) | exact Kd.R_mono (Kd.R_below (by exact (Q_HO219_e5 h0_)) hb) (fun _ h_ => by first | trivial | exact h_ | exact h_.1))
               have z_HO229_e5 := fun (h0_ : b 5 = true) => (show Kd.R (Kd.int .i64) 3 w99 w.heap.size (fun k_ => some k_ ≠ (v202 : Value).ownBlock ∧ some k_ ≠ (.slice Ao83 t210.length co83 : Value).ownBlock ∧ some k_ ≠ (.slice Ao64 t217.length co64 : Value).ownBlock ∧ some k_ ≠ (.slice Ao87 t235.length co87 : Value).ownBlock ∧ some k_ ≠ (v248 : Value).ownBlock ∧ some k_ ≠ (v257 : Value).ownBlock) (.slice Ao82 t227.length co82) t243 from by first | exact (Kd.R_below (by exact (Q_HO229_e5 h0_)) hb) | exact Kd.R_mono (Kd.R_below (by exact (Q_HO229_e5 h0_)) hb) (fun _ h_ => by first | trivial | exact h_ | exact h_.1))
               have z_HO237_e5 := fun (h0_ : b 5 = true) => (show Kd.R (Kd.int .i64) 3 w99 w.heap.size (fun k_ => some k_ ≠ (v202 : Value).ownBlock ∧ some k_ ≠ (.slice Ao83 t210.length co83 : Value).ownBlock ∧ some k_ ≠ (.slice Ao64 t217.length co64 : Value).ownBlock ∧ some k_ ≠ (.slice Ao82 t227.length co82 : Value).ownBlock ∧ some k_ ≠ (v248 : Value).ownBlock ∧ some k_ ≠ (v257 : Value).ownBlock) (.slice Ao87 t235.length co87) t235 from by first | exact (Kd.R_below (by exact (Q_HO237_e5 h0_)) hb) | exact Kd.R_mono (Kd.R_below (by exact (Q_HO237_e5 h0_)) hb) (fun _ h_ => by first | trivial | exact h_ | exact h_.1))
               have z_HO249_e5 := fun (h0_ : b 5 = true) => (show Kd.R (Kd.int .i64) 3 w99 w.heap.size (fun k_ => some k_ ≠ (v202 : Value).ownBlock ∧ some k_ ≠ (.slice Ao83 t210.length co83 : Value).ownBlock ∧ some k_ ≠ (.slice Ao64 t217.length co64 : Value).ownBlock ∧ some k_ ≠ (.slice Ao82 t227.length co82 : Value).ownBlock ∧ some k_ ≠ (.slice Ao87 t235.length co87 : Value).ownBlock ∧ some k_ ≠ (v257 : Value).ownBlock) v248 t247 from by first | exact (Kd.R_below (by exact (Q_HO249_e5 h0_)) hb) | exact Kd.R_mono (Kd.R_below (by exact (Q_HO249_e5 h0_)) hb) (fun _ h_ => by first | trivial | exact h_ | exact h_.1))
               have z_HO258 := fun (h0_ : b 5 = true) => (show Kd.R (Kd.int .i64) 3 w99 w.heap.size (fun k_ => some k_ ≠ (v202 : Value).ownBlock ∧ some k_ ≠ (.slice Ao83 t210.length co83 : Value).ownBlock ∧ some k_ ≠ (.slice Ao64 t217.length co64 : Value).ownBlock ∧ some k_ ≠ (.slice Ao82 t227.length co82 : Value).ownBlock ∧ some k_ ≠ (.slice Ao87 t235.length co87 : Value).ownBlock ∧ some k_ ≠ (v248 : Value).ownBlock) v257 t256 from by first | exact (Kd.R_below (by exact (Q_HO258 h0_)) hb) | exact Kd.R_mono (Kd.R_below (by exact (Q_HO258 h0_)) hb) (fun _ h_ => by first | trivial | exact h_ | exact h_.1))
               clear BK196
               clear BK197
               clear BK214
               clear BK220
               clear BK231
               clear HB
               have BK196 := n5_
               have BK197 := n6_
               have BK214 := n7_
               have BK220 := n8_
               have BK231 := n9_
               have HB := n10_
               have BK260 := n11_
               have GW260 := n12_
               have GE260 := n13_
               have NB196_260 := n14_
               have NB260_196 := n15_
               have NB197_260 := n16_
               have NB260_197 := n17_
               have NB214_260 := n18_
               have NB260_214 := n19_
               have NB220_260 := n20_
               have NB260_220 := n21_
               have NB231_260 := n22_
               have NB260_231 := n23_
               clear n5_ n6_ n7_ n8_ n9_ n10_ n11_ n12_ n13_ n14_ n15_ n16_ n17_ n18_ n19_ n20_ n21_ n22_ n23_
               clear hb hbox hg
               refine hK.out _ _ ⟨v248, v257, gb260, m1_, m5_, m6_, m7_, (.pointer (some ⟨gb260, 0, none⟩)), (by rw [ha.out]; exact putSel_upk 8 hb_ rfl rfl rfl), z_HO203, z_HO212, z_HO219, z_HO229, z_HO237, (by exact BK196.out), (by exact BK197.out), (by exact BK214.out), (by exact BK220.out), (by exact BK231.out), (by repeat (first | (with_reducible first | exact HB.out | apply below_alloc | apply pw_below_drewN | apply below_drew1 | refine below_set ?_ GE196.out | refine below_set ?_ GE197.out | refine below_set ?_ GE214.out | refine below_set ?_ GE220.out | refine below_set ?_ GE231.out | refine below_set ?_ GE260.out) | exact HB.out)), z_HO203_e1, z_HO212_e1, z_HO219_e1, z_HO229_e1, z_HO237_e1, z_HO249, z_HO203_e5, z_HO212_e5, z_HO219_e5, z_HO229_e5, z_HO237_e5, z_HO249_e5, z_HO258, fun _ _ => (by exact BK260.out), fun _ => GW260.out, fun _ => GE260.out, fun _ => NB196_260.out, fun _ => NB260_196.out, fun _ => NB197_260.out, fun _ => NB260_197.out, fun _ => NB214_260.out, fun _ => NB260_214.out, fun _ => NB220_260.out, fun _ => NB260_220.out, fun _ => NB231_260.out, fun _ => NB260_231.out, fun h0_ => absurd ((hoff 10 (by kernel_rfl)).symm.trans h0_) (by decide), Q_X1_, Q_X5_, Q_X6_, Q_X7_, fun _ => rfl⟩
              refine steps_cons ?_ ?_
              ·rintro b a w' ⟨v248, v257, gb260, m1_, m5_, m6_, m7_, m9_, ha, Q_HO203, Q_HO212, Q_HO219, Q_HO229, Q_HO237, Q_BK196, Q_BK197, Q_BK214, Q_BK220, Q_BK231, Q_HB, Q_HO203_e1, Q_HO212_e1, Q_HO219_e1, Q_HO229_e1, Q_HO237_e1, Q_HO249, Q_HO203_e5, Q_HO212_e5, Q_HO219_e5, Q_HO229_e5, Q_HO237_e5, Q_HO249_e5, Q_HO258, Q_BK260, Q_GW260, Q_GE260, Q_NB196_260, Q_NB260_196, Q_NB197_260, Q_NB260_197, Q_NB214_260, Q_NB260_214, Q_NB220_260, Q_NB260_220, Q_NB231_260, Q_NB260_231, Q_BK260_e10, Q_X1_, Q_X5_, Q_X6_, Q_X7_, Q_X9_⟩ hb_ hon hoff
               refine ⟨_, rfl, fun K hK => ?_⟩
               have e16 : a.tmps[16]? = some (m9_) := by rw [ha]; exact putSel_on (e := (9, 16, m9_)) 8 rfl rfl (hon 9 (by kernel_rfl)) rfl
               rw [Q_X9_ (hon 9 (by kernel_rfl))] at e16
               have e90 : a.tmps[90]? = some (m7_) := by rw [ha]; exact putSel_on (e := (7, 90, m7_)) 6 rfl rfl (hon 7 (by kernel_rfl)) rfl
               rw [Q_X7_ (hon 7 (by kernel_rfl))] at e90
               replace ha := Aside0.mk ha
               have BK196 := Aside0.mk Q_BK196
               have BK197 := Aside0.mk Q_BK197
               have BK214 := Aside0.mk Q_BK214
               have BK220 := Aside0.mk Q_BK220
               have BK231 := Aside0.mk Q_BK231
               have HB := Aside0.mk Q_HB
               have HO203 := Aside0.mk (Q_HO203_e5 (hon 5 (by kernel_rfl)))
               have HO212 := Aside0.mk (Q_HO212_e5 (hon 5 (by kernel_rfl)))
               have HO219 := Aside0.mk (Q_HO219_e5 (hon 5 (by kernel_rfl)))
               have HO229 := Aside0.mk (Q_HO229_e5 (hon 5 (by kernel_rfl)))
               have HO237 := Aside0.mk (Q_HO237_e5 (hon 5 (by kernel_rfl)))
               have HO249 := Aside0.mk (Q_HO249_e5 (hon 5 (by kernel_rfl)))
               have HO258 := Aside0.mk (Q_HO258 (hon 5 (by kernel_rfl)))
               have BK260 := Aside0.mk (Q_BK260 (hon 9 (by kernel_rfl)) hb_)
               have GW260 := Aside0.mk (Q_GW260 (hon 9 (by kernel_rfl)))
               have GE260 := Aside0.mk (Q_GE260 (hon 9 (by kernel_rfl)))
               have NB196_260 := Aside0.mk (Q_NB196_260 (hon 9 (by kernel_rfl)))
               have NB260_196 := Aside0.mk (Q_NB260_196 (hon 9 (by kernel_rfl)))
               have NB197_260 := Aside0.mk (Q_NB197_260 (hon 9 (by kernel_rfl)))
               have NB260_197 := Aside0.mk (Q_NB260_197 (hon 9 (by kernel_rfl)))
               have NB214_260 := Aside0.mk (Q_NB214_260 (hon 9 (by kernel_rfl)))
               have NB260_214 := Aside0.mk (Q_NB260_214 (hon 9 (by kernel_rfl)))
               have NB220_260 := Aside0.mk (Q_NB220_260 (hon 9 (by kernel_rfl)))
               have NB260_220 := Aside0.mk (Q_NB260_220 (hon 9 (by kernel_rfl)))
               have NB231_260 := Aside0.mk (Q_NB231_260 (hon 9 (by kernel_rfl)))
               have NB260_231 := Aside0.mk (Q_NB260_231 (hon 9 (by kernel_rfl)))
               obtain ⟨Ao107, co107, eo107⟩ := Kd.R_slice HO258.out
               (first | subst eo107 | (injection eo107 with f1_ f2_ f3_; have f4_ := f1_.symm; have f5_ := f3_.symm; clear f1_ f2_ f3_; subst f4_; subst f5_))
               have hs105 : w'.cell? ⟨gb260, 0, none⟩ = some (.int .i64 0) := (blk_cell BK260.out 0).trans rfl
               have hfs105 := blk_frozen BK260.out 0
               have hns105_0 := NB196_260.out
               have hns105_1 := NB197_260.out
               have hns105_2 := NB214_260.out
               have hns105_3 := NB220_260.out
               have hns105_4 := NB231_260.out
               have hms105_0 := NB260_196.out
               have hms105_1 := NB260_197.out
               have hms105_2 := NB260_214.out
               have hms105_3 := NB260_220.out
               have hms105_4 := NB260_231.out
               have hs106 : w'.cell? ⟨gb260, 1, none⟩ = some (.int .i64 0) := (blk_cell BK260.out 1).trans rfl
               have hfs106 := blk_frozen BK260.out 1
               have hns106_0 := NB196_260.out
               have hns106_1 := NB197_260.out
               have hns106_2 := NB214_260.out
               have hns106_3 := NB220_260.out
               have hns106_4 := NB231_260.out
               have hms106_0 := NB260_196.out
               have hms106_1 := NB260_197.out
               have hms106_2 := NB260_214.out
               have hms106_3 := NB260_220.out
               have hms106_4 := NB260_231.out
               have hs108 : w'.cell? ⟨gb260, 2, none⟩ = some (.slice none 0 0) := (blk_cell BK260.out 2).trans rfl
               have hfs108 := blk_frozen BK260.out 2
               have hns108_0 := NB196_260.out
               have hns108_1 := NB197_260.out
               have hns108_2 := NB214_260.out
               have hns108_3 := NB220_260.out
               have hns108_4 := NB231_260.out
               have hms108_0 := NB260_196.out
               have hms108_1 := NB260_197.out
               have hms108_2 := NB260_214.out
               have hms108_3 := NB260_220.out
               have hms108_4 := NB260_231.out
               refine skip_ (w1 := ?_) (by rfl) rfl ?_ ?_
               rotate_left
               ·go_simp
                rfl
               refine hK.out _ _ ⟨v248, .slice Ao107 t256.length co107, gb260, m1_, m5_, m6_, m7_, m9_, (by rw [ha.out]; exact putSel_none (v := undef) rfl), fun h0_ => absurd ((hon 1 (by kernel_rfl)).symm.trans h0_) (by decide), fun h0_ => absurd ((hon 1 (by kernel_rfl)).symm.trans h0_) (by decide), fun h0_ => absurd ((hon 1 (by kernel_rfl)).symm.trans h0_) (by decide), fun h0_ => absurd ((hon 1 (by kernel_rfl)).symm.trans h0_) (by decide), fun h0_ => absurd ((hon 1 (by kernel_rfl)).symm.trans h0_) (by decide), (by refine blk_far ?_ NB196_260.out _; refine blk_far ?_ NB196_260.out _; refine blk_far ?_ NB196_260.out _; exact BK196.out), (by refine blk_far ?_ NB197_260.out _; refine blk_far ?_ NB197_260.out _; refine blk_far ?_ NB197_260.out _; exact BK197.out), (by refine blk_far ?_ NB214_260.out _; refine blk_far ?_ NB214_260.out _; refine blk_far ?_ NB214_260.out _; exact BK214.out), (by refine blk_far ?_ NB220_260.out _; refine blk_far ?_ NB220_260.out _; refine blk_far ?_ NB220_260.out _; exact BK220.out), (by refine blk_far ?_ NB231_260.out _; refine blk_far ?_ NB231_260.out _; refine blk_far ?_ NB231_260.out _; exact BK231.out), (by repeat (first | (with_reducible first | exact HB.out | apply below_alloc | apply pw_below_drewN | apply below_drew1 | refine below_set ?_ GE196.out | refine below_set ?_ GE197.out | refine below_set ?_ GE214.out | refine below_set ?_ GE220.out | refine below_set ?_ GE231.out | refine below_set ?_ GE260.out) | exact HB.out)), fun _ h1_ => absurd ((hon 5 (by kernel_rfl)).symm.trans h1_) (by decide), fun _ h1_ => absurd ((hon 5 (by kernel_rfl)).symm.trans h1_) (by decide), fun _ h1_ => absurd ((hon 5 (by kernel_rfl)).symm.trans h1_) (by decide), fun _ h1_ => absurd ((hon 5 (by kernel_rfl)).symm.trans h1_) (by decide), fun _ h1_ => absurd ((hon 5 (by kernel_rfl)).symm.trans h1_) (by decide), fun _ h1_ => absurd ((hon 5 (by kernel_rfl)).symm.trans h1_) (by decide), fun _ => (by exact Kd.R_mono (Kd.R_far (p := ⟨gb260, 2, none⟩) (Kd.R_far (p := ⟨gb260, 1, none⟩) (Kd.R_far (p := ⟨gb260, 0, none⟩) (Kd.R_types HO203.out BK260.out (by decide)) (fun _ hk => hk.2) (.int .i64 t254)) (fun _ hk => hk.2) (.int .i64 t255)) (fun _ hk => hk.2) (.slice Ao107 t256.length co107)) (fun _ hk => ⟨hk.1.1, ⟨hk.1.2.1, ⟨hk.1.2.2.1, ⟨hk.1.2.2.2.1, ⟨hk.1.2.2.2.2.1, hk.1.2.2.2.2.2⟩⟩⟩⟩⟩)), fun _ => (by exact Kd.R_mono (Kd.R_far (p := ⟨gb260, 2, none⟩) (Kd.R_far (p := ⟨gb260, 1, none⟩) (Kd.R_far (p := ⟨gb260, 0, none⟩) (Kd.R_types HO212.out BK260.out (by decide)) (fun _ hk => hk.2) (.int .i64 t254)) (fun _ hk => hk.2) (.int .i64 t255)) (fun _ hk => hk.2) (.slice Ao107 t256.length co107)) (fun _ hk => ⟨hk.1.1, ⟨hk.1.2.1, ⟨hk.1.2.2.1, ⟨hk.1.2.2.2.1, ⟨hk.1.2.2.2.2.1, hk.1.2.2.2.2.2⟩⟩⟩⟩⟩)), fun _ => (by exact Kd.R_mono (Kd.R_far (p := ⟨gb260, 2, none⟩) (Kd.R_far (p := ⟨gb260, 1, none⟩) (Kd.R_far (p := ⟨gb260, 0, none⟩) (Kd.R_types HO219.out BK260.out (by decide)) (fun _ hk => hk.2) (.int .i64 t254)) (fun _ hk => hk.2) (.int .i64 t255)) (fun _ hk => hk.2) (.slice Ao107 t256.length co107)) (fun _ hk => ⟨hk.1.1, ⟨hk.1.2.1, ⟨hk.1.2.2.1, ⟨hk.1.2.2.2.1, ⟨hk.1.2.2.2.2.1, hk.1.2.2.2.2.2⟩⟩⟩⟩⟩)), fun _ => (by exact Kd.R_mono (Kd.R_far (p := ⟨gb260, 2, none⟩) (Kd.R_far (p := ⟨gb260, 1, none⟩) (Kd.R_far (p := ⟨gb260, 0, none⟩) (Kd.R_types HO229.out BK260.out (by decide)) (fun _ hk => hk.2) (.int .i64 t254)) (fun _ hk => hk.2) (.int .i64 t255)) (fun _ hk => hk.2) (.slice Ao107 t256.length co107)) (fun _ hk => ⟨hk.1.1, ⟨hk.1.2.1, ⟨hk.1.2.2.1, ⟨hk.1.2.2.2.1, ⟨hk.1.2.2.2.2.1, hk.1.2.2.2.2.2⟩⟩⟩⟩⟩)), fun _ => (by exact Kd.R_mono (Kd.R_far (p := ⟨gb260, 2, none⟩) (Kd.R_far (p := ⟨gb260, 1, none⟩) (Kd.R_far (p := ⟨gb260, 0, none⟩) (Kd.R_types HO237.out BK260.out (by decide)) (fun _ hk => hk.2) (.int .i64 t254)) (fun _ hk => hk.2) (.int .i64 t255)) (fun _ hk => hk.2) (.slice Ao107 t256.length co107)) (fun _ hk => ⟨hk.1.1, ⟨hk.1.2.1, ⟨hk.1.2.2.1, ⟨hk.1.2.2.2.1, ⟨hk.1.2.2.2.2.1, hk.1.2.2.2.2.2⟩⟩⟩⟩⟩)), fun _ => (by exact Kd.R_mono (Kd.R_far (p := ⟨gb260, 2, none⟩) (Kd.R_far (p := ⟨gb260, 1, none⟩) (Kd.R_far (p := ⟨gb260, 0, none⟩) (Kd.R_types HO249.out BK260.out (by decide)) (fun _ hk => hk.2) (.int .i64 t254)) (fun _ hk => hk.2) (.int .i64 t255)) (fun _ hk => hk.2) (.slice Ao107 t256.length co107)) (fun _ hk => ⟨hk.1.1, ⟨hk.1.2.1, ⟨hk.1.2.2.1, ⟨hk.1.2.2.2.1, ⟨hk.1.2.2.2.2.1, hk.1.2.2.2.2.2⟩⟩⟩⟩⟩)), fun _ => (by exact Kd.R_mono (Kd.R_far (p := ⟨gb260, 2, none⟩) (Kd.R_far (p := ⟨gb260, 1, none⟩) (Kd.R_far (p := ⟨gb260, 0, none⟩) (Kd.R_types HO258.out BK260.out (by decide)) (fun _ hk => hk.2) (.int .i64 t254)) (fun _ hk => hk.2) (.int .i64 t255)) (fun _ hk => hk.2) (.slice Ao107 t256.length co107)) (fun _ hk => ⟨hk.1.1, ⟨hk.1.2.1, ⟨hk.1.2.2.1, ⟨hk.1.2.2.2.1, ⟨hk.1.2.2.2.2.1, hk.1.2.2.2.2.2⟩⟩⟩⟩⟩)), fun _ h1_ => absurd ((up_self b 10).symm.trans h1_) (by decide), fun _ => GW260.out, fun _ => GE260.out, fun _ => NB196_260.out, fun _ => NB260_196.out, fun _ => NB197_260.out, fun _ => NB260_197.out, fun _ => NB214_260.out, fun _ => NB260_214.out, fun _ => NB220_260.out, fun _ => NB260_220.out, fun _ => NB231_260.out, fun _ => NB260_231.out, fun _ => (by refine blk_put (cs := #[.int .i64 t254, .int .i64 t255, .slice none 0 0]) ?_ 2 _ rfl; refine blk_put (cs := #[.int .i64 t254, .int .i64 0, .slice none 0 0]) ?_ 1 _ rfl; refine blk_put (cs := #[.int .i64 0, .int .i64 0, .slice none 0 0]) ?_ 0 _ rfl; exact BK260.out), Q_X1_, Q_X5_, Q_X6_, Q_X7_, Q_X9_⟩
              refine steps_cons ?_ ?_
              ·rintro b a w' ⟨v248, v257, gb260, m1_, m5_, m6_, m7_, m9_, ha, Q_HO203, Q_HO212, Q_HO219, Q_HO229, Q_HO237, Q_BK196, Q_BK197, Q_BK214, Q_BK220, Q_BK231, Q_HB, Q_HO203_e1, Q_HO212_e1, Q_HO219_e1, Q_HO229_e1, Q_HO237_e1, Q_HO249, Q_HO203_e5, Q_HO212_e5, Q_HO219_e5, Q_HO229_e5, Q_HO237_e5, Q_HO249_e5, Q_HO258, Q_BK260, Q_GW260, Q_GE260, Q_NB196_260, Q_NB260_196, Q_NB197_260, Q_NB260_197, Q_NB214_260, Q_NB260_214, Q_NB220_260, Q_NB260_220, Q_NB231_260, Q_NB260_231, Q_BK260_e10, Q_X1_, Q_X5_, Q_X6_, Q_X7_, Q_X9_⟩ hb_ hon hoff
               refine ⟨_, rfl, fun K hK => ?_⟩
               have e91 : a.tmps[91]? = some (.bool t259) := by rw [ha]; exact putSel_on (e := (8, 91, .bool t259)) 7 rfl rfl (hon 8 (by kernel_rfl)) rfl
               replace ha := Aside0.mk ha
               have BK196 := Aside0.mk Q_BK196
               have BK197 := Aside0.mk Q_BK197
               have BK214 := Aside0.mk Q_BK214
               have BK220 := Aside0.mk Q_BK220
               have BK231 := Aside0.mk Q_BK231
               have HB := Aside0.mk Q_HB
               have HO203 := Aside0.mk (Q_HO203_e5 (hon 5 (by kernel_rfl)))
               have HO212 := Aside0.mk (Q_HO212_e5 (hon 5 (by kernel_rfl)))
               have HO219 := Aside0.mk (Q_HO219_e5 (hon 5 (by kernel_rfl)))
               have HO229 := Aside0.mk (Q_HO229_e5 (hon 5 (by kernel_rfl)))
               have HO237 := Aside0.mk (Q_HO237_e5 (hon 5 (by kernel_rfl)))
               have HO249 := Aside0.mk (Q_HO249_e5 (hon 5 (by kernel_rfl)))
               have HO258 := Aside0.mk (Q_HO258 (hon 5 (by kernel_rfl)))
               have GW260 := Aside0.mk (Q_GW260 (hon 9 (by kernel_rfl)))
               have GE260 := Aside0.mk (Q_GE260 (hon 9 (by kernel_rfl)))
               have NB196_260 := Aside0.mk (Q_NB196_260 (hon 9 (by kernel_rfl)))
               have NB260_196 := Aside0.mk (Q_NB260_196 (hon 9 (by kernel_rfl)))
               have NB197_260 := Aside0.mk (Q_NB197_260 (hon 9 (by kernel_rfl)))
               have NB260_197 := Aside0.mk (Q_NB260_197 (hon 9 (by kernel_rfl)))
               have NB214_260 := Aside0.mk (Q_NB214_260 (hon 9 (by kernel_rfl)))
               have NB260_214 := Aside0.mk (Q_NB260_214 (hon 9 (by kernel_rfl)))
               have NB220_260 := Aside0.mk (Q_NB220_260 (hon 9 (by kernel_rfl)))
               have NB260_220 := Aside0.mk (Q_NB260_220 (hon 9 (by kernel_rfl)))
               have NB231_260 := Aside0.mk (Q_NB231_260 (hon 9 (by kernel_rfl)))
               have NB260_231 := Aside0.mk (Q_NB260_231 (hon 9 (by kernel_rfl)))
               have BK260 := Aside0.mk (Q_BK260_e10 (hon 10 (by kernel_rfl)))
               refine value_ (w1 := w') (v := .bool t259) (by rfl) rfl ?_ ?_
               ·go_simp
                (try simp only [i64_w])
                try rfl
               refine hK.out _ _ ⟨v248, v257, gb260, m1_, m5_, m6_, m7_, m9_, (by rw [ha.out]; exact putSel_upk 9 hb_ rfl rfl rfl), fun h0_ => absurd ((hon 1 (by kernel_rfl)).symm.trans h0_) (by decide), fun h0_ => absurd ((hon 1 (by kernel_rfl)).symm.trans h0_) (by decide), fun h0_ => absurd ((hon 1 (by kernel_rfl)).symm.trans h0_) (by decide), fun h0_ => absurd ((hon 1 (by kernel_rfl)).symm.trans h0_) (by decide), fun h0_ => absurd ((hon 1 (by kernel_rfl)).symm.trans h0_) (by decide), Q_BK196, Q_BK197, Q_BK214, Q_BK220, Q_BK231, Q_HB, fun _ h1_ => absurd ((hon 5 (by kernel_rfl)).symm.trans h1_) (by decide), fun _ h1_ => absurd ((hon 5 (by kernel_rfl)).symm.trans h1_) (by decide), fun _ h1_ => absurd ((hon 5 (by kernel_rfl)).symm.trans h1_) (by decide), fun _ h1_ => absurd ((hon 5 (by kernel_rfl)).symm.trans h1_) (by decide), fun _ h1_ => absurd ((hon 5 (by kernel_rfl)).symm.trans h1_) (by decide), fun _ h1_ => absurd ((hon 5 (by kernel_rfl)).symm.trans h1_) (by decide), Q_HO203_e5, Q_HO212_e5, Q_HO219_e5, Q_HO229_e5, Q_HO237_e5, Q_HO249_e5, Q_HO258, fun _ h1_ => absurd ((hon 10 (by kernel_rfl)).symm.trans h1_) (by decide), Q_GW260, Q_GE260, Q_NB196_260, Q_NB260_196, Q_NB197_260, Q_NB260_197, Q_NB214_260, Q_NB260_214, Q_NB220_260, Q_NB260_220, Q_NB231_260, Q_NB260_231, Q_BK260_e10, Q_X1_, Q_X5_, Q_X6_, Q_X7_, Q_X9_⟩
              exact steps_nil
             rintro b a w108 hall ⟨v248, v257, gb260, m1_, m5_, m6_, m7_, m9_, ha, Q_HO203, Q_HO212, Q_HO219, Q_HO229, Q_HO237, Q_BK196, Q_BK197, Q_BK214, Q_BK220, Q_BK231, Q_HB, Q_HO203_e1, Q_HO212_e1, Q_HO219_e1, Q_HO229_e1, Q_HO237_e1, Q_HO249, Q_HO203_e5, Q_HO212_e5, Q_HO219_e5, Q_HO229_e5, Q_HO237_e5, Q_HO249_e5, Q_HO258, Q_BK260, Q_GW260, Q_GE260, Q_NB196_260, Q_NB260_196, Q_NB197_260, Q_NB260_197, Q_NB214_260, Q_NB260_214, Q_NB220_260, Q_NB260_220, Q_NB231_260, Q_NB260_231, Q_BK260_e10, Q_X1_, Q_X5_, Q_X6_, Q_X7_, Q_X9_⟩
             clear BK196 BK197 BK214 BK220 BK231 HB HO203 HO212 HO219 HO229 HO237
             have hb0_ := hall 0 (by kernel_rfl)
             have hb1_ := hall 1 (by kernel_rfl)
             have hb2_ := hall 2 (by kernel_rfl)
             have hb3_ := hall 3 (by kernel_rfl)
             have hb5_ := hall 5 (by kernel_rfl)
             have hb6_ := hall 6 (by kernel_rfl)
             have hb7_ := hall 7 (by kernel_rfl)
             have hb8_ := hall 8 (by kernel_rfl)
             have hb9_ := hall 9 (by kernel_rfl)
             have hb10_ := hall 10 (by kernel_rfl)
             have hb11_ := hall 11 (by kernel_rfl)
             subst ha
             obtain rfl := Q_X1_ hb1_
             obtain rfl := Q_X5_ hb5_
             obtain rfl := Q_X6_ hb6_
             obtain rfl := Q_X7_ hb7_
             obtain rfl := Q_X9_ hb9_
             simp only [putSel, hb0_, hb1_, hb2_, hb3_, hb5_, hb6_, hb7_, hb8_, hb9_, hb10_, hb11_, if_true, Act.put, List.setIfInBounds_toArray, List.set_cons_zero, List.set_cons_succ]
             clear Q_HO203
             clear Q_HO212
             clear Q_HO219
             clear Q_HO229
             clear Q_HO237
             have BK196 := Aside0.mk Q_BK196
             clear Q_BK196
             have BK197 := Aside0.mk Q_BK197
             clear Q_BK197
             have BK214 := Aside0.mk Q_BK214
             clear Q_BK214
             have BK220 := Aside0.mk Q_BK220
             clear Q_BK220
             have BK231 := Aside0.mk Q_BK231
             clear Q_BK231
             have HB := Aside0.mk Q_HB
             clear Q_HB
             clear Q_HO203_e1
             clear Q_HO212_e1
             clear Q_HO219_e1
             clear Q_HO229_e1
             clear Q_HO237_e1
             clear Q_HO249
             have HO203 := Aside0.mk (Q_HO203_e5 hb5_)
             clear Q_HO203_e5
             have HO212 := Aside0.mk (Q_HO212_e5 hb5_)
             clear Q_HO212_e5
             have HO219 := Aside0.mk (Q_HO219_e5 hb5_)
             clear Q_HO219_e5
             have HO229 := Aside0.mk (Q_HO229_e5 hb5_)
             clear Q_HO229_e5
             have HO237 := Aside0.mk (Q_HO237_e5 hb5_)
             clear Q_HO237_e5
             have HO249 := Aside0.mk (Q_HO249_e5 hb5_)
             clear Q_HO249_e5
             have HO258 := Aside0.mk (Q_HO258 hb5_)
             clear Q_HO258
             clear Q_BK260
             have GW260 := Aside0.mk (Q_GW260 hb9_)
             clear Q_GW260
             have GE260 := Aside0.mk (Q_GE260 hb9_)
             clear Q_GE260
             have NB196_260 := Aside0.mk (Q_NB196_260 hb9_)
             clear Q_NB196_260
             have NB260_196 := Aside0.mk (Q_NB260_196 hb9_)
             clear Q_NB260_196
             have NB197_260 := Aside0.mk (Q_NB197_260 hb9_)
             clear Q_NB197_260
             have NB260_197 := Aside0.mk (Q_NB260_197 hb9_)
             clear Q_NB260_197
             have NB214_260 := Aside0.mk (Q_NB214_260 hb9_)
             clear Q_NB214_260
             have NB260_214 := Aside0.mk (Q_NB260_214 hb9_)
             clear Q_NB260_214
             have NB220_260 := Aside0.mk (Q_NB220_260 hb9_)
             clear Q_NB220_260
             have NB260_220 := Aside0.mk (Q_NB260_220 hb9_)
             clear Q_NB260_220
             have NB231_260 := Aside0.mk (Q_NB231_260 hb9_)
             clear Q_NB231_260
             have NB260_231 := Aside0.mk (Q_NB260_231 hb9_)
             clear Q_NB260_231
             have BK260 := Aside0.mk (Q_BK260_e10 hb10_)
             clear Q_BK260_e10
             clear hall hb0_ hb1_ hb2_ hb3_ hb5_ hb6_ hb7_ hb8_ hb9_ hb10_ hb11_
             have hnb109 := NB260_196.out
             have hnc109 := NB196_260.out
             have hnb110 := NB260_197.out
             have hnc110 := NB197_260.out
             have hnb111 := NB260_214.out
             have hnc111 := NB214_260.out
             have hnb112 := NB260_220.out
             have hnc112 := NB220_260.out
             have hnb113 := NB260_231.out
             have hnc113 := NB231_260.out
             have hcz114_0 : w108.cell? ⟨gb260, 0, none⟩ = some (.int .i64 t254) := (blk_cell BK260.out 0).trans rfl
             have hcz114_1 : w108.cell? ⟨gb260, 1, none⟩ = some (.int .i64 t255) := (blk_cell BK260.out 1).trans rfl
             have hcz114_2 : w108.cell? ⟨gb260, 2, none⟩ = some (v257) := (blk_cell BK260.out 2).trans rfl
             have hfz114_0 := blk_frozen BK260.out 0
             have hfz114_1 := blk_frozen BK260.out 1
             have hfz114_2 := blk_frozen BK260.out 2
             have hcz115_0 : w108.cell? ⟨gb214, 0, none⟩ = some (.int .i64 t208) := (blk_cell BK214.out 0).trans rfl
             have hcz115_1 : w108.cell? ⟨gb214, 1, none⟩ = some (.int .i64 t209) := (blk_cell BK214.out 1).trans rfl
             have hcz115_2 : w108.cell? ⟨gb214, 2, none⟩ = some (.slice Ao83 t210.length co83) := (blk_cell BK214.out 2).trans rfl
             have hfz115_0 := blk_frozen BK214.out 0
             have hfz115_1 := blk_frozen BK214.out 1
             have hfz115_2 := blk_frozen BK214.out 2
             obtain ⟨Ao116, co116, eo116⟩ := Kd.R_slice HO258.out
             subst eo116
             try go_wp2_with (first | ((with_reducible refine gate_callee (f := 29) rfl ?_); refine goesL_ (some 94) rfl rfl Try.func29 (by kernel_rfl) rfl #[.agg #[.int .i64 t254, .int .i64 t255, .slice Ao116 t256.length co116], .agg #[.int .i64 t208, .int .i64 t209, .slice Ao83 t210.length co83]] rfl (by (try simp only [List.map_toArray, List.map_cons, List.map_nil]); first | done | rfl | (simp only [List.length_drop, List.length_take]; rfl)) ?_; (with_reducible refine (laws_eqSheet.calls k t254 t255 _ _ t256 t208 t209 _ _ t210 true _ ?side1 ?side2 ?side3 ?side4 A34.out).mono ?_); (case side1 => repeat (first | exact (Kd.R_reads' HO258.out).2.2 | (with_reducible refine Kd.C_alloc ?_ _) | (with_reducible refine Kd.C_drewN ?_ _) | (with_reducible refine Kd.C_drew ?_))); (case side2 => exact (Kd.R_reads' HO258.out).2.1); (case side3 => repeat (first | exact (Kd.R_reads' HO212.out).2.2 | (with_reducible refine Kd.C_alloc ?_ _) | (with_reducible refine Kd.C_drewN ?_ _) | (with_reducible refine Kd.C_drew ?_))); (case side4 => exact (Kd.R_reads' HO212.out).2.1); rintro e w117 ⟨rfl, hb⟩; refine ⟨_, rfl, ?_⟩; have n0_ := Aside0.mk (Kd.R_below (by exact HO203.out) hb); have n1_ := Aside0.mk (Kd.R_below (by exact HO212.out) hb); have n2_ := Aside0.mk (Kd.R_below (by exact HO219.out) hb); have n3_ := Aside0.mk (Kd.R_below (by exact HO229.out) hb); have n4_ := Aside0.mk (Kd.R_below (by exact HO237.out) hb); have n5_ := Aside0.mk (Kd.R_below (by exact HO249.out) hb); have n6_ := Aside0.mk (Kd.R_below (by exact HO258.out) hb); have n7_ := Aside0.mk (blk_below (g := gb196) (o := .cells #[.int .i64 a0_0, .int .i64 a0_1, .slice A0_2 l0_2.length c0_2] 33 (0, 0)) (by exact BK196.out) hb); have n8_ := Aside0.mk (blk_below (g := gb197) (o := .cells #[.int .i64 a1_0, .int .i64 a1_1, .int .i64 a1_2, .int .i64 a1_3] 35 (0, 0)) (by exact BK197.out) hb); have n9_ := Aside0.mk (blk_below (g := gb214) (o := .cells #[.int .i64 t208, .int .i64 t209, .slice Ao83 t210.length co83] 37 (0, 0)) (by exact BK214.out) hb); have n10_ := Aside0.mk (blk_below (g := gb220) (o := .cells #[.int .i64 t215, .int .i64 t216, .slice Ao64 t217.length co64] 37 (0, 0)) (by exact BK220.out) hb); have n11_ := Aside0.mk (blk_below (g := gb231) (o := .cells #[.int .i64 t225, .int .i64 t226, .slice Ao82 t227.length co82] 37 (0, 0)) (by exact BK231.out) hb); have n12_ := Aside0.mk (blk_below (g := gb260) (o := .cells #[.int .i64 t254, .int .i64 t255, .slice Ao116 t256.length co116] 37 (0, 0)) (by exact BK260.out) hb); have n13_ := Aside0.mk (below_step (by repeat (first | (with_reducible first | exact HB.out | apply below_alloc | apply pw_below_drewN | apply below_drew1 | refine below_set ?_ GE196.out | refine below_set ?_ GE197.out | refine below_set ?_ GE214.out | refine below_set ?_ GE220.out | refine below_set ?_ GE231.out | refine below_set ?_ GE260.out) | exact HB.out)) hb); clear HO203; clear HO212; clear HO219; clear HO229; clear HO237; clear HO249; clear HO258; clear BK196; clear BK197; clear BK214; clear BK220; clear BK231; clear BK260; clear HB; have HO203 := n0_; have HO212 := n1_; have HO219 := n2_; have HO229 := n3_; have HO237 := n4_; have HO249 := n5_; have HO258 := n6_; have BK196 := n7_; have BK197 := n8_; have BK214 := n9_; have BK220 := n10_; have BK231 := n11_; have BK260 := n12_; have HB := n13_; clear n0_ n1_ n2_ n3_ n4_ n5_ n6_ n7_ n8_ n9_ n10_ n11_ n12_ n13_; (try clear hb); (try clear hb2); (try clear hk); (try clear hi); have hcz118_0 : w117.cell? ⟨gb231, 0, none⟩ = some (.int .i64 t225) := (blk_cell BK231.out 0).trans rfl; have hcz118_1 : w117.cell? ⟨gb231, 1, none⟩ = some (.int .i64 t226) := (blk_cell BK231.out 1).trans rfl; have hcz118_2 : w117.cell? ⟨gb231, 2, none⟩ = some (.slice Ao82 t227.length co82) := (blk_cell BK231.out 2).trans rfl; have hfz118_0 := blk_frozen BK231.out 0; have hfz118_1 := blk_frozen BK231.out 1; have hfz118_2 := blk_frozen BK231.out 2) | ((with_reducible refine gate_callee (f := 31) rfl ?_); refine goesL_ (some 103) rfl rfl Try.func31 (by kernel_rfl) rfl #[.agg #[.int .i64 t225, .int .i64 t226, .slice Ao82 t243.length co82], .int .i64 1] rfl (by (try simp only [List.map_toArray, List.map_cons, List.map_nil]); first | done | (rw [show t243.length = t227.length from (Kd.R_reads' HO229.out).1.symm] <;> rfl) | rfl | (simp only [List.length_drop, List.length_take]; rfl)) ?_; (with_reducible refine (laws_heldSheet.calls k t225 t226 _ _ t243 1 t262 _ ?side1 ?side2 A37.out).mono ?_); (case side1 => repeat (first | exact (Kd.R_reads' HO229.out).2.2 | (with_reducible refine Kd.C_alloc ?_ _) | (with_reducible refine Kd.C_drewN ?_ _) | (with_reducible refine Kd.C_drew ?_))); (case side2 => rw [show t243.length = t227.length from (Kd.R_reads' HO229.out).1.symm]; exact (Kd.R_reads' HO229.out).2.1); rintro e w119 ⟨rfl, hb⟩; refine ⟨_, rfl, ?_⟩; have n0_ := Aside0.mk (Kd.R_below (by exact HO203.out) hb); have n1_ := Aside0.mk (Kd.R_below (by exact HO212.out) hb); have n2_ := Aside0.mk (Kd.R_below (by exact HO219.out) hb); have n3_ := Aside0.mk (Kd.R_below (by exact HO229.out) hb); have n4_ := Aside0.mk (Kd.R_below (by exact HO237.out) hb); have n5_ := Aside0.mk (Kd.R_below (by exact HO249.out) hb); have n6_ := Aside0.mk (Kd.R_below (by exact HO258.out) hb); have n7_ := Aside0.mk (blk_below (g := gb196) (o := .cells #[.int .i64 a0_0, .int .i64 a0_1, .slice A0_2 l0_2.length c0_2] 33 (0, 0)) (by exact BK196.out) hb); have n8_ := Aside0.mk (blk_below (g := gb197) (o := .cells #[.int .i64 a1_0, .int .i64 a1_1, .int .i64 a1_2, .int .i64 a1_3] 35 (0, 0)) (by exact BK197.out) hb); have n9_ := Aside0.mk (blk_below (g := gb214) (o := .cells #[.int .i64 t208, .int .i64 t209, .slice Ao83 t210.length co83] 37 (0, 0)) (by exact BK214.out) hb); have n10_ := Aside0.mk (blk_below (g := gb220) (o := .cells #[.int .i64 t215, .int .i64 t216, .slice Ao64 t217.length co64] 37 (0, 0)) (by exact BK220.out) hb); have n11_ := Aside0.mk (blk_below (g := gb231) (o := .cells #[.int .i64 t225, .int .i64 t226, .slice Ao82 t227.length co82] 37 (0, 0)) (by exact BK231.out) hb); have n12_ := Aside0.mk (blk_below (g := gb260) (o := .cells #[.int .i64 t254, .int .i64 t255, .slice Ao116 t256.length co116] 37 (0, 0)) (by exact BK260.out) hb); have n13_ := Aside0.mk (below_step (by repeat (first | (with_reducible first | exact HB.out | apply below_alloc | apply pw_below_drewN | apply below_drew1 | refine below_set ?_ GE196.out | refine below_set ?_ GE197.out | refine below_set ?_ GE214.out | refine below_set ?_ GE220.out | refine below_set ?_ GE231.out | refine below_set ?_ GE260.out) | exact HB.out)) hb); clear HO203; clear HO212; clear HO219; clear HO229; clear HO237; clear HO249; clear HO258; clear BK196; clear BK197; clear BK214; clear BK220; clear BK231; clear BK260; clear HB; have HO203 := n0_; have HO212 := n1_; have HO219 := n2_; have HO229 := n3_; have HO237 := n4_; have HO249 := n5_; have HO258 := n6_; have BK196 := n7_; have BK197 := n8_; have BK214 := n9_; have BK220 := n10_; have BK231 := n11_; have BK260 := n12_; have HB := n13_; clear n0_ n1_ n2_ n3_ n4_ n5_ n6_ n7_ n8_ n9_ n10_ n11_ n12_ n13_; (try clear hb); (try clear hb2); (try clear hk); (try clear hi)))
             go_ret
             exact ⟨by first | rfl | (simp [errW_none, errW_some] <;> rfl) | (simp [*, errW_none, errW_some] <;> rfl), by repeat (first | (with_reducible first | exact HB.out | apply below_alloc | apply pw_below_drewN | apply below_drew1 | refine below_set ?_ GE196.out | refine below_set ?_ GE197.out | refine below_set ?_ GE214.out | refine below_set ?_ GE220.out | refine below_set ?_ GE231.out | refine below_set ?_ GE260.out) | exact HB.out)⟩
            ·rw [if_neg c39] at H
             have c39b0 : (t262 == t242) = false := beq_eq_false_iff_ne.mpr c39
             have c39b1 : (t262 != t242) = true := bne_iff_ne.mpr c39
             exact absurd H (by decide)
         ·replace c35 := Bool.eq_false_iff.mpr c35
          subst c35
          have H1 : (some false) = some true := by rw [if_neg (show ¬ (false = true) by decide)] at H; exact H
          clear H
          have H := H1
          clear H1
          exact absurd H (by decide)
        ·rw [if_neg c30] at H
         have c30b0 : (t244 == t242) = false := beq_eq_false_iff_ne.mpr c30
         have c30b1 : (t244 != t242) = true := bne_iff_ne.mpr c30
         exact absurd H (by decide)
      ·replace c26 := Bool.eq_false_iff.mpr c26
       subst c26
       have H1 : (some false) = some true := by rw [if_neg (show ¬ (false = true) by decide)] at H; exact H
       clear H
       have H := H1
       clear H1
       exact absurd H (by decide)
    ·replace c22 := Bool.eq_false_iff.mpr c22
     subst c22
     have H1 : (some false) = some true := by rw [if_neg (show ¬ (false = true) by decide)] at H; exact H
     clear H
     have H := H1
     clear H1
     exact absurd H (by decide)
  ·replace c18 := Bool.eq_false_iff.mpr c18
   subst c18
   have H1 : (some false) = some true := by rw [if_neg (show ¬ (false = true) by decide)] at H; exact H
   clear H
   have H := H1
   clear H1
   exact absurd H (by decide)

/-- THE ONE PURE STATEMENT of laws_FnExactPaintBox: yours. -/
def laws_FnExactPaintBox.Pure : Prop := ∀ (a0_0 : Int) (a0_1 : Int) (l0_2 : List Int) (a1_0 : Int) (a1_1 : Int) (a1_2 : Int) (a1_3 : Int) (a2 : Int), (Lit.int .i64 a0_0).wf = true → (Lit.int .i64 a0_1).wf = true → (l0_2.length ≤ maxLen ∧ ∀ y1_ ∈ l0_2, (Lit.int .i64 y1_).wf = true) → (Lit.int .i64 a1_0).wf = true → (Lit.int .i64 a1_1).wf = true → (Lit.int .i64 a1_2).wf = true → (Lit.int .i64 a1_3).wf = true → (Lit.int .i64 a2).wf = true → ∃ k, laws_FnExactPaintBox.f k a0_0 a0_1 l0_2 a1_0 a1_1 a1_2 a1_3 a2 = some true
theorem laws_FnExactPaintBox.walk (P : laws_FnExactPaintBox.Pure) (a0_0 : Int) (a0_1 : Int) (A0_2 : Option Addr) (c0_2 : Nat) (l0_2 : List Int) (a1_0 : Int) (a1_1 : Int) (a1_2 : Int) (a1_3 : Int) (a2 : Int) (w : World) (g0_0 : (Lit.int .i64 a0_0).wf = true) (g0_1 : (Lit.int .i64 a0_1).wf = true) (hr0_2 : Kd.C (Kd.int .i64) w A0_2 l0_2.length l0_2) (hc0_2 : l0_2.length ≤ c0_2) (g0_2 : (l0_2.length ≤ maxLen ∧ ∀ y2_ ∈ l0_2, (Lit.int .i64 y2_).wf = true)) (g1_0 : (Lit.int .i64 a1_0).wf = true) (g1_1 : (Lit.int .i64 a1_1).wf = true) (g1_2 : (Lit.int .i64 a1_2).wf = true) (g1_3 : (Lit.int .i64 a1_3).wf = true) (g2 : (Lit.int .i64 a2).wf = true) :
  Calls Try.prog 5 #[.agg #[.int .i64 a0_0, .int .i64 a0_1, .slice A0_2 l0_2.length c0_2], .agg #[.int .i64 a1_0, .int .i64 a1_1, .int .i64 a1_2, .int .i64 a1_3], .int .i64 a2] w fun e w' => e = .returned (.bool true) ∧ Below w.heap.size w w' := by
 obtain ⟨k, h⟩ := P a0_0 a0_1 l0_2 a1_0 a1_1 a1_2 a1_3 a2 g0_0 g0_1 g0_2 g1_0 g1_1 g1_2 g1_3 g2
 refine (laws_FnExactPaintBox.calls k a0_0 a0_1 A0_2 c0_2 l0_2 a1_0 a1_1 a1_2 a1_3 a2 w hr0_2 hc0_2 h).mono ?_
 rintro e w' ⟨rfl, hd⟩
 exact ⟨rfl, hd⟩

end Go.Proofs.Ytnebjoanfknmeaa.XFnExactPaintBox
