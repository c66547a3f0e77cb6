-- Lean text written by a program of this session out of the translation
import Derived.Test.YtnebjoanfknmeaaRows
import Derived.Test.YtnebjoanfknmeaaXFnExactPaintBoxx6
import Derived.Test.YtnebjoanfknmeaaPureFnExactPaintBox
import Derived.Test.YtnebjoanfknmeaaXOpen
import Derived.WalkKit
import Derived.ProofKit
import Derived.OpenShut
import Derived.ShutString
import Derived.ChangeOld
import Derived.Below
import Derived.SizedLaws
import Derived.Lib.SmallJoins
namespace Go.Proofs.Ytnebjoanfknmeaa.fnExactPaintBox
open Go.ChangeShapes Go.WideShapes Go.ChangeAt Go.RowKit Go.Joins Go.Proofs.Ytnebjoanfknmeaa.XOpen Go.Proofs.Ytnebjoanfknmeaa.XFnExactPaintBox Go.Proofs.YtnebjoanfknmeaaW.PrintWords
open Go.ChangeMaps (open_string shut_string)
set_option linter.unusedVariables false
theorem own : ownKnob Try.prog.godebug = none := by kernel_rfl
theorem laidOut : laidOutB Try.prog = true := by kernel_rfl
set_option maxRecDepth 100000 in
theorem lifted (os : Os) (started : os.Started) (H : Type) (enc : TypeId × Value → H) :
    ReturnsInHanded {} Try.checked os 5 .any (Rows.fnExactPaintBoxSpec.pre6 enc Try.prog Try.f5 Rows.fnExactPaintBoxRow.domain false) (Rows.fnExactPaintBoxSpec.post enc Try.prog Try.f5 false true false false) := by
  refine returnsInHanded_of_change_sized (C := Try.checked) own started (by kernel_rfl) Try.func5
    (ChangeSpec.witness6 (enc := enc) (C := Try.checked) false ⟨#[], #[.agg #[.int .i64 0, .int .i64 0, .slice none 0 0], .agg #[.int .i64 0, .int .i64 0, .int .i64 0, .int .i64 0], .int .i64 0], []⟩ 8 (by kernel_rfl) (by kernel_rfl) (by kernel_rfl) (by kernel_rfl)) ?_
  intro W base args ds gs before hval0 hW hcnd hsz0 _
  have hval : ∀ (j : Nat) t v, Try.f5.params[j]? = some t → args[j]? = some v → Value.okWide Try.prog W .any base t v := hval0
  have hW' := hW
  obtain ⟨p, q, hA0, hV, rfl, hfz, hnd⟩ := hW
  have hA : DataW.TrodAll enc Try.prog W 0 (fun _ => true) true Try.f5.params.toList args.toList ds p := hA0
  rw [Try.params5] at hA hval
  obtain ⟨v0, vs0, d0, ds0, p0, q0, hargs, rfl, rfl, h0, r0⟩ := trodAll_cons hA
  obtain ⟨v1, vs1, d1, ds1, p1, q1, rfl, rfl, rfl, h1, r1⟩ := trodAll_cons r0
  obtain ⟨v2, vs2, d2, ds2, p2, q2, rfl, rfl, rfl, h2, r2⟩ := trodAll_cons r1
  obtain ⟨rfl, rfl, rfl⟩ := trodAll_nil r2
  obtain rfl : args = #[v0, v1, v2] := by cases args; simp_all
  obtain ⟨rfl, rfl⟩ := trodVars_none hV
  have k0 := h0
  have lt0 : ∀ x ∈ p0, x.block < W.heap.size := by obtain ⟨m, hm⟩ := k0; exact DataW.trod_lt m _ _ _ hm
  obtain ⟨e0_0, e0_1, e0_2, z0_0, z0_1, z0_2, m0, rfl, _, _, hy0_0, hy0_1, hy0_2⟩ := open_agg3 Try.underlying33 (by kernel_rfl) (by kernel_rfl) (hval 0 33 v0 rfl rfl) h0
  obtain ⟨a0_0, he0_0, g0_0⟩ := (opens_int Try.underlying3) hy0_0
  obtain rfl : e0_0 = .int .i64 a0_0 := (List.cons.inj he0_0).1
  obtain ⟨a0_1, he0_1, g0_1⟩ := (opens_int Try.underlying3) hy0_1
  obtain rfl : e0_1 = .int .i64 a0_1 := (List.cons.inj he0_1).1
  obtain ⟨l0_2, ⟨A0_2, c0_2, he0_2, hc0_2, hr0_2⟩, g0_2⟩ := (opens_slice (d := (Kd.int .i64)) Try.underlying31 (by kernel_rfl) (opens_int Try.underlying3)) hy0_2
  obtain rfl : e0_2 = .slice A0_2 l0_2.length c0_2 := (List.cons.inj he0_2).1
  have k1 := h1
  have lt1 : ∀ x ∈ p1, x.block < W.heap.size := by obtain ⟨m, hm⟩ := k1; exact DataW.trod_lt m _ _ _ hm
  obtain ⟨e1_0, e1_1, e1_2, e1_3, z1_0, z1_1, z1_2, z1_3, m1, rfl, _, _, hy1_0, hy1_1, hy1_2, hy1_3⟩ := open_agg4 Try.underlying35 (by kernel_rfl) (by kernel_rfl) (hval 1 35 v1 rfl rfl) h1
  obtain ⟨a1_0, he1_0, g1_0⟩ := (opens_int Try.underlying3) hy1_0
  obtain rfl : e1_0 = .int .i64 a1_0 := (List.cons.inj he1_0).1
  obtain ⟨a1_1, he1_1, g1_1⟩ := (opens_int Try.underlying3) hy1_1
  obtain rfl : e1_1 = .int .i64 a1_1 := (List.cons.inj he1_1).1
  obtain ⟨a1_2, he1_2, g1_2⟩ := (opens_int Try.underlying3) hy1_2
  obtain rfl : e1_2 = .int .i64 a1_2 := (List.cons.inj he1_2).1
  obtain ⟨a1_3, he1_3, g1_3⟩ := (opens_int Try.underlying3) hy1_3
  obtain rfl : e1_3 = .int .i64 a1_3 := (List.cons.inj he1_3).1
  obtain ⟨a2, rfl, rfl, rfl, w2⟩ := open_int Try.underlying3 (hval 2 3 v2 rfl rfl) h2
  clear hA0 hval0 hsz0
  refine (XFnExactPaintBox.laws_FnExactPaintBox.walk Pure.FnExactPaintBox a0_0 a0_1 _ _ l0_2 a1_0 a1_1 a1_2 a1_3 a2 W g0_0 g0_1 hr0_2 hc0_2 g0_2 g1_0 g1_1 g1_2 g1_3 w2).mono fun e W' ⟨he, bel⟩ => ?_
  subst he
  exact ⟨_, rfl, _, _, _, [], _, [], hW', trodAll_mk1 (shut_bool Try.underlying4 _), (trodAll_cons_mk (Below.trod laidOut (by kernel_rfl) (of_decide_eq_true (by kernel_rfl)) k0 bel lt0) (trodAll_cons_mk (Below.trod laidOut (by kernel_rfl) (of_decide_eq_true (by kernel_rfl)) k1 bel lt1) (trodAll_cons_mk (shut_int Try.underlying3 w2) trodAll_mk0))), rfl, bel.frame _, fun h => by cases h⟩
theorem over : Rows.fnExactPaintBoxRow.holds Try.pinned (OpenSpec.ofChange Rows.fnExactPaintBoxSpec) :=
  OpenClaim.holds_of_wide 5 Try.f5 rfl rfl rfl rfl rfl rfl rfl ⟨rfl, rfl, rfl, rfl, rfl⟩ rfl rfl rfl rfl rfl (by kernel_rfl) Try.func5 (by kernel_rfl)
    (of_decide_eq_true (by kernel_rfl)) (by unfold Func.isWrapper; first | (rw [if_pos (by decide +kernel)]; kernel_rfl) | (rw [if_neg (by decide +kernel)]; exact ⟨rfl, rfl⟩))
    (fun os started H enc _ => lifted os started H enc)
theorem proved : Rows.FnExactPaintBoxSaid := over
#print axioms proved
end Go.Proofs.Ytnebjoanfknmeaa.fnExactPaintBox
namespace Go.Proofs.Ytnebjoanfknmeaa
/-- The row, under a short name, for the claim. -/
theorem fnExactPaintBox_holds : Rows.FnExactPaintBoxSaid := fnExactPaintBox.proved
end Go.Proofs.Ytnebjoanfknmeaa
