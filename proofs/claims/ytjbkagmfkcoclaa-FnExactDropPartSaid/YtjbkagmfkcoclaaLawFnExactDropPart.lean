-- Lean text written by a program of this session out of the translation
import Derived.Test.YtjbkagmfkcoclaaRows
import Derived.Test.YtjbkagmfkcoclaaXFnExactDropPartx11
import Derived.Test.YtjbkagmfkcoclaaPureFnExactDropPart
import Derived.Test.YtjbkagmfkcoclaaXOpenFnExactDropPart
import Derived.WalkKit
import Derived.ProofKit
import Derived.OpenShut
import Derived.ShutString
import Derived.ChangeOld
import Derived.Below
import Derived.SizedLaws
import Derived.Lib.SmallJoins
namespace Go.Proofs.Ytjbkagmfkcoclaa.fnExactDropPart
open Go.ChangeShapes Go.WideShapes Go.ChangeAt Go.RowKit Go.Joins Go.Proofs.Ytjbkagmfkcoclaa.XOpen Go.Proofs.Ytjbkagmfkcoclaa.XFnExactDropPart Go.Proofs.YtjbkagmfkcoclaaW.PrintWords
open Go.ChangeMaps (open_string shut_string)
set_option linter.unusedVariables false
theorem own : ownKnob Try.prog.godebug = none := by kernel_rfl
theorem laidOut : laidOutB Try.prog = true := by kernel_rfl
set_option maxRecDepth 100000 in
theorem lifted (os : Os) (started : os.Started) (H : Type) (enc : TypeId × Value → H) :
    ReturnsInHanded {} Try.checked os 5 .any (Rows.fnExactDropPartSpec.pre6 enc Try.prog Try.f5 Rows.fnExactDropPartRow.domain false) (Rows.fnExactDropPartSpec.post enc Try.prog Try.f5 false true false false) := by
  refine returnsInHanded_of_change_sized (C := Try.checked) own started (by kernel_rfl) Try.func5
    (ChangeSpec.witness6 (enc := enc) (C := Try.checked) false ⟨#[], #[.agg #[.int .i64 0, .int .i64 0, .slice none 0 0], .int .i64 0, .string ByteArray.empty], []⟩ 8 (by kernel_rfl) (by kernel_rfl) (by kernel_rfl) (by kernel_rfl)) ?_
  intro W base args ds gs before hval0 hW hcnd hsz0 _
  have hval : ∀ (j : Nat) t v, Try.f5.params[j]? = some t → args[j]? = some v → Value.okWide Try.prog W .any base t v := hval0
  have hW' := hW
  obtain ⟨p, q, hA0, hV, rfl, hfz, hnd⟩ := hW
  have hA : DataW.TrodAll enc Try.prog W 0 (fun _ => true) true Try.f5.params.toList args.toList ds p := hA0
  rw [Try.params5] at hA hval
  obtain ⟨v0, vs0, d0, ds0, p0, q0, hargs, rfl, rfl, h0, r0⟩ := trodAll_cons hA
  obtain ⟨v1, vs1, d1, ds1, p1, q1, rfl, rfl, rfl, h1, r1⟩ := trodAll_cons r0
  obtain ⟨v2, vs2, d2, ds2, p2, q2, rfl, rfl, rfl, h2, r2⟩ := trodAll_cons r1
  obtain ⟨rfl, rfl, rfl⟩ := trodAll_nil r2
  obtain rfl : args = #[v0, v1, v2] := by cases args; simp_all
  obtain ⟨rfl, rfl⟩ := trodVars_none hV
  have k0 := h0
  have lt0 : ∀ x ∈ p0, x.block < W.heap.size := by obtain ⟨m, hm⟩ := k0; exact DataW.trod_lt m _ _ _ hm
  obtain ⟨e0_0, e0_1, e0_2, z0_0, z0_1, z0_2, m0, rfl, _, _, hy0_0, hy0_1, hy0_2⟩ := open_agg3 Try.underlying24 (by kernel_rfl) (by kernel_rfl) (hval 0 24 v0 rfl rfl) h0
  obtain ⟨a0_0, he0_0, g0_0⟩ := (opens_int Try.underlying3) hy0_0
  obtain rfl : e0_0 = .int .i64 a0_0 := (List.cons.inj he0_0).1
  obtain ⟨a0_1, he0_1, g0_1⟩ := (opens_int Try.underlying3) hy0_1
  obtain rfl : e0_1 = .int .i64 a0_1 := (List.cons.inj he0_1).1
  obtain ⟨l0_2, ⟨A0_2, c0_2, he0_2, hc0_2, hr0_2⟩, g0_2⟩ := (opens_slice (d := k125) Try.underlying22 (by kernel_rfl) (show Opens Try.prog k125 125 _ from opens_struct Try.underlying125 (by kernel_rfl) (opensFs_cons (opens_int Try.underlying3) rfl (by kernel_rfl) (opensFs_one (opens_slice (d := k159) Try.underlying123 (by kernel_rfl) (show Opens Try.prog k159 159 _ from opens_struct Try.underlying159 (by kernel_rfl) (opensFs_cons (opens_string Try.underlying9) rfl (by kernel_rfl) (opensFs_cons (opens_int Try.underlying3) rfl (by kernel_rfl) (opensFs_one (opens_int Try.underlying3) rfl (by kernel_rfl)))) _ (fun x => ⟨x.1, x.2.1, x.2.2⟩) (fun _ => rfl))) rfl (by kernel_rfl))) _ (fun x => ⟨x.1, x.2⟩) (fun _ => rfl))) hy0_2
  obtain rfl : e0_2 = .slice A0_2 l0_2.length c0_2 := (List.cons.inj he0_2).1
  obtain ⟨a1, rfl, rfl, rfl, w1⟩ := open_int Try.underlying3 (hval 1 3 v1 rfl rfl) h1
  obtain ⟨a2, rfl, rfl, rfl, y2⟩ := open_string Try.underlying9 (hval 2 9 v2 rfl rfl) h2
  clear hA0 hval0 hsz0
  refine (XFnExactDropPart.laws_FnExactDropPart.walk Pure.FnExactDropPart a0_0 a0_1 _ _ l0_2 a1 a2 W g0_0 g0_1 hr0_2 hc0_2 g0_2 w1 y2).mono fun e W' ⟨he, bel⟩ => ?_
  subst he
  exact ⟨_, rfl, _, _, _, [], _, [], hW', trodAll_mk1 (shut_bool Try.underlying4 _), (trodAll_cons_mk (Below.trod laidOut (by kernel_rfl) (of_decide_eq_true (by kernel_rfl)) k0 bel lt0) (trodAll_cons_mk (shut_int Try.underlying3 w1) (trodAll_cons_mk (shut_string Try.underlying9 y2) trodAll_mk0))), rfl, bel.frame _, fun h => by cases h⟩
theorem over : Rows.fnExactDropPartRow.holds Try.pinned (OpenSpec.ofChange Rows.fnExactDropPartSpec) :=
  OpenClaim.holds_of_wide 5 Try.f5 rfl rfl rfl rfl rfl rfl rfl ⟨rfl, rfl, rfl, rfl, rfl⟩ rfl rfl rfl rfl rfl (by kernel_rfl) Try.func5 (by kernel_rfl)
    (of_decide_eq_true (by kernel_rfl)) (by unfold Func.isWrapper; first | (rw [if_pos (by decide +kernel)]; kernel_rfl) | (rw [if_neg (by decide +kernel)]; exact ⟨rfl, rfl⟩))
    (fun os started H enc _ => lifted os started H enc)
theorem proved : Rows.FnExactDropPartSaid := over
#print axioms proved
end Go.Proofs.Ytjbkagmfkcoclaa.fnExactDropPart
namespace Go.Proofs.Ytjbkagmfkcoclaa
/-- The row, under a short name, for the claim. -/
theorem fnExactDropPart_holds : Rows.FnExactDropPartSaid := fnExactDropPart.proved
end Go.Proofs.Ytjbkagmfkcoclaa
