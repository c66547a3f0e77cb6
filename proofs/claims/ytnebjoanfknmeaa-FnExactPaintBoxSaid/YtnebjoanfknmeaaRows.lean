/-
  No cell of these rows narrows 'for every input' (looked for: loops, veiled, ifaces, maps, wideKeys, modest, calm, conditions, laid).
  DERIVED. THE GIVEN ROWS OF THIS SEAT. 6 by the template 'for every input the law returns true; each argument reads behind the call as it read before'; 0 by the template 'total and deterministic' (their statements: YtnebjoanfknmeaaTotals.lean).
  GIVEN WITH THE SEED: the statements are not yours to turn. If you find one false, say at which input.
  Laid BY PROGRAM, IN A SANDBOX (cutbox-rows.mjs): the forced cells as the released guide's own fill.sh prints them over the translation c1d38d739b438807… (all of the seat's roots in one cut). By AI agents, Wed Nov 11 2026. No macro, syntax, notation, axiom, sorry.
-/
import Derived.Test.YtnebjoanfknmeaaChecked
import GoSem.Claim
import GoSem.ClaimJoined
import GoSem.ClaimMapViews
import Derived.JoinedTies
import Derived.KernelRfl
namespace Go.Proofs.Ytnebjoanfknmeaa
/- THE CELL 'sum', in the pinned program and in every row, IS THE sha256 OF THE DUMP (.gsa) THAT YtnebjoanfknmeaaProg.lean LOADS. Nothing in Lean hashes anything: it is a label: what it is worth is what the hold of that sum in a sandbox is worth. -/
noncomputable def Try.pinned : Pinned := { name := "ytnebjoanfknmeaa", sum := "c1d38d739b438807c6281094635ae4798b0f23eedefe1d47cf6398580ed8b24b", checked := Try.checked }
namespace Rows
def none {H : Type} : Left H := { results := [], args := [] }

/-- 'laws.FnRound': WHATEVER THE INPUT: true; the input reads as it did. -/
def fnRoundSpec : ChangeSpec := { name := "fnRound", fn := fun _ => fun
  | [d1, d2] => { results := [.lit (.bool true)], args := [d1, d2] }
  | _ => none }
def fnRoundRow : OpenClaim := { program := "ytnebjoanfknmeaa", sum := "c1d38d739b438807c6281094635ae4798b0f23eedefe1d47cf6398580ed8b24b", func := "loop.example/g00064/laws.FnRound", spec := "fnRound", unfollowed := true, recurses := true, apart := false }
def FnRoundSaid : Prop := fnRoundRow.holds Try.pinned (OpenSpec.ofChange fnRoundSpec)

/-- ITS FALSE NEIGHBOUR: 'it returns false'. Refute it at one input. -/
def fnRoundWrong : ChangeSpec := { name := "fnRound", fn := fun _ => fun
  | [d1, d2] => { results := [.lit (.bool false)], args := [d1, d2] }
  | _ => none }
def FnRoundWrongFalsely : Prop := fnRoundRow.holds Try.pinned (OpenSpec.ofChange fnRoundWrong)

/-- 'laws.FnFixed': WHATEVER THE INPUT: true; the input reads as it did. -/
def fnFixedSpec : ChangeSpec := { name := "fnFixed", fn := fun _ => fun
  | [d] => { results := [.lit (.bool true)], args := [d] }
  | _ => none }
def fnFixedRow : OpenClaim := { program := "ytnebjoanfknmeaa", sum := "c1d38d739b438807c6281094635ae4798b0f23eedefe1d47cf6398580ed8b24b", func := "loop.example/g00064/laws.FnFixed", spec := "fnFixed", inPlace := ["math/bits.Add64"], apart := false }
def FnFixedSaid : Prop := fnFixedRow.holds Try.pinned (OpenSpec.ofChange fnFixedSpec)

/-- ITS FALSE NEIGHBOUR: 'it returns false'. Refute it at one input. -/
def fnFixedWrong : ChangeSpec := { name := "fnFixed", fn := fun _ => fun
  | [d] => { results := [.lit (.bool false)], args := [d] }
  | _ => none }
def FnFixedWrongFalsely : Prop := fnFixedRow.holds Try.pinned (OpenSpec.ofChange fnFixedWrong)

/-- 'laws.FnExactPaintBox': WHATEVER THE INPUT: true; the input reads as it did. -/
def fnExactPaintBoxSpec : ChangeSpec := { name := "fnExactPaintBox", fn := fun _ => fun
  | [d1, d2, d3] => { results := [.lit (.bool true)], args := [d1, d2, d3] }
  | _ => none }
def fnExactPaintBoxRow : OpenClaim := { program := "ytnebjoanfknmeaa", sum := "c1d38d739b438807c6281094635ae4798b0f23eedefe1d47cf6398580ed8b24b", func := "loop.example/g00064/laws.FnExactPaintBox", spec := "fnExactPaintBox", unfollowed := true, recurses := true, apart := false }
def FnExactPaintBoxSaid : Prop := fnExactPaintBoxRow.holds Try.pinned (OpenSpec.ofChange fnExactPaintBoxSpec)

/-- ITS FALSE NEIGHBOUR: 'it returns false'. Refute it at one input. -/
def fnExactPaintBoxWrong : ChangeSpec := { name := "fnExactPaintBox", fn := fun _ => fun
  | [d1, d2, d3] => { results := [.lit (.bool false)], args := [d1, d2, d3] }
  | _ => none }
def FnExactPaintBoxWrongFalsely : Prop := fnExactPaintBoxRow.holds Try.pinned (OpenSpec.ofChange fnExactPaintBoxWrong)

/-- 'laws.FnExactPaintLine': WHATEVER THE INPUT: true; the input reads as it did. -/
def fnExactPaintLineSpec : ChangeSpec := { name := "fnExactPaintLine", fn := fun _ => fun
  | [d1, d2, d3, d4, d5, d6] => { results := [.lit (.bool true)], args := [d1, d2, d3, d4, d5, d6] }
  | _ => none }
def fnExactPaintLineRow : OpenClaim := { program := "ytnebjoanfknmeaa", sum := "c1d38d739b438807c6281094635ae4798b0f23eedefe1d47cf6398580ed8b24b", func := "loop.example/g00064/laws.FnExactPaintLine", spec := "fnExactPaintLine", unfollowed := true, recurses := true, apart := false }
def FnExactPaintLineSaid : Prop := fnExactPaintLineRow.holds Try.pinned (OpenSpec.ofChange fnExactPaintLineSpec)

/-- ITS FALSE NEIGHBOUR: 'it returns false'. Refute it at one input. -/
def fnExactPaintLineWrong : ChangeSpec := { name := "fnExactPaintLine", fn := fun _ => fun
  | [d1, d2, d3, d4, d5, d6] => { results := [.lit (.bool false)], args := [d1, d2, d3, d4, d5, d6] }
  | _ => none }
def FnExactPaintLineWrongFalsely : Prop := fnExactPaintLineRow.holds Try.pinned (OpenSpec.ofChange fnExactPaintLineWrong)

/-- 'laws.FnQuads': WHATEVER THE INPUT: true; the input reads as it did. -/
def fnQuadsSpec : ChangeSpec := { name := "fnQuads", fn := fun _ => fun
  | [d] => { results := [.lit (.bool true)], args := [d] }
  | _ => none }
def fnQuadsRow : OpenClaim := { program := "ytnebjoanfknmeaa", sum := "c1d38d739b438807c6281094635ae4798b0f23eedefe1d47cf6398580ed8b24b", func := "loop.example/g00064/laws.FnQuads", spec := "fnQuads", unfollowed := true, recurses := true, apart := false }
def FnQuadsSaid : Prop := fnQuadsRow.holds Try.pinned (OpenSpec.ofChange fnQuadsSpec)

/-- ITS FALSE NEIGHBOUR: 'it returns false'. Refute it at one input. -/
def fnQuadsWrong : ChangeSpec := { name := "fnQuads", fn := fun _ => fun
  | [d] => { results := [.lit (.bool false)], args := [d] }
  | _ => none }
def FnQuadsWrongFalsely : Prop := fnQuadsRow.holds Try.pinned (OpenSpec.ofChange fnQuadsWrong)

/-- 'laws.FnExactQuadsOf': WHATEVER THE INPUT: true; the input reads as it did. -/
def fnExactQuadsOfSpec : ChangeSpec := { name := "fnExactQuadsOf", fn := fun _ => fun
  | [d] => { results := [.lit (.bool true)], args := [d] }
  | _ => none }
def fnExactQuadsOfRow : OpenClaim := { program := "ytnebjoanfknmeaa", sum := "c1d38d739b438807c6281094635ae4798b0f23eedefe1d47cf6398580ed8b24b", func := "loop.example/g00064/laws.FnExactQuadsOf", spec := "fnExactQuadsOf", unfollowed := true, recurses := true, apart := false }
def FnExactQuadsOfSaid : Prop := fnExactQuadsOfRow.holds Try.pinned (OpenSpec.ofChange fnExactQuadsOfSpec)

/-- ITS FALSE NEIGHBOUR: 'it returns false'. Refute it at one input. -/
def fnExactQuadsOfWrong : ChangeSpec := { name := "fnExactQuadsOf", fn := fun _ => fun
  | [d] => { results := [.lit (.bool false)], args := [d] }
  | _ => none }
def FnExactQuadsOfWrongFalsely : Prop := fnExactQuadsOfRow.holds Try.pinned (OpenSpec.ofChange fnExactQuadsOfWrong)

/- THE SECOND FORM. 'bulk': how many values and letters a reading holds, each counted each time it is reached (what is shared counts as often as it is met; a slice's spare places count too). A statement '..UptoSaid' is the law's where the arguments, and the package variables that the reading takes, are together of bulk at most 1048576: NARROWER than '..Said'. Prove '..Said' where nothing that the law and all that it calls make is longer than what came in: it says more and counts as full. Else prove '..UptoSaid'. A law counts once. -/
mutual
def uptoBulk {H : Type} : DataW H → Nat
  | .lit (.string bytes) => bytes.length + 1
  | .lit _ => 1
  | .nil => 1
  | .ptr d => uptoBulk d + 1
  | .slice elems spare => uptoBulkAll elems + uptoBulkAll spare + 1
  | .agg parts => uptoBulkAll parts + 1
  | .iface _ d => uptoBulk d + 1
  | .map entries => uptoBulkEntries entries + 1
  | .held _ => 1
def uptoBulkAll {H : Type} : List (DataW H) → Nat
  | [] => 0
  | d :: r => uptoBulk d + uptoBulkAll r
def uptoBulkEntries {H : Type} : List (Lit × DataW H) → Nat
  | [] => 0
  | x :: r => uptoBulkEntry x + uptoBulkEntries r
def uptoBulkEntry {H : Type} : Lit × DataW H → Nat
  | (.string bytes, d) => bytes.length + uptoBulk d + 1
  | (_, d) => uptoBulk d + 1
 end
def uptoSmall : (H : Type) → List (DataW H) → Bool := fun _ ds => decide (uptoBulkAll ds ≤ 1048576)
def OpenSpec.upto (s : _root_.Go.ChangeSpec) : _root_.Go.OpenSpec := { _root_.Go.OpenSpec.ofChange s with cond := some uptoSmall }

/-- 'laws.FnRound', WHERE WHAT IT READS IS OF BULK AT MOST 1048576: true; the input reads as it did. -/
def fnRoundUptoRow : OpenClaim := { program := "ytnebjoanfknmeaa", sum := "c1d38d739b438807c6281094635ae4798b0f23eedefe1d47cf6398580ed8b24b", func := "loop.example/g00064/laws.FnRound", spec := "fnRound", unfollowed := true, recurses := true, apart := false, narrowed := true }
def FnRoundUptoSaid : Prop := fnRoundUptoRow.holds Try.pinned (OpenSpec.upto fnRoundSpec)

/-- 'laws.FnFixed', WHERE WHAT IT READS IS OF BULK AT MOST 1048576: true; the input reads as it did. -/
def fnFixedUptoRow : OpenClaim := { program := "ytnebjoanfknmeaa", sum := "c1d38d739b438807c6281094635ae4798b0f23eedefe1d47cf6398580ed8b24b", func := "loop.example/g00064/laws.FnFixed", spec := "fnFixed", inPlace := ["math/bits.Add64"], apart := false, narrowed := true }
def FnFixedUptoSaid : Prop := fnFixedUptoRow.holds Try.pinned (OpenSpec.upto fnFixedSpec)

/-- 'laws.FnExactPaintBox', WHERE WHAT IT READS IS OF BULK AT MOST 1048576: true; the input reads as it did. -/
def fnExactPaintBoxUptoRow : OpenClaim := { program := "ytnebjoanfknmeaa", sum := "c1d38d739b438807c6281094635ae4798b0f23eedefe1d47cf6398580ed8b24b", func := "loop.example/g00064/laws.FnExactPaintBox", spec := "fnExactPaintBox", unfollowed := true, recurses := true, apart := false, narrowed := true }
def FnExactPaintBoxUptoSaid : Prop := fnExactPaintBoxUptoRow.holds Try.pinned (OpenSpec.upto fnExactPaintBoxSpec)

/-- 'laws.FnExactPaintLine', WHERE WHAT IT READS IS OF BULK AT MOST 1048576: true; the input reads as it did. -/
def fnExactPaintLineUptoRow : OpenClaim := { program := "ytnebjoanfknmeaa", sum := "c1d38d739b438807c6281094635ae4798b0f23eedefe1d47cf6398580ed8b24b", func := "loop.example/g00064/laws.FnExactPaintLine", spec := "fnExactPaintLine", unfollowed := true, recurses := true, apart := false, narrowed := true }
def FnExactPaintLineUptoSaid : Prop := fnExactPaintLineUptoRow.holds Try.pinned (OpenSpec.upto fnExactPaintLineSpec)

/-- 'laws.FnQuads', WHERE WHAT IT READS IS OF BULK AT MOST 1048576: true; the input reads as it did. -/
def fnQuadsUptoRow : OpenClaim := { program := "ytnebjoanfknmeaa", sum := "c1d38d739b438807c6281094635ae4798b0f23eedefe1d47cf6398580ed8b24b", func := "loop.example/g00064/laws.FnQuads", spec := "fnQuads", unfollowed := true, recurses := true, apart := false, narrowed := true }
def FnQuadsUptoSaid : Prop := fnQuadsUptoRow.holds Try.pinned (OpenSpec.upto fnQuadsSpec)

/-- 'laws.FnExactQuadsOf', WHERE WHAT IT READS IS OF BULK AT MOST 1048576: true; the input reads as it did. -/
def fnExactQuadsOfUptoRow : OpenClaim := { program := "ytnebjoanfknmeaa", sum := "c1d38d739b438807c6281094635ae4798b0f23eedefe1d47cf6398580ed8b24b", func := "loop.example/g00064/laws.FnExactQuadsOf", spec := "fnExactQuadsOf", unfollowed := true, recurses := true, apart := false, narrowed := true }
def FnExactQuadsOfUptoSaid : Prop := fnExactQuadsOfUptoRow.holds Try.pinned (OpenSpec.upto fnExactQuadsOfSpec)

end Rows
end Go.Proofs.Ytnebjoanfknmeaa
