/-
  No cell of these rows narrows 'for every input' (looked for: loops, veiled, ifaces, maps, wideKeys, modest, calm, conditions, laid).
  DERIVED. THE GIVEN ROWS OF THIS SEAT. 4 by the template 'for every input the law returns true; each argument reads behind the call as it read before'; 0 by the template 'total and deterministic' (their statements: YtefhhbllmbgfmaaTotals.lean).
  GIVEN WITH THE SEED: the statements are not yours to turn. If you find one false, say at which input.
  Laid BY PROGRAM, IN A SANDBOX (cutbox-rows.mjs): the forced cells as the released guide's own fill.sh prints them over the translation d034cf55b1d65472… (all of the seat's roots in one cut). By AI agents, Wed Nov 11 2026. No macro, syntax, notation, axiom, sorry.
-/
import Derived.Test.YtefhhbllmbgfmaaChecked
import GoSem.Claim
import GoSem.ClaimJoined
import GoSem.ClaimMapViews
import Derived.JoinedTies
import Derived.KernelRfl
namespace Go.Proofs.Ytefhhbllmbgfmaa
/- THE CELL 'sum', in the pinned program and in every row, IS THE sha256 OF THE DUMP (.gsa) THAT YtefhhbllmbgfmaaProg.lean LOADS. Nothing in Lean hashes anything: it is a label: what it is worth is what the hold of that sum in a sandbox is worth. -/
noncomputable def Try.pinned : Pinned := { name := "ytefhhbllmbgfmaa", sum := "d034cf55b1d654725b6752aa4b053bca32beee8f9d838ecd364d8825311b86d5", checked := Try.checked }
namespace Rows
def none {H : Type} : Left H := { results := [], args := [] }

/-- 'laws.FnExactRunPeer': WHATEVER THE INPUT: true; the input reads as it did. -/
def fnExactRunPeerSpec : ChangeSpec := { name := "fnExactRunPeer", fn := fun _ => fun
  | [d1, d2, d3, d4] => { results := [.lit (.bool true)], args := [d1, d2, d3, d4] }
  | _ => none }
def fnExactRunPeerRow : OpenClaim := { program := "ytefhhbllmbgfmaa", sum := "d034cf55b1d654725b6752aa4b053bca32beee8f9d838ecd364d8825311b86d5", func := "loop.example/g00064/laws.FnExactRunPeer", spec := "fnExactRunPeer", apart := false }
def FnExactRunPeerSaid : Prop := fnExactRunPeerRow.holds Try.pinned (OpenSpec.ofChange fnExactRunPeerSpec)

/-- ITS FALSE NEIGHBOUR: 'it returns false'. Refute it at one input. -/
def fnExactRunPeerWrong : ChangeSpec := { name := "fnExactRunPeer", fn := fun _ => fun
  | [d1, d2, d3, d4] => { results := [.lit (.bool false)], args := [d1, d2, d3, d4] }
  | _ => none }
def FnExactRunPeerWrongFalsely : Prop := fnExactRunPeerRow.holds Try.pinned (OpenSpec.ofChange fnExactRunPeerWrong)

/-- 'laws.FnLate': WHATEVER THE INPUT: true; the input reads as it did. -/
def fnLateSpec : ChangeSpec := { name := "fnLate", fn := fun _ => fun
  | [d] => { results := [.lit (.bool true)], args := [d] }
  | _ => none }
def fnLateRow : OpenClaim := { program := "ytefhhbllmbgfmaa", sum := "d034cf55b1d654725b6752aa4b053bca32beee8f9d838ecd364d8825311b86d5", func := "loop.example/g00064/laws.FnLate", spec := "fnLate", unfollowed := true, recurses := true, apart := false }
def FnLateSaid : Prop := fnLateRow.holds Try.pinned (OpenSpec.ofChange fnLateSpec)

/-- ITS FALSE NEIGHBOUR: 'it returns false'. Refute it at one input. -/
def fnLateWrong : ChangeSpec := { name := "fnLate", fn := fun _ => fun
  | [d] => { results := [.lit (.bool false)], args := [d] }
  | _ => none }
def FnLateWrongFalsely : Prop := fnLateRow.holds Try.pinned (OpenSpec.ofChange fnLateWrong)

/-- 'laws.FnExactPercentile': WHATEVER THE INPUT: true; the input reads as it did. -/
def fnExactPercentileSpec : ChangeSpec := { name := "fnExactPercentile", fn := fun _ => fun
  | [d1, d2] => { results := [.lit (.bool true)], args := [d1, d2] }
  | _ => none }
def fnExactPercentileRow : OpenClaim := { program := "ytefhhbllmbgfmaa", sum := "d034cf55b1d654725b6752aa4b053bca32beee8f9d838ecd364d8825311b86d5", func := "loop.example/g00064/laws.FnExactPercentile", spec := "fnExactPercentile", unfollowed := true, recurses := true, apart := false }
def FnExactPercentileSaid : Prop := fnExactPercentileRow.holds Try.pinned (OpenSpec.ofChange fnExactPercentileSpec)

/-- ITS FALSE NEIGHBOUR: 'it returns false'. Refute it at one input. -/
def fnExactPercentileWrong : ChangeSpec := { name := "fnExactPercentile", fn := fun _ => fun
  | [d1, d2] => { results := [.lit (.bool false)], args := [d1, d2] }
  | _ => none }
def FnExactPercentileWrongFalsely : Prop := fnExactPercentileRow.holds Try.pinned (OpenSpec.ofChange fnExactPercentileWrong)

/-- 'laws.FnExactTotalsOf': WHATEVER THE INPUT: true; the input reads as it did. -/
def fnExactTotalsOfSpec : ChangeSpec := { name := "fnExactTotalsOf", fn := fun _ => fun
  | [d] => { results := [.lit (.bool true)], args := [d] }
  | _ => none }
def fnExactTotalsOfRow : OpenClaim := { program := "ytefhhbllmbgfmaa", sum := "d034cf55b1d654725b6752aa4b053bca32beee8f9d838ecd364d8825311b86d5", func := "loop.example/g00064/laws.FnExactTotalsOf", spec := "fnExactTotalsOf", inPlace := ["internal/bytealg.abigen_runtime_cmpstring", "slices.overlaps[loop.example/g00064/impl.Total]"], unfollowed := true, recurses := true, apart := false }
def FnExactTotalsOfSaid : Prop := fnExactTotalsOfRow.holds Try.pinned (OpenSpec.ofChange fnExactTotalsOfSpec)

/-- ITS FALSE NEIGHBOUR: 'it returns false'. Refute it at one input. -/
def fnExactTotalsOfWrong : ChangeSpec := { name := "fnExactTotalsOf", fn := fun _ => fun
  | [d] => { results := [.lit (.bool false)], args := [d] }
  | _ => none }
def FnExactTotalsOfWrongFalsely : Prop := fnExactTotalsOfRow.holds Try.pinned (OpenSpec.ofChange fnExactTotalsOfWrong)

/- THE SECOND FORM. 'bulk': how many values and letters a reading holds, each counted each time it is reached (what is shared counts as often as it is met; a slice's spare places count too). A statement '..UptoSaid' is the law's where the arguments, and the package variables that the reading takes, are together of bulk at most 1048576: NARROWER than '..Said'. Prove '..Said' where nothing that the law and all that it calls make is longer than what came in: it says more and counts as full. Else prove '..UptoSaid'. A law counts once. -/
mutual
def uptoBulk {H : Type} : DataW H → Nat
  | .lit (.string bytes) => bytes.length + 1
  | .lit _ => 1
  | .nil => 1
  | .ptr d => uptoBulk d + 1
  | .slice elems spare => uptoBulkAll elems + uptoBulkAll spare + 1
  | .agg parts => uptoBulkAll parts + 1
  | .iface _ d => uptoBulk d + 1
  | .map entries => uptoBulkEntries entries + 1
  | .held _ => 1
def uptoBulkAll {H : Type} : List (DataW H) → Nat
  | [] => 0
  | d :: r => uptoBulk d + uptoBulkAll r
def uptoBulkEntries {H : Type} : List (Lit × DataW H) → Nat
  | [] => 0
  | x :: r => uptoBulkEntry x + uptoBulkEntries r
def uptoBulkEntry {H : Type} : Lit × DataW H → Nat
  | (.string bytes, d) => bytes.length + uptoBulk d + 1
  | (_, d) => uptoBulk d + 1
 end
def uptoSmall : (H : Type) → List (DataW H) → Bool := fun _ ds => decide (uptoBulkAll ds ≤ 1048576)
def OpenSpec.upto (s : _root_.Go.ChangeSpec) : _root_.Go.OpenSpec := { _root_.Go.OpenSpec.ofChange s with cond := some uptoSmall }

/-- 'laws.FnExactRunPeer', WHERE WHAT IT READS IS OF BULK AT MOST 1048576: true; the input reads as it did. -/
def fnExactRunPeerUptoRow : OpenClaim := { program := "ytefhhbllmbgfmaa", sum := "d034cf55b1d654725b6752aa4b053bca32beee8f9d838ecd364d8825311b86d5", func := "loop.example/g00064/laws.FnExactRunPeer", spec := "fnExactRunPeer", apart := false, narrowed := true }
def FnExactRunPeerUptoSaid : Prop := fnExactRunPeerUptoRow.holds Try.pinned (OpenSpec.upto fnExactRunPeerSpec)

/-- 'laws.FnLate', WHERE WHAT IT READS IS OF BULK AT MOST 1048576: true; the input reads as it did. -/
def fnLateUptoRow : OpenClaim := { program := "ytefhhbllmbgfmaa", sum := "d034cf55b1d654725b6752aa4b053bca32beee8f9d838ecd364d8825311b86d5", func := "loop.example/g00064/laws.FnLate", spec := "fnLate", unfollowed := true, recurses := true, apart := false, narrowed := true }
def FnLateUptoSaid : Prop := fnLateUptoRow.holds Try.pinned (OpenSpec.upto fnLateSpec)

/-- 'laws.FnExactPercentile', WHERE WHAT IT READS IS OF BULK AT MOST 1048576: true; the input reads as it did. -/
def fnExactPercentileUptoRow : OpenClaim := { program := "ytefhhbllmbgfmaa", sum := "d034cf55b1d654725b6752aa4b053bca32beee8f9d838ecd364d8825311b86d5", func := "loop.example/g00064/laws.FnExactPercentile", spec := "fnExactPercentile", unfollowed := true, recurses := true, apart := false, narrowed := true }
def FnExactPercentileUptoSaid : Prop := fnExactPercentileUptoRow.holds Try.pinned (OpenSpec.upto fnExactPercentileSpec)

/-- 'laws.FnExactTotalsOf', WHERE WHAT IT READS IS OF BULK AT MOST 1048576: true; the input reads as it did. -/
def fnExactTotalsOfUptoRow : OpenClaim := { program := "ytefhhbllmbgfmaa", sum := "d034cf55b1d654725b6752aa4b053bca32beee8f9d838ecd364d8825311b86d5", func := "loop.example/g00064/laws.FnExactTotalsOf", spec := "fnExactTotalsOf", inPlace := ["internal/bytealg.abigen_runtime_cmpstring", "slices.overlaps[loop.example/g00064/impl.Total]"], unfollowed := true, recurses := true, apart := false, narrowed := true }
def FnExactTotalsOfUptoSaid : Prop := fnExactTotalsOfUptoRow.holds Try.pinned (OpenSpec.upto fnExactTotalsOfSpec)

end Rows
end Go.Proofs.Ytefhhbllmbgfmaa
