/-
  No cell of these rows narrows 'for every input' (looked for: loops, veiled, ifaces, maps, wideKeys, modest, calm, conditions, laid).
  DERIVED. THE GIVEN ROWS OF THIS SEAT. 8 by the template 'for every input the law returns true; each argument reads behind the call as it read before'; 0 by the template 'total and deterministic' (their statements: YtifcoalhkcflnaaTotals.lean).
  GIVEN WITH THE SEED: the statements are not yours to turn. If you find one false, say at which input.
  Laid BY PROGRAM, IN A SANDBOX (cutbox-rows.mjs): the forced cells as the released guide's own fill.sh prints them over the translation 5a325ed6b7cae59c… (all of the seat's roots in one cut). By AI agents, Wed Nov 11 2026. No macro, syntax, notation, axiom, sorry.
-/
import Derived.Test.YtifcoalhkcflnaaChecked
import GoSem.Claim
import GoSem.ClaimJoined
import GoSem.ClaimMapViews
import Derived.JoinedTies
import Derived.KernelRfl
namespace Go.Proofs.Ytifcoalhkcflnaa
/- THE CELL 'sum', in the pinned program and in every row, IS THE sha256 OF THE DUMP (.gsa) THAT YtifcoalhkcflnaaProg.lean LOADS. Nothing in Lean hashes anything: it is a label: what it is worth is what the hold of that sum in a sandbox is worth. -/
noncomputable def Try.pinned : Pinned := { name := "ytifcoalhkcflnaa", sum := "5a325ed6b7cae59ca221c641d580fe882779c0f87f123114a1340ca6eae791bc", checked := Try.checked }
namespace Rows
def none {H : Type} : Left H := { results := [], args := [] }

/-- 'teasellaw15.GreedyChooses': WHATEVER THE INPUT: true; the input reads as it did. -/
def greedyChoosesSpec : ChangeSpec := { name := "greedyChooses", fn := fun _ => fun
  | [d1, d2] => { results := [.lit (.bool true)], args := [d1, d2] }
  | _ => none }
def greedyChoosesRow : OpenClaim := { program := "ytifcoalhkcflnaa", sum := "5a325ed6b7cae59ca221c641d580fe882779c0f87f123114a1340ca6eae791bc", func := "teasel/teasellaw15.GreedyChooses", spec := "greedyChooses", unfollowed := true, recurses := true, plainKeys := false, apart := false }
def GreedyChoosesSaid : Prop := greedyChoosesRow.holds Try.pinned (OpenSpec.ofChange greedyChoosesSpec)

/-- ITS FALSE NEIGHBOUR: 'it returns false'. Refute it at one input. -/
def greedyChoosesWrong : ChangeSpec := { name := "greedyChooses", fn := fun _ => fun
  | [d1, d2] => { results := [.lit (.bool false)], args := [d1, d2] }
  | _ => none }
def GreedyChoosesWrongFalsely : Prop := greedyChoosesRow.holds Try.pinned (OpenSpec.ofChange greedyChoosesWrong)

/-- 'teasellaw15.GreedyComes': WHATEVER THE INPUT: true; the input reads as it did. -/
def greedyComesSpec : ChangeSpec := { name := "greedyComes", fn := fun _ => fun
  | [d1, d2, d3] => { results := [.lit (.bool true)], args := [d1, d2, d3] }
  | _ => none }
def greedyComesRow : OpenClaim := { program := "ytifcoalhkcflnaa", sum := "5a325ed6b7cae59ca221c641d580fe882779c0f87f123114a1340ca6eae791bc", func := "teasel/teasellaw15.GreedyComes", spec := "greedyComes", unfollowed := true, recurses := true, plainKeys := false, apart := false }
def GreedyComesSaid : Prop := greedyComesRow.holds Try.pinned (OpenSpec.ofChange greedyComesSpec)

/-- ITS FALSE NEIGHBOUR: 'it returns false'. Refute it at one input. -/
def greedyComesWrong : ChangeSpec := { name := "greedyComes", fn := fun _ => fun
  | [d1, d2, d3] => { results := [.lit (.bool false)], args := [d1, d2, d3] }
  | _ => none }
def GreedyComesWrongFalsely : Prop := greedyComesRow.holds Try.pinned (OpenSpec.ofChange greedyComesWrong)

/-- 'teasellaw08.FailLinks': WHATEVER THE INPUT: true; the input reads as it did. -/
def failLinksSpec : ChangeSpec := { name := "failLinks", fn := fun _ => fun
  | [d] => { results := [.lit (.bool true)], args := [d] }
  | _ => none }
def failLinksRow : OpenClaim := { program := "ytifcoalhkcflnaa", sum := "5a325ed6b7cae59ca221c641d580fe882779c0f87f123114a1340ca6eae791bc", func := "teasel/teasellaw08.FailLinks", spec := "failLinks", inPlace := ["internal/bytealg.abigen_runtime_cmpstring"], unfollowed := true, recurses := true, plainKeys := false, apart := false }
def FailLinksSaid : Prop := failLinksRow.holds Try.pinned (OpenSpec.ofChange failLinksSpec)

/-- ITS FALSE NEIGHBOUR: 'it returns false'. Refute it at one input. -/
def failLinksWrong : ChangeSpec := { name := "failLinks", fn := fun _ => fun
  | [d] => { results := [.lit (.bool false)], args := [d] }
  | _ => none }
def FailLinksWrongFalsely : Prop := failLinksRow.holds Try.pinned (OpenSpec.ofChange failLinksWrong)

/-- 'teasellaw08.FailChain': WHATEVER THE INPUT: true; the input reads as it did. -/
def failChainSpec : ChangeSpec := { name := "failChain", fn := fun _ => fun
  | [d1, d2] => { results := [.lit (.bool true)], args := [d1, d2] }
  | _ => none }
def failChainRow : OpenClaim := { program := "ytifcoalhkcflnaa", sum := "5a325ed6b7cae59ca221c641d580fe882779c0f87f123114a1340ca6eae791bc", func := "teasel/teasellaw08.FailChain", spec := "failChain", inPlace := ["internal/bytealg.abigen_runtime_cmpstring"], unfollowed := true, recurses := true, plainKeys := false, apart := false }
def FailChainSaid : Prop := failChainRow.holds Try.pinned (OpenSpec.ofChange failChainSpec)

/-- ITS FALSE NEIGHBOUR: 'it returns false'. Refute it at one input. -/
def failChainWrong : ChangeSpec := { name := "failChain", fn := fun _ => fun
  | [d1, d2] => { results := [.lit (.bool false)], args := [d1, d2] }
  | _ => none }
def FailChainWrongFalsely : Prop := failChainRow.holds Try.pinned (OpenSpec.ofChange failChainWrong)

/-- 'teasellaw08.FailSteps': WHATEVER THE INPUT: true; the input reads as it did. -/
def failStepsSpec : ChangeSpec := { name := "failSteps", fn := fun _ => fun
  | [d1, d2] => { results := [.lit (.bool true)], args := [d1, d2] }
  | _ => none }
def failStepsRow : OpenClaim := { program := "ytifcoalhkcflnaa", sum := "5a325ed6b7cae59ca221c641d580fe882779c0f87f123114a1340ca6eae791bc", func := "teasel/teasellaw08.FailSteps", spec := "failSteps", inPlace := ["internal/bytealg.abigen_runtime_cmpstring"], unfollowed := true, recurses := true, plainKeys := false, apart := false }
def FailStepsSaid : Prop := failStepsRow.holds Try.pinned (OpenSpec.ofChange failStepsSpec)

/-- ITS FALSE NEIGHBOUR: 'it returns false'. Refute it at one input. -/
def failStepsWrong : ChangeSpec := { name := "failSteps", fn := fun _ => fun
  | [d1, d2] => { results := [.lit (.bool false)], args := [d1, d2] }
  | _ => none }
def FailStepsWrongFalsely : Prop := failStepsRow.holds Try.pinned (OpenSpec.ofChange failStepsWrong)

/-- 'teasellaw08.FailOwn': WHATEVER THE INPUT: true; the input reads as it did. -/
def failOwnSpec : ChangeSpec := { name := "failOwn", fn := fun _ => fun
  | [d1, d2] => { results := [.lit (.bool true)], args := [d1, d2] }
  | _ => none }
def failOwnRow : OpenClaim := { program := "ytifcoalhkcflnaa", sum := "5a325ed6b7cae59ca221c641d580fe882779c0f87f123114a1340ca6eae791bc", func := "teasel/teasellaw08.FailOwn", spec := "failOwn", inPlace := ["internal/bytealg.abigen_runtime_cmpstring"], unfollowed := true, recurses := true, plainKeys := false, apart := false }
def FailOwnSaid : Prop := failOwnRow.holds Try.pinned (OpenSpec.ofChange failOwnSpec)

/-- ITS FALSE NEIGHBOUR: 'it returns false'. Refute it at one input. -/
def failOwnWrong : ChangeSpec := { name := "failOwn", fn := fun _ => fun
  | [d1, d2] => { results := [.lit (.bool false)], args := [d1, d2] }
  | _ => none }
def FailOwnWrongFalsely : Prop := failOwnRow.holds Try.pinned (OpenSpec.ofChange failOwnWrong)

/-- 'teasellaw09.OutputNext': WHATEVER THE INPUT: true; the input reads as it did. -/
def outputNextSpec : ChangeSpec := { name := "outputNext", fn := fun _ => fun
  | [d] => { results := [.lit (.bool true)], args := [d] }
  | _ => none }
def outputNextRow : OpenClaim := { program := "ytifcoalhkcflnaa", sum := "5a325ed6b7cae59ca221c641d580fe882779c0f87f123114a1340ca6eae791bc", func := "teasel/teasellaw09.OutputNext", spec := "outputNext", inPlace := ["internal/bytealg.abigen_runtime_cmpstring"], unfollowed := true, recurses := true, plainKeys := false, apart := false }
def OutputNextSaid : Prop := outputNextRow.holds Try.pinned (OpenSpec.ofChange outputNextSpec)

/-- ITS FALSE NEIGHBOUR: 'it returns false'. Refute it at one input. -/
def outputNextWrong : ChangeSpec := { name := "outputNext", fn := fun _ => fun
  | [d] => { results := [.lit (.bool false)], args := [d] }
  | _ => none }
def OutputNextWrongFalsely : Prop := outputNextRow.holds Try.pinned (OpenSpec.ofChange outputNextWrong)

/-- 'teasellaw09.OutputChain': WHATEVER THE INPUT: true; the input reads as it did. -/
def outputChainSpec : ChangeSpec := { name := "outputChain", fn := fun _ => fun
  | [d1, d2] => { results := [.lit (.bool true)], args := [d1, d2] }
  | _ => none }
def outputChainRow : OpenClaim := { program := "ytifcoalhkcflnaa", sum := "5a325ed6b7cae59ca221c641d580fe882779c0f87f123114a1340ca6eae791bc", func := "teasel/teasellaw09.OutputChain", spec := "outputChain", inPlace := ["internal/bytealg.abigen_runtime_cmpstring"], unfollowed := true, recurses := true, plainKeys := false, apart := false }
def OutputChainSaid : Prop := outputChainRow.holds Try.pinned (OpenSpec.ofChange outputChainSpec)

/-- ITS FALSE NEIGHBOUR: 'it returns false'. Refute it at one input. -/
def outputChainWrong : ChangeSpec := { name := "outputChain", fn := fun _ => fun
  | [d1, d2] => { results := [.lit (.bool false)], args := [d1, d2] }
  | _ => none }
def OutputChainWrongFalsely : Prop := outputChainRow.holds Try.pinned (OpenSpec.ofChange outputChainWrong)

/- THE SECOND FORM. 'bulk': how many values and letters a reading holds, each counted each time it is reached (what is shared counts as often as it is met; a slice's spare places count too). A statement '..UptoSaid' is the law's where the arguments, and the package variables that the reading takes, are together of bulk at most 1048576: NARROWER than '..Said'. Prove '..Said' where nothing that the law and all that it calls make is longer than what came in: it says more and counts as full. Else prove '..UptoSaid'. A law counts once. -/
mutual
def uptoBulk {H : Type} : DataW H → Nat
  | .lit (.string bytes) => bytes.length + 1
  | .lit _ => 1
  | .nil => 1
  | .ptr d => uptoBulk d + 1
  | .slice elems spare => uptoBulkAll elems + uptoBulkAll spare + 1
  | .agg parts => uptoBulkAll parts + 1
  | .iface _ d => uptoBulk d + 1
  | .map entries => uptoBulkEntries entries + 1
  | .held _ => 1
def uptoBulkAll {H : Type} : List (DataW H) → Nat
  | [] => 0
  | d :: r => uptoBulk d + uptoBulkAll r
def uptoBulkEntries {H : Type} : List (Lit × DataW H) → Nat
  | [] => 0
  | x :: r => uptoBulkEntry x + uptoBulkEntries r
def uptoBulkEntry {H : Type} : Lit × DataW H → Nat
  | (.string bytes, d) => bytes.length + uptoBulk d + 1
  | (_, d) => uptoBulk d + 1
 end
def uptoSmall : (H : Type) → List (DataW H) → Bool := fun _ ds => decide (uptoBulkAll ds ≤ 1048576)
def OpenSpec.upto (s : _root_.Go.ChangeSpec) : _root_.Go.OpenSpec := { _root_.Go.OpenSpec.ofChange s with cond := some uptoSmall }

/-- 'teasellaw15.GreedyChooses', WHERE WHAT IT READS IS OF BULK AT MOST 1048576: true; the input reads as it did. -/
def greedyChoosesUptoRow : OpenClaim := { program := "ytifcoalhkcflnaa", sum := "5a325ed6b7cae59ca221c641d580fe882779c0f87f123114a1340ca6eae791bc", func := "teasel/teasellaw15.GreedyChooses", spec := "greedyChooses", unfollowed := true, recurses := true, plainKeys := false, apart := false, narrowed := true }
def GreedyChoosesUptoSaid : Prop := greedyChoosesUptoRow.holds Try.pinned (OpenSpec.upto greedyChoosesSpec)

/-- 'teasellaw15.GreedyComes', WHERE WHAT IT READS IS OF BULK AT MOST 1048576: true; the input reads as it did. -/
def greedyComesUptoRow : OpenClaim := { program := "ytifcoalhkcflnaa", sum := "5a325ed6b7cae59ca221c641d580fe882779c0f87f123114a1340ca6eae791bc", func := "teasel/teasellaw15.GreedyComes", spec := "greedyComes", unfollowed := true, recurses := true, plainKeys := false, apart := false, narrowed := true }
def GreedyComesUptoSaid : Prop := greedyComesUptoRow.holds Try.pinned (OpenSpec.upto greedyComesSpec)

/-- 'teasellaw08.FailLinks', WHERE WHAT IT READS IS OF BULK AT MOST 1048576: true; the input reads as it did. -/
def failLinksUptoRow : OpenClaim := { program := "ytifcoalhkcflnaa", sum := "5a325ed6b7cae59ca221c641d580fe882779c0f87f123114a1340ca6eae791bc", func := "teasel/teasellaw08.FailLinks", spec := "failLinks", inPlace := ["internal/bytealg.abigen_runtime_cmpstring"], unfollowed := true, recurses := true, plainKeys := false, apart := false, narrowed := true }
def FailLinksUptoSaid : Prop := failLinksUptoRow.holds Try.pinned (OpenSpec.upto failLinksSpec)

/-- 'teasellaw08.FailChain', WHERE WHAT IT READS IS OF BULK AT MOST 1048576: true; the input reads as it did. -/
def failChainUptoRow : OpenClaim := { program := "ytifcoalhkcflnaa", sum := "5a325ed6b7cae59ca221c641d580fe882779c0f87f123114a1340ca6eae791bc", func := "teasel/teasellaw08.FailChain", spec := "failChain", inPlace := ["internal/bytealg.abigen_runtime_cmpstring"], unfollowed := true, recurses := true, plainKeys := false, apart := false, narrowed := true }
def FailChainUptoSaid : Prop := failChainUptoRow.holds Try.pinned (OpenSpec.upto failChainSpec)

/-- 'teasellaw08.FailSteps', WHERE WHAT IT READS IS OF BULK AT MOST 1048576: true; the input reads as it did. -/
def failStepsUptoRow : OpenClaim := { program := "ytifcoalhkcflnaa", sum := "5a325ed6b7cae59ca221c641d580fe882779c0f87f123114a1340ca6eae791bc", func := "teasel/teasellaw08.FailSteps", spec := "failSteps", inPlace := ["internal/bytealg.abigen_runtime_cmpstring"], unfollowed := true, recurses := true, plainKeys := false, apart := false, narrowed := true }
def FailStepsUptoSaid : Prop := failStepsUptoRow.holds Try.pinned (OpenSpec.upto failStepsSpec)

/-- 'teasellaw08.FailOwn', WHERE WHAT IT READS IS OF BULK AT MOST 1048576: true; the input reads as it did. -/
def failOwnUptoRow : OpenClaim := { program := "ytifcoalhkcflnaa", sum := "5a325ed6b7cae59ca221c641d580fe882779c0f87f123114a1340ca6eae791bc", func := "teasel/teasellaw08.FailOwn", spec := "failOwn", inPlace := ["internal/bytealg.abigen_runtime_cmpstring"], unfollowed := true, recurses := true, plainKeys := false, apart := false, narrowed := true }
def FailOwnUptoSaid : Prop := failOwnUptoRow.holds Try.pinned (OpenSpec.upto failOwnSpec)

/-- 'teasellaw09.OutputNext', WHERE WHAT IT READS IS OF BULK AT MOST 1048576: true; the input reads as it did. -/
def outputNextUptoRow : OpenClaim := { program := "ytifcoalhkcflnaa", sum := "5a325ed6b7cae59ca221c641d580fe882779c0f87f123114a1340ca6eae791bc", func := "teasel/teasellaw09.OutputNext", spec := "outputNext", inPlace := ["internal/bytealg.abigen_runtime_cmpstring"], unfollowed := true, recurses := true, plainKeys := false, apart := false, narrowed := true }
def OutputNextUptoSaid : Prop := outputNextUptoRow.holds Try.pinned (OpenSpec.upto outputNextSpec)

/-- 'teasellaw09.OutputChain', WHERE WHAT IT READS IS OF BULK AT MOST 1048576: true; the input reads as it did. -/
def outputChainUptoRow : OpenClaim := { program := "ytifcoalhkcflnaa", sum := "5a325ed6b7cae59ca221c641d580fe882779c0f87f123114a1340ca6eae791bc", func := "teasel/teasellaw09.OutputChain", spec := "outputChain", inPlace := ["internal/bytealg.abigen_runtime_cmpstring"], unfollowed := true, recurses := true, plainKeys := false, apart := false, narrowed := true }
def OutputChainUptoSaid : Prop := outputChainUptoRow.holds Try.pinned (OpenSpec.upto outputChainSpec)

end Rows
end Go.Proofs.Ytifcoalhkcflnaa
