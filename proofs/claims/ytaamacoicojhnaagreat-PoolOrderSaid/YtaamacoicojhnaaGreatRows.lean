/-
  No cell of these rows narrows 'for every input' (looked for: loops, veiled, ifaces, maps, wideKeys, modest, calm, conditions, laid).
  DERIVED. THE GIVEN ROWS OF THIS SEAT. 8 by the template 'for every input the law returns true; each argument reads behind the call as it read before'; 0 by the template 'total and deterministic' (their statements: YtaamacoicojhnaaGreatTotals.lean).
  GIVEN WITH THE SEED: the statements are not yours to turn. If you find one false, say at which input.
  Laid BY PROGRAM, IN A SANDBOX (cutbox-rows.mjs): the forced cells as the released guide's own fill.sh prints them over the translation ee6f9eb8b6828145… (all of the seat's roots in one cut). By AI agents, Wed Nov 11 2026. No macro, syntax, notation, axiom, sorry.
-/
import Derived.Test.YtaamacoicojhnaaGreatChecked
import GoSem.Claim
import GoSem.ClaimJoined
import GoSem.ClaimMapViews
import Derived.JoinedTies
import Derived.KernelRfl
namespace Go.Proofs.YtaamacoicojhnaaGreat
/- THE CELL 'sum', in the pinned program and in every row, IS THE sha256 OF THE DUMP (.gsa) THAT YtaamacoicojhnaaGreatProg.lean LOADS. Nothing in Lean hashes anything: it is a label: what it is worth is what the hold of that sum in a sandbox is worth. -/
noncomputable def Tryz.pinned : Pinned := { name := "ytaamacoicojhnaagreat", sum := "ee6f9eb8b6828145643393d88f59dac8c9269ec381a825ab930c221db36f7ca0", checked := Tryz.checked }
namespace Rows
def none {H : Type} : Left H := { results := [], args := [] }

/-- 'teasellaw28.BoundOver': WHATEVER THE INPUT: true; the input reads as it did. -/
def boundOverSpec : ChangeSpec := { name := "boundOver", fn := fun _ => fun
  | [d1, d2] => { results := [.lit (.bool true)], args := [d1, d2] }
  | _ => none }
def boundOverRow : OpenClaim := { program := "ytaamacoicojhnaagreat", sum := "ee6f9eb8b6828145643393d88f59dac8c9269ec381a825ab930c221db36f7ca0", func := "teasel/teasellaw28.BoundOver", spec := "boundOver", inPlace := ["internal/bytealg.abigen_runtime_cmpstring"], unfollowed := true, recurses := true, plainKeys := false, apart := false }
def BoundOverSaid : Prop := boundOverRow.holds Tryz.pinned (OpenSpec.ofChange boundOverSpec)

/-- ITS FALSE NEIGHBOUR: 'it returns false'. Refute it at one input. -/
def boundOverWrong : ChangeSpec := { name := "boundOver", fn := fun _ => fun
  | [d1, d2] => { results := [.lit (.bool false)], args := [d1, d2] }
  | _ => none }
def BoundOverWrongFalsely : Prop := boundOverRow.holds Tryz.pinned (OpenSpec.ofChange boundOverWrong)

/-- 'teasellaw28.BoundSteps': WHATEVER THE INPUT: true; the input reads as it did. -/
def boundStepsSpec : ChangeSpec := { name := "boundSteps", fn := fun _ => fun
  | [d1, d2, d3] => { results := [.lit (.bool true)], args := [d1, d2, d3] }
  | _ => none }
def boundStepsRow : OpenClaim := { program := "ytaamacoicojhnaagreat", sum := "ee6f9eb8b6828145643393d88f59dac8c9269ec381a825ab930c221db36f7ca0", func := "teasel/teasellaw28.BoundSteps", spec := "boundSteps", inPlace := ["internal/bytealg.abigen_runtime_cmpstring"], unfollowed := true, recurses := true, plainKeys := false, apart := false }
def BoundStepsSaid : Prop := boundStepsRow.holds Tryz.pinned (OpenSpec.ofChange boundStepsSpec)

/-- ITS FALSE NEIGHBOUR: 'it returns false'. Refute it at one input. -/
def boundStepsWrong : ChangeSpec := { name := "boundSteps", fn := fun _ => fun
  | [d1, d2, d3] => { results := [.lit (.bool false)], args := [d1, d2, d3] }
  | _ => none }
def BoundStepsWrongFalsely : Prop := boundStepsRow.holds Tryz.pinned (OpenSpec.ofChange boundStepsWrong)

/-- 'teasellaw28.BoundCancel': WHATEVER THE INPUT: true; the input reads as it did. -/
def boundCancelSpec : ChangeSpec := { name := "boundCancel", fn := fun _ => fun
  | [d1, d2, d3] => { results := [.lit (.bool true)], args := [d1, d2, d3] }
  | _ => none }
def boundCancelRow : OpenClaim := { program := "ytaamacoicojhnaagreat", sum := "ee6f9eb8b6828145643393d88f59dac8c9269ec381a825ab930c221db36f7ca0", func := "teasel/teasellaw28.BoundCancel", spec := "boundCancel", inPlace := ["internal/bytealg.abigen_runtime_cmpstring"], unfollowed := true, recurses := true, plainKeys := false, apart := false }
def BoundCancelSaid : Prop := boundCancelRow.holds Tryz.pinned (OpenSpec.ofChange boundCancelSpec)

/-- ITS FALSE NEIGHBOUR: 'it returns false'. Refute it at one input. -/
def boundCancelWrong : ChangeSpec := { name := "boundCancel", fn := fun _ => fun
  | [d1, d2, d3] => { results := [.lit (.bool false)], args := [d1, d2, d3] }
  | _ => none }
def BoundCancelWrongFalsely : Prop := boundCancelRow.holds Tryz.pinned (OpenSpec.ofChange boundCancelWrong)

/-- 'teasellaw27.PoolTells': WHATEVER THE INPUT: true; the input reads as it did. -/
def poolTellsSpec : ChangeSpec := { name := "poolTells", fn := fun _ => fun
  | [d1, d2, d3, d4, d5, d6] => { results := [.lit (.bool true)], args := [d1, d2, d3, d4, d5, d6] }
  | _ => none }
def poolTellsRow : OpenClaim := { program := "ytaamacoicojhnaagreat", sum := "ee6f9eb8b6828145643393d88f59dac8c9269ec381a825ab930c221db36f7ca0", func := "teasel/teasellaw27.PoolTells", spec := "poolTells", inPlace := ["internal/bytealg.abigen_runtime_cmpstring"], unfollowed := true, recurses := true, plainKeys := false, apart := false }
def PoolTellsSaid : Prop := poolTellsRow.holds Tryz.pinned (OpenSpec.ofChange poolTellsSpec)

/-- ITS FALSE NEIGHBOUR: 'it returns false'. Refute it at one input. -/
def poolTellsWrong : ChangeSpec := { name := "poolTells", fn := fun _ => fun
  | [d1, d2, d3, d4, d5, d6] => { results := [.lit (.bool false)], args := [d1, d2, d3, d4, d5, d6] }
  | _ => none }
def PoolTellsWrongFalsely : Prop := poolTellsRow.holds Tryz.pinned (OpenSpec.ofChange poolTellsWrong)

/-- 'teasellaw27.PoolOrder': WHATEVER THE INPUT: true; the input reads as it did. -/
def poolOrderSpec : ChangeSpec := { name := "poolOrder", fn := fun _ => fun
  | [d1, d2, d3, d4, d5, d6] => { results := [.lit (.bool true)], args := [d1, d2, d3, d4, d5, d6] }
  | _ => none }
def poolOrderRow : OpenClaim := { program := "ytaamacoicojhnaagreat", sum := "ee6f9eb8b6828145643393d88f59dac8c9269ec381a825ab930c221db36f7ca0", func := "teasel/teasellaw27.PoolOrder", spec := "poolOrder", inPlace := ["internal/bytealg.abigen_runtime_cmpstring"], unfollowed := true, recurses := true, plainKeys := false, apart := false }
def PoolOrderSaid : Prop := poolOrderRow.holds Tryz.pinned (OpenSpec.ofChange poolOrderSpec)

/-- ITS FALSE NEIGHBOUR: 'it returns false'. Refute it at one input. -/
def poolOrderWrong : ChangeSpec := { name := "poolOrder", fn := fun _ => fun
  | [d1, d2, d3, d4, d5, d6] => { results := [.lit (.bool false)], args := [d1, d2, d3, d4, d5, d6] }
  | _ => none }
def PoolOrderWrongFalsely : Prop := poolOrderRow.holds Tryz.pinned (OpenSpec.ofChange poolOrderWrong)

/-- 'teasellaw27.PoolGoes': WHATEVER THE INPUT: true; the input reads as it did. -/
def poolGoesSpec : ChangeSpec := { name := "poolGoes", fn := fun _ => fun
  | [d1, d2, d3, d4, d5, d6, d7] => { results := [.lit (.bool true)], args := [d1, d2, d3, d4, d5, d6, d7] }
  | _ => none }
def poolGoesRow : OpenClaim := { program := "ytaamacoicojhnaagreat", sum := "ee6f9eb8b6828145643393d88f59dac8c9269ec381a825ab930c221db36f7ca0", func := "teasel/teasellaw27.PoolGoes", spec := "poolGoes", inPlace := ["internal/bytealg.abigen_runtime_cmpstring"], unfollowed := true, recurses := true, plainKeys := false, apart := false }
def PoolGoesSaid : Prop := poolGoesRow.holds Tryz.pinned (OpenSpec.ofChange poolGoesSpec)

/-- ITS FALSE NEIGHBOUR: 'it returns false'. Refute it at one input. -/
def poolGoesWrong : ChangeSpec := { name := "poolGoes", fn := fun _ => fun
  | [d1, d2, d3, d4, d5, d6, d7] => { results := [.lit (.bool false)], args := [d1, d2, d3, d4, d5, d6, d7] }
  | _ => none }
def PoolGoesWrongFalsely : Prop := poolGoesRow.holds Tryz.pinned (OpenSpec.ofChange poolGoesWrong)

/-- 'teasellaw27.PoolRoom': WHATEVER THE INPUT: true; the input reads as it did. -/
def poolRoomSpec : ChangeSpec := { name := "poolRoom", fn := fun _ => fun
  | [d1, d2, d3, d4, d5, d6] => { results := [.lit (.bool true)], args := [d1, d2, d3, d4, d5, d6] }
  | _ => none }
def poolRoomRow : OpenClaim := { program := "ytaamacoicojhnaagreat", sum := "ee6f9eb8b6828145643393d88f59dac8c9269ec381a825ab930c221db36f7ca0", func := "teasel/teasellaw27.PoolRoom", spec := "poolRoom", inPlace := ["internal/bytealg.abigen_runtime_cmpstring"], unfollowed := true, recurses := true, plainKeys := false, apart := false }
def PoolRoomSaid : Prop := poolRoomRow.holds Tryz.pinned (OpenSpec.ofChange poolRoomSpec)

/-- ITS FALSE NEIGHBOUR: 'it returns false'. Refute it at one input. -/
def poolRoomWrong : ChangeSpec := { name := "poolRoom", fn := fun _ => fun
  | [d1, d2, d3, d4, d5, d6] => { results := [.lit (.bool false)], args := [d1, d2, d3, d4, d5, d6] }
  | _ => none }
def PoolRoomWrongFalsely : Prop := poolRoomRow.holds Tryz.pinned (OpenSpec.ofChange poolRoomWrong)

/-- 'teasellaw27.PoolPicks': WHATEVER THE INPUT: true; the input reads as it did. -/
def poolPicksSpec : ChangeSpec := { name := "poolPicks", fn := fun _ => fun
  | [d1, d2, d3, d4, d5, d6] => { results := [.lit (.bool true)], args := [d1, d2, d3, d4, d5, d6] }
  | _ => none }
def poolPicksRow : OpenClaim := { program := "ytaamacoicojhnaagreat", sum := "ee6f9eb8b6828145643393d88f59dac8c9269ec381a825ab930c221db36f7ca0", func := "teasel/teasellaw27.PoolPicks", spec := "poolPicks", inPlace := ["internal/bytealg.abigen_runtime_cmpstring"], unfollowed := true, recurses := true, plainKeys := false, apart := false }
def PoolPicksSaid : Prop := poolPicksRow.holds Tryz.pinned (OpenSpec.ofChange poolPicksSpec)

/-- ITS FALSE NEIGHBOUR: 'it returns false'. Refute it at one input. -/
def poolPicksWrong : ChangeSpec := { name := "poolPicks", fn := fun _ => fun
  | [d1, d2, d3, d4, d5, d6] => { results := [.lit (.bool false)], args := [d1, d2, d3, d4, d5, d6] }
  | _ => none }
def PoolPicksWrongFalsely : Prop := poolPicksRow.holds Tryz.pinned (OpenSpec.ofChange poolPicksWrong)

/- THE SECOND FORM. 'bulk': how many values and letters a reading holds, each counted each time it is reached (what is shared counts as often as it is met; a slice's spare places count too). A statement '..UptoSaid' is the law's where the arguments, and the package variables that the reading takes, are together of bulk at most 1048576: NARROWER than '..Said'. Prove '..Said' where nothing that the law and all that it calls make is longer than what came in: it says more and counts as full. Else prove '..UptoSaid'. A law counts once. -/
mutual
def uptoBulk {H : Type} : DataW H → Nat
  | .lit (.string bytes) => bytes.length + 1
  | .lit _ => 1
  | .nil => 1
  | .ptr d => uptoBulk d + 1
  | .slice elems spare => uptoBulkAll elems + uptoBulkAll spare + 1
  | .agg parts => uptoBulkAll parts + 1
  | .iface _ d => uptoBulk d + 1
  | .map entries => uptoBulkEntries entries + 1
  | .held _ => 1
def uptoBulkAll {H : Type} : List (DataW H) → Nat
  | [] => 0
  | d :: r => uptoBulk d + uptoBulkAll r
def uptoBulkEntries {H : Type} : List (Lit × DataW H) → Nat
  | [] => 0
  | x :: r => uptoBulkEntry x + uptoBulkEntries r
def uptoBulkEntry {H : Type} : Lit × DataW H → Nat
  | (.string bytes, d) => bytes.length + uptoBulk d + 1
  | (_, d) => uptoBulk d + 1
 end
def uptoSmall : (H : Type) → List (DataW H) → Bool := fun _ ds => decide (uptoBulkAll ds ≤ 1048576)
def OpenSpec.upto (s : _root_.Go.ChangeSpec) : _root_.Go.OpenSpec := { _root_.Go.OpenSpec.ofChange s with cond := some uptoSmall }

/-- 'teasellaw28.BoundOver', WHERE WHAT IT READS IS OF BULK AT MOST 1048576: true; the input reads as it did. -/
def boundOverUptoRow : OpenClaim := { program := "ytaamacoicojhnaagreat", sum := "ee6f9eb8b6828145643393d88f59dac8c9269ec381a825ab930c221db36f7ca0", func := "teasel/teasellaw28.BoundOver", spec := "boundOver", inPlace := ["internal/bytealg.abigen_runtime_cmpstring"], unfollowed := true, recurses := true, plainKeys := false, apart := false, narrowed := true }
def BoundOverUptoSaid : Prop := boundOverUptoRow.holds Tryz.pinned (OpenSpec.upto boundOverSpec)

/-- 'teasellaw28.BoundSteps', WHERE WHAT IT READS IS OF BULK AT MOST 1048576: true; the input reads as it did. -/
def boundStepsUptoRow : OpenClaim := { program := "ytaamacoicojhnaagreat", sum := "ee6f9eb8b6828145643393d88f59dac8c9269ec381a825ab930c221db36f7ca0", func := "teasel/teasellaw28.BoundSteps", spec := "boundSteps", inPlace := ["internal/bytealg.abigen_runtime_cmpstring"], unfollowed := true, recurses := true, plainKeys := false, apart := false, narrowed := true }
def BoundStepsUptoSaid : Prop := boundStepsUptoRow.holds Tryz.pinned (OpenSpec.upto boundStepsSpec)

/-- 'teasellaw28.BoundCancel', WHERE WHAT IT READS IS OF BULK AT MOST 1048576: true; the input reads as it did. -/
def boundCancelUptoRow : OpenClaim := { program := "ytaamacoicojhnaagreat", sum := "ee6f9eb8b6828145643393d88f59dac8c9269ec381a825ab930c221db36f7ca0", func := "teasel/teasellaw28.BoundCancel", spec := "boundCancel", inPlace := ["internal/bytealg.abigen_runtime_cmpstring"], unfollowed := true, recurses := true, plainKeys := false, apart := false, narrowed := true }
def BoundCancelUptoSaid : Prop := boundCancelUptoRow.holds Tryz.pinned (OpenSpec.upto boundCancelSpec)

/-- 'teasellaw27.PoolTells', WHERE WHAT IT READS IS OF BULK AT MOST 1048576: true; the input reads as it did. -/
def poolTellsUptoRow : OpenClaim := { program := "ytaamacoicojhnaagreat", sum := "ee6f9eb8b6828145643393d88f59dac8c9269ec381a825ab930c221db36f7ca0", func := "teasel/teasellaw27.PoolTells", spec := "poolTells", inPlace := ["internal/bytealg.abigen_runtime_cmpstring"], unfollowed := true, recurses := true, plainKeys := false, apart := false, narrowed := true }
def PoolTellsUptoSaid : Prop := poolTellsUptoRow.holds Tryz.pinned (OpenSpec.upto poolTellsSpec)

/-- 'teasellaw27.PoolOrder', WHERE WHAT IT READS IS OF BULK AT MOST 1048576: true; the input reads as it did. -/
def poolOrderUptoRow : OpenClaim := { program := "ytaamacoicojhnaagreat", sum := "ee6f9eb8b6828145643393d88f59dac8c9269ec381a825ab930c221db36f7ca0", func := "teasel/teasellaw27.PoolOrder", spec := "poolOrder", inPlace := ["internal/bytealg.abigen_runtime_cmpstring"], unfollowed := true, recurses := true, plainKeys := false, apart := false, narrowed := true }
def PoolOrderUptoSaid : Prop := poolOrderUptoRow.holds Tryz.pinned (OpenSpec.upto poolOrderSpec)

/-- 'teasellaw27.PoolGoes', WHERE WHAT IT READS IS OF BULK AT MOST 1048576: true; the input reads as it did. -/
def poolGoesUptoRow : OpenClaim := { program := "ytaamacoicojhnaagreat", sum := "ee6f9eb8b6828145643393d88f59dac8c9269ec381a825ab930c221db36f7ca0", func := "teasel/teasellaw27.PoolGoes", spec := "poolGoes", inPlace := ["internal/bytealg.abigen_runtime_cmpstring"], unfollowed := true, recurses := true, plainKeys := false, apart := false, narrowed := true }
def PoolGoesUptoSaid : Prop := poolGoesUptoRow.holds Tryz.pinned (OpenSpec.upto poolGoesSpec)

/-- 'teasellaw27.PoolRoom', WHERE WHAT IT READS IS OF BULK AT MOST 1048576: true; the input reads as it did. -/
def poolRoomUptoRow : OpenClaim := { program := "ytaamacoicojhnaagreat", sum := "ee6f9eb8b6828145643393d88f59dac8c9269ec381a825ab930c221db36f7ca0", func := "teasel/teasellaw27.PoolRoom", spec := "poolRoom", inPlace := ["internal/bytealg.abigen_runtime_cmpstring"], unfollowed := true, recurses := true, plainKeys := false, apart := false, narrowed := true }
def PoolRoomUptoSaid : Prop := poolRoomUptoRow.holds Tryz.pinned (OpenSpec.upto poolRoomSpec)

/-- 'teasellaw27.PoolPicks', WHERE WHAT IT READS IS OF BULK AT MOST 1048576: true; the input reads as it did. -/
def poolPicksUptoRow : OpenClaim := { program := "ytaamacoicojhnaagreat", sum := "ee6f9eb8b6828145643393d88f59dac8c9269ec381a825ab930c221db36f7ca0", func := "teasel/teasellaw27.PoolPicks", spec := "poolPicks", inPlace := ["internal/bytealg.abigen_runtime_cmpstring"], unfollowed := true, recurses := true, plainKeys := false, apart := false, narrowed := true }
def PoolPicksUptoSaid : Prop := poolPicksUptoRow.holds Tryz.pinned (OpenSpec.upto poolPicksSpec)

end Rows
end Go.Proofs.YtaamacoicojhnaaGreat
