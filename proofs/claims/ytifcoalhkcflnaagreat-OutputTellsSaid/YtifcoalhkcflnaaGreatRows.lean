/-
  No cell of these rows narrows 'for every input' (looked for: loops, veiled, ifaces, maps, wideKeys, modest, calm, conditions, laid).
  DERIVED. THE GIVEN ROWS OF THIS SEAT. 4 by the template 'for every input the law returns true; each argument reads behind the call as it read before'; 0 by the template 'total and deterministic' (their statements: YtifcoalhkcflnaaGreatTotals.lean).
  GIVEN WITH THE SEED: the statements are not yours to turn. If you find one false, say at which input.
  Laid BY PROGRAM, IN A SANDBOX (cutbox-rows.mjs): the forced cells as the released guide's own fill.sh prints them over the translation 0ed712c70537f30c… (all of the seat's roots in one cut). By AI agents, Wed Nov 11 2026. No macro, syntax, notation, axiom, sorry.
-/
import Derived.Test.YtifcoalhkcflnaaGreatChecked
import GoSem.Claim
import GoSem.ClaimJoined
import GoSem.ClaimMapViews
import Derived.JoinedTies
import Derived.KernelRfl
namespace Go.Proofs.YtifcoalhkcflnaaGreat
/- THE CELL 'sum', in the pinned program and in every row, IS THE sha256 OF THE DUMP (.gsa) THAT YtifcoalhkcflnaaGreatProg.lean LOADS. Nothing in Lean hashes anything: it is a label: what it is worth is what the hold of that sum in a sandbox is worth. -/
noncomputable def Tryz.pinned : Pinned := { name := "ytifcoalhkcflnaagreat", sum := "0ed712c70537f30cb213dafd96b3026995eccb531d5bf16efbf67dbc3cae8f94", checked := Tryz.checked }
namespace Rows
def none {H : Type} : Left H := { results := [], args := [] }

/-- 'teasellaw07.TrieTells': WHATEVER THE INPUT: true; the input reads as it did. -/
def trieTellsSpec : ChangeSpec := { name := "trieTells", fn := fun _ => fun
  | [d1, d2, d3, d4, d5, d6] => { results := [.lit (.bool true)], args := [d1, d2, d3, d4, d5, d6] }
  | _ => none }
def trieTellsRow : OpenClaim := { program := "ytifcoalhkcflnaagreat", sum := "0ed712c70537f30cb213dafd96b3026995eccb531d5bf16efbf67dbc3cae8f94", func := "teasel/teasellaw07.TrieTells", spec := "trieTells", inPlace := ["internal/bytealg.abigen_runtime_cmpstring"], unfollowed := true, recurses := true, plainKeys := false, apart := false }
def TrieTellsSaid : Prop := trieTellsRow.holds Tryz.pinned (OpenSpec.ofChange trieTellsSpec)

/-- ITS FALSE NEIGHBOUR: 'it returns false'. Refute it at one input. -/
def trieTellsWrong : ChangeSpec := { name := "trieTells", fn := fun _ => fun
  | [d1, d2, d3, d4, d5, d6] => { results := [.lit (.bool false)], args := [d1, d2, d3, d4, d5, d6] }
  | _ => none }
def TrieTellsWrongFalsely : Prop := trieTellsRow.holds Tryz.pinned (OpenSpec.ofChange trieTellsWrong)

/-- 'teasellaw08.FailTells': WHATEVER THE INPUT: true; the input reads as it did. -/
def failTellsSpec : ChangeSpec := { name := "failTells", fn := fun _ => fun
  | [d1, d2, d3, d4, d5] => { results := [.lit (.bool true)], args := [d1, d2, d3, d4, d5] }
  | _ => none }
def failTellsRow : OpenClaim := { program := "ytifcoalhkcflnaagreat", sum := "0ed712c70537f30cb213dafd96b3026995eccb531d5bf16efbf67dbc3cae8f94", func := "teasel/teasellaw08.FailTells", spec := "failTells", inPlace := ["internal/bytealg.abigen_runtime_cmpstring"], unfollowed := true, recurses := true, plainKeys := false, apart := false }
def FailTellsSaid : Prop := failTellsRow.holds Tryz.pinned (OpenSpec.ofChange failTellsSpec)

/-- ITS FALSE NEIGHBOUR: 'it returns false'. Refute it at one input. -/
def failTellsWrong : ChangeSpec := { name := "failTells", fn := fun _ => fun
  | [d1, d2, d3, d4, d5] => { results := [.lit (.bool false)], args := [d1, d2, d3, d4, d5] }
  | _ => none }
def FailTellsWrongFalsely : Prop := failTellsRow.holds Tryz.pinned (OpenSpec.ofChange failTellsWrong)

/-- 'teasellaw09.OutputTells': WHATEVER THE INPUT: true; the input reads as it did. -/
def outputTellsSpec : ChangeSpec := { name := "outputTells", fn := fun _ => fun
  | [d1, d2] => { results := [.lit (.bool true)], args := [d1, d2] }
  | _ => none }
def outputTellsRow : OpenClaim := { program := "ytifcoalhkcflnaagreat", sum := "0ed712c70537f30cb213dafd96b3026995eccb531d5bf16efbf67dbc3cae8f94", func := "teasel/teasellaw09.OutputTells", spec := "outputTells", inPlace := ["internal/bytealg.abigen_runtime_cmpstring"], unfollowed := true, recurses := true, plainKeys := false, apart := false }
def OutputTellsSaid : Prop := outputTellsRow.holds Tryz.pinned (OpenSpec.ofChange outputTellsSpec)

/-- ITS FALSE NEIGHBOUR: 'it returns false'. Refute it at one input. -/
def outputTellsWrong : ChangeSpec := { name := "outputTells", fn := fun _ => fun
  | [d1, d2] => { results := [.lit (.bool false)], args := [d1, d2] }
  | _ => none }
def OutputTellsWrongFalsely : Prop := outputTellsRow.holds Tryz.pinned (OpenSpec.ofChange outputTellsWrong)

/-- 'teasellaw09.OutputEnds': WHATEVER THE INPUT: true; the input reads as it did. -/
def outputEndsSpec : ChangeSpec := { name := "outputEnds", fn := fun _ => fun
  | [d] => { results := [.lit (.bool true)], args := [d] }
  | _ => none }
def outputEndsRow : OpenClaim := { program := "ytifcoalhkcflnaagreat", sum := "0ed712c70537f30cb213dafd96b3026995eccb531d5bf16efbf67dbc3cae8f94", func := "teasel/teasellaw09.OutputEnds", spec := "outputEnds", inPlace := ["internal/bytealg.abigen_runtime_cmpstring"], unfollowed := true, recurses := true, plainKeys := false, apart := false }
def OutputEndsSaid : Prop := outputEndsRow.holds Tryz.pinned (OpenSpec.ofChange outputEndsSpec)

/-- ITS FALSE NEIGHBOUR: 'it returns false'. Refute it at one input. -/
def outputEndsWrong : ChangeSpec := { name := "outputEnds", fn := fun _ => fun
  | [d] => { results := [.lit (.bool false)], args := [d] }
  | _ => none }
def OutputEndsWrongFalsely : Prop := outputEndsRow.holds Tryz.pinned (OpenSpec.ofChange outputEndsWrong)

/- THE SECOND FORM. 'bulk': how many values and letters a reading holds, each counted each time it is reached (what is shared counts as often as it is met; a slice's spare places count too). A statement '..UptoSaid' is the law's where the arguments, and the package variables that the reading takes, are together of bulk at most 1048576: NARROWER than '..Said'. Prove '..Said' where nothing that the law and all that it calls make is longer than what came in: it says more and counts as full. Else prove '..UptoSaid'. A law counts once. -/
mutual
def uptoBulk {H : Type} : DataW H → Nat
  | .lit (.string bytes) => bytes.length + 1
  | .lit _ => 1
  | .nil => 1
  | .ptr d => uptoBulk d + 1
  | .slice elems spare => uptoBulkAll elems + uptoBulkAll spare + 1
  | .agg parts => uptoBulkAll parts + 1
  | .iface _ d => uptoBulk d + 1
  | .map entries => uptoBulkEntries entries + 1
  | .held _ => 1
def uptoBulkAll {H : Type} : List (DataW H) → Nat
  | [] => 0
  | d :: r => uptoBulk d + uptoBulkAll r
def uptoBulkEntries {H : Type} : List (Lit × DataW H) → Nat
  | [] => 0
  | x :: r => uptoBulkEntry x + uptoBulkEntries r
def uptoBulkEntry {H : Type} : Lit × DataW H → Nat
  | (.string bytes, d) => bytes.length + uptoBulk d + 1
  | (_, d) => uptoBulk d + 1
 end
def uptoSmall : (H : Type) → List (DataW H) → Bool := fun _ ds => decide (uptoBulkAll ds ≤ 1048576)
def OpenSpec.upto (s : _root_.Go.ChangeSpec) : _root_.Go.OpenSpec := { _root_.Go.OpenSpec.ofChange s with cond := some uptoSmall }

/-- 'teasellaw07.TrieTells', WHERE WHAT IT READS IS OF BULK AT MOST 1048576: true; the input reads as it did. -/
def trieTellsUptoRow : OpenClaim := { program := "ytifcoalhkcflnaagreat", sum := "0ed712c70537f30cb213dafd96b3026995eccb531d5bf16efbf67dbc3cae8f94", func := "teasel/teasellaw07.TrieTells", spec := "trieTells", inPlace := ["internal/bytealg.abigen_runtime_cmpstring"], unfollowed := true, recurses := true, plainKeys := false, apart := false, narrowed := true }
def TrieTellsUptoSaid : Prop := trieTellsUptoRow.holds Tryz.pinned (OpenSpec.upto trieTellsSpec)

/-- 'teasellaw08.FailTells', WHERE WHAT IT READS IS OF BULK AT MOST 1048576: true; the input reads as it did. -/
def failTellsUptoRow : OpenClaim := { program := "ytifcoalhkcflnaagreat", sum := "0ed712c70537f30cb213dafd96b3026995eccb531d5bf16efbf67dbc3cae8f94", func := "teasel/teasellaw08.FailTells", spec := "failTells", inPlace := ["internal/bytealg.abigen_runtime_cmpstring"], unfollowed := true, recurses := true, plainKeys := false, apart := false, narrowed := true }
def FailTellsUptoSaid : Prop := failTellsUptoRow.holds Tryz.pinned (OpenSpec.upto failTellsSpec)

/-- 'teasellaw09.OutputTells', WHERE WHAT IT READS IS OF BULK AT MOST 1048576: true; the input reads as it did. -/
def outputTellsUptoRow : OpenClaim := { program := "ytifcoalhkcflnaagreat", sum := "0ed712c70537f30cb213dafd96b3026995eccb531d5bf16efbf67dbc3cae8f94", func := "teasel/teasellaw09.OutputTells", spec := "outputTells", inPlace := ["internal/bytealg.abigen_runtime_cmpstring"], unfollowed := true, recurses := true, plainKeys := false, apart := false, narrowed := true }
def OutputTellsUptoSaid : Prop := outputTellsUptoRow.holds Tryz.pinned (OpenSpec.upto outputTellsSpec)

/-- 'teasellaw09.OutputEnds', WHERE WHAT IT READS IS OF BULK AT MOST 1048576: true; the input reads as it did. -/
def outputEndsUptoRow : OpenClaim := { program := "ytifcoalhkcflnaagreat", sum := "0ed712c70537f30cb213dafd96b3026995eccb531d5bf16efbf67dbc3cae8f94", func := "teasel/teasellaw09.OutputEnds", spec := "outputEnds", inPlace := ["internal/bytealg.abigen_runtime_cmpstring"], unfollowed := true, recurses := true, plainKeys := false, apart := false, narrowed := true }
def OutputEndsUptoSaid : Prop := outputEndsUptoRow.holds Tryz.pinned (OpenSpec.upto outputEndsSpec)

end Rows
end Go.Proofs.YtifcoalhkcflnaaGreat
