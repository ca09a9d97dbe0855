/-
  No cell of these rows narrows 'for every input' (looked for: loops, veiled, ifaces, maps, wideKeys, modest, calm, conditions, laid).
  DERIVED. THE GIVEN ROWS OF THIS SEAT. 11 by the template 'for every input the law returns true; each argument reads behind the call as it read before'; 0 by the template 'total and deterministic' (their statements: YtmpmjkbjnklgfaaTotals.lean).
  GIVEN WITH THE SEED: the statements are not yours to turn. If you find one false, say at which input.
  Laid BY PROGRAM, IN A SANDBOX (cutbox-rows.mjs): the forced cells as the released guide's own fill.sh prints them over the translation 94b29eeb8528c5e3… (all of the seat's roots in one cut). By AI agents, Wed Nov 11 2026. No macro, syntax, notation, axiom, sorry.
-/
import Derived.Test.YtmpmjkbjnklgfaaChecked
import GoSem.Claim
import GoSem.ClaimJoined
import GoSem.ClaimMapViews
import Derived.JoinedTies
import Derived.KernelRfl
namespace Go.Proofs.Ytmpmjkbjnklgfaa
/- THE CELL 'sum', in the pinned program and in every row, IS THE sha256 OF THE DUMP (.gsa) THAT YtmpmjkbjnklgfaaProg.lean LOADS. Nothing in Lean hashes anything: it is a label: what it is worth is what the hold of that sum in a sandbox is worth. -/
noncomputable def Try.pinned : Pinned := { name := "ytmpmjkbjnklgfaa", sum := "94b29eeb8528c5e3d7214d852e5ee600428a21040c93d25510798e5dc2231694", checked := Try.checked }
namespace Rows
def none {H : Type} : Left H := { results := [], args := [] }

/-- 'teasellaw28.BoundTells': WHATEVER THE INPUT: true; the input reads as it did. -/
def boundTellsSpec : ChangeSpec := { name := "boundTells", fn := fun _ => fun
  | [d1, d2, d3, d4, d5, d6, d7] => { results := [.lit (.bool true)], args := [d1, d2, d3, d4, d5, d6, d7] }
  | _ => none }
def boundTellsRow : OpenClaim := { program := "ytmpmjkbjnklgfaa", sum := "94b29eeb8528c5e3d7214d852e5ee600428a21040c93d25510798e5dc2231694", func := "teasel/teasellaw28.BoundTells", spec := "boundTells", unfollowed := true, recurses := true, plainKeys := false, apart := false }
def BoundTellsSaid : Prop := boundTellsRow.holds Try.pinned (OpenSpec.ofChange boundTellsSpec)

/-- ITS FALSE NEIGHBOUR: 'it returns false'. Refute it at one input. -/
def boundTellsWrong : ChangeSpec := { name := "boundTells", fn := fun _ => fun
  | [d1, d2, d3, d4, d5, d6, d7] => { results := [.lit (.bool false)], args := [d1, d2, d3, d4, d5, d6, d7] }
  | _ => none }
def BoundTellsWrongFalsely : Prop := boundTellsRow.holds Try.pinned (OpenSpec.ofChange boundTellsWrong)

/-- 'teasellaw28.BoundRises': WHATEVER THE INPUT: true; the input reads as it did. -/
def boundRisesSpec : ChangeSpec := { name := "boundRises", fn := fun _ => fun
  | [d1, d2, d3, d4, d5] => { results := [.lit (.bool true)], args := [d1, d2, d3, d4, d5] }
  | _ => none }
def boundRisesRow : OpenClaim := { program := "ytmpmjkbjnklgfaa", sum := "94b29eeb8528c5e3d7214d852e5ee600428a21040c93d25510798e5dc2231694", func := "teasel/teasellaw28.BoundRises", spec := "boundRises", unfollowed := true, recurses := true, plainKeys := false, apart := false }
def BoundRisesSaid : Prop := boundRisesRow.holds Try.pinned (OpenSpec.ofChange boundRisesSpec)

/-- ITS FALSE NEIGHBOUR: 'it returns false'. Refute it at one input. -/
def boundRisesWrong : ChangeSpec := { name := "boundRises", fn := fun _ => fun
  | [d1, d2, d3, d4, d5] => { results := [.lit (.bool false)], args := [d1, d2, d3, d4, d5] }
  | _ => none }
def BoundRisesWrongFalsely : Prop := boundRisesRow.holds Try.pinned (OpenSpec.ofChange boundRisesWrong)

/-- 'teasellaw06.OccTells': WHATEVER THE INPUT: true; the input reads as it did. -/
def occTellsSpec : ChangeSpec := { name := "occTells", fn := fun _ => fun
  | [d1, d2, d3, d4, d5, d6, d7, d8] => { results := [.lit (.bool true)], args := [d1, d2, d3, d4, d5, d6, d7, d8] }
  | _ => none }
def occTellsRow : OpenClaim := { program := "ytmpmjkbjnklgfaa", sum := "94b29eeb8528c5e3d7214d852e5ee600428a21040c93d25510798e5dc2231694", func := "teasel/teasellaw06.OccTells", spec := "occTells", unfollowed := true, recurses := true, plainKeys := false, apart := false }
def OccTellsSaid : Prop := occTellsRow.holds Try.pinned (OpenSpec.ofChange occTellsSpec)

/-- ITS FALSE NEIGHBOUR: 'it returns false'. Refute it at one input. -/
def occTellsWrong : ChangeSpec := { name := "occTells", fn := fun _ => fun
  | [d1, d2, d3, d4, d5, d6, d7, d8] => { results := [.lit (.bool false)], args := [d1, d2, d3, d4, d5, d6, d7, d8] }
  | _ => none }
def OccTellsWrongFalsely : Prop := occTellsRow.holds Try.pinned (OpenSpec.ofChange occTellsWrong)

/-- 'teasellaw06.OccAll': WHATEVER THE INPUT: true; the input reads as it did. -/
def occAllSpec : ChangeSpec := { name := "occAll", fn := fun _ => fun
  | [d1, d2, d3] => { results := [.lit (.bool true)], args := [d1, d2, d3] }
  | _ => none }
def occAllRow : OpenClaim := { program := "ytmpmjkbjnklgfaa", sum := "94b29eeb8528c5e3d7214d852e5ee600428a21040c93d25510798e5dc2231694", func := "teasel/teasellaw06.OccAll", spec := "occAll", unfollowed := true, recurses := true, plainKeys := false, apart := false }
def OccAllSaid : Prop := occAllRow.holds Try.pinned (OpenSpec.ofChange occAllSpec)

/-- ITS FALSE NEIGHBOUR: 'it returns false'. Refute it at one input. -/
def occAllWrong : ChangeSpec := { name := "occAll", fn := fun _ => fun
  | [d1, d2, d3] => { results := [.lit (.bool false)], args := [d1, d2, d3] }
  | _ => none }
def OccAllWrongFalsely : Prop := occAllRow.holds Try.pinned (OpenSpec.ofChange occAllWrong)

/-- 'teasellaw06.OccParts': WHATEVER THE INPUT: true; the input reads as it did. -/
def occPartsSpec : ChangeSpec := { name := "occParts", fn := fun _ => fun
  | [d1, d2, d3, d4] => { results := [.lit (.bool true)], args := [d1, d2, d3, d4] }
  | _ => none }
def occPartsRow : OpenClaim := { program := "ytmpmjkbjnklgfaa", sum := "94b29eeb8528c5e3d7214d852e5ee600428a21040c93d25510798e5dc2231694", func := "teasel/teasellaw06.OccParts", spec := "occParts", unfollowed := true, recurses := true, plainKeys := false, apart := false }
def OccPartsSaid : Prop := occPartsRow.holds Try.pinned (OpenSpec.ofChange occPartsSpec)

/-- ITS FALSE NEIGHBOUR: 'it returns false'. Refute it at one input. -/
def occPartsWrong : ChangeSpec := { name := "occParts", fn := fun _ => fun
  | [d1, d2, d3, d4] => { results := [.lit (.bool false)], args := [d1, d2, d3, d4] }
  | _ => none }
def OccPartsWrongFalsely : Prop := occPartsRow.holds Try.pinned (OpenSpec.ofChange occPartsWrong)

/-- 'teasellaw06.OccOrder': WHATEVER THE INPUT: true; the input reads as it did. -/
def occOrderSpec : ChangeSpec := { name := "occOrder", fn := fun _ => fun
  | [d1, d2, d3, d4, d5, d6] => { results := [.lit (.bool true)], args := [d1, d2, d3, d4, d5, d6] }
  | _ => none }
def occOrderRow : OpenClaim := { program := "ytmpmjkbjnklgfaa", sum := "94b29eeb8528c5e3d7214d852e5ee600428a21040c93d25510798e5dc2231694", func := "teasel/teasellaw06.OccOrder", spec := "occOrder", unfollowed := true, recurses := true, plainKeys := false, apart := false }
def OccOrderSaid : Prop := occOrderRow.holds Try.pinned (OpenSpec.ofChange occOrderSpec)

/-- ITS FALSE NEIGHBOUR: 'it returns false'. Refute it at one input. -/
def occOrderWrong : ChangeSpec := { name := "occOrder", fn := fun _ => fun
  | [d1, d2, d3, d4, d5, d6] => { results := [.lit (.bool false)], args := [d1, d2, d3, d4, d5, d6] }
  | _ => none }
def OccOrderWrongFalsely : Prop := occOrderRow.holds Try.pinned (OpenSpec.ofChange occOrderWrong)

/-- 'teasellaw07.TrieWords': WHATEVER THE INPUT: true; the input reads as it did. -/
def trieWordsSpec : ChangeSpec := { name := "trieWords", fn := fun _ => fun
  | [d] => { results := [.lit (.bool true)], args := [d] }
  | _ => none }
def trieWordsRow : OpenClaim := { program := "ytmpmjkbjnklgfaa", sum := "94b29eeb8528c5e3d7214d852e5ee600428a21040c93d25510798e5dc2231694", func := "teasel/teasellaw07.TrieWords", spec := "trieWords", inPlace := ["internal/bytealg.abigen_runtime_cmpstring"], unfollowed := true, recurses := true, plainKeys := false, apart := false }
def TrieWordsSaid : Prop := trieWordsRow.holds Try.pinned (OpenSpec.ofChange trieWordsSpec)

/-- ITS FALSE NEIGHBOUR: 'it returns false'. Refute it at one input. -/
def trieWordsWrong : ChangeSpec := { name := "trieWords", fn := fun _ => fun
  | [d] => { results := [.lit (.bool false)], args := [d] }
  | _ => none }
def TrieWordsWrongFalsely : Prop := trieWordsRow.holds Try.pinned (OpenSpec.ofChange trieWordsWrong)

/-- 'teasellaw07.TrieOrder': WHATEVER THE INPUT: true; the input reads as it did. -/
def trieOrderSpec : ChangeSpec := { name := "trieOrder", fn := fun _ => fun
  | [d] => { results := [.lit (.bool true)], args := [d] }
  | _ => none }
def trieOrderRow : OpenClaim := { program := "ytmpmjkbjnklgfaa", sum := "94b29eeb8528c5e3d7214d852e5ee600428a21040c93d25510798e5dc2231694", func := "teasel/teasellaw07.TrieOrder", spec := "trieOrder", inPlace := ["internal/bytealg.abigen_runtime_cmpstring"], unfollowed := true, recurses := true, plainKeys := false, apart := false }
def TrieOrderSaid : Prop := trieOrderRow.holds Try.pinned (OpenSpec.ofChange trieOrderSpec)

/-- ITS FALSE NEIGHBOUR: 'it returns false'. Refute it at one input. -/
def trieOrderWrong : ChangeSpec := { name := "trieOrder", fn := fun _ => fun
  | [d] => { results := [.lit (.bool false)], args := [d] }
  | _ => none }
def TrieOrderWrongFalsely : Prop := trieOrderRow.holds Try.pinned (OpenSpec.ofChange trieOrderWrong)

/-- 'teasellaw07.TrieFind': WHATEVER THE INPUT: true; the input reads as it did. -/
def trieFindSpec : ChangeSpec := { name := "trieFind", fn := fun _ => fun
  | [d1, d2] => { results := [.lit (.bool true)], args := [d1, d2] }
  | _ => none }
def trieFindRow : OpenClaim := { program := "ytmpmjkbjnklgfaa", sum := "94b29eeb8528c5e3d7214d852e5ee600428a21040c93d25510798e5dc2231694", func := "teasel/teasellaw07.TrieFind", spec := "trieFind", inPlace := ["internal/bytealg.abigen_runtime_cmpstring"], unfollowed := true, recurses := true, plainKeys := false, apart := false }
def TrieFindSaid : Prop := trieFindRow.holds Try.pinned (OpenSpec.ofChange trieFindSpec)

/-- ITS FALSE NEIGHBOUR: 'it returns false'. Refute it at one input. -/
def trieFindWrong : ChangeSpec := { name := "trieFind", fn := fun _ => fun
  | [d1, d2] => { results := [.lit (.bool false)], args := [d1, d2] }
  | _ => none }
def TrieFindWrongFalsely : Prop := trieFindRow.holds Try.pinned (OpenSpec.ofChange trieFindWrong)

/-- 'teasellaw07.TrieSpoilt': WHATEVER THE INPUT: true; the input reads as it did. -/
def trieSpoiltSpec : ChangeSpec := { name := "trieSpoilt", fn := fun _ => fun
  | [d1, d2, d3, d4, d5] => { results := [.lit (.bool true)], args := [d1, d2, d3, d4, d5] }
  | _ => none }
def trieSpoiltRow : OpenClaim := { program := "ytmpmjkbjnklgfaa", sum := "94b29eeb8528c5e3d7214d852e5ee600428a21040c93d25510798e5dc2231694", func := "teasel/teasellaw07.TrieSpoilt", spec := "trieSpoilt", inPlace := ["internal/bytealg.abigen_runtime_cmpstring"], unfollowed := true, recurses := true, plainKeys := false, apart := false }
def TrieSpoiltSaid : Prop := trieSpoiltRow.holds Try.pinned (OpenSpec.ofChange trieSpoiltSpec)

/-- ITS FALSE NEIGHBOUR: 'it returns false'. Refute it at one input. -/
def trieSpoiltWrong : ChangeSpec := { name := "trieSpoilt", fn := fun _ => fun
  | [d1, d2, d3, d4, d5] => { results := [.lit (.bool false)], args := [d1, d2, d3, d4, d5] }
  | _ => none }
def TrieSpoiltWrongFalsely : Prop := trieSpoiltRow.holds Try.pinned (OpenSpec.ofChange trieSpoiltWrong)

/-- 'teasellaw15.GreedyChooses': WHATEVER THE INPUT: true; the input reads as it did. -/
def greedyChoosesSpec : ChangeSpec := { name := "greedyChooses", fn := fun _ => fun
  | [d1, d2] => { results := [.lit (.bool true)], args := [d1, d2] }
  | _ => none }
def greedyChoosesRow : OpenClaim := { program := "ytmpmjkbjnklgfaa", sum := "94b29eeb8528c5e3d7214d852e5ee600428a21040c93d25510798e5dc2231694", func := "teasel/teasellaw15.GreedyChooses", spec := "greedyChooses", unfollowed := true, recurses := true, plainKeys := false, apart := false }
def GreedyChoosesSaid : Prop := greedyChoosesRow.holds Try.pinned (OpenSpec.ofChange greedyChoosesSpec)

/-- ITS FALSE NEIGHBOUR: 'it returns false'. Refute it at one input. -/
def greedyChoosesWrong : ChangeSpec := { name := "greedyChooses", fn := fun _ => fun
  | [d1, d2] => { results := [.lit (.bool false)], args := [d1, d2] }
  | _ => none }
def GreedyChoosesWrongFalsely : Prop := greedyChoosesRow.holds Try.pinned (OpenSpec.ofChange greedyChoosesWrong)

/- THE SECOND FORM. 'bulk': how many values and letters a reading holds, each counted each time it is reached (what is shared counts as often as it is met; a slice's spare places count too). A statement '..UptoSaid' is the law's where the arguments, and the package variables that the reading takes, are together of bulk at most 1048576: NARROWER than '..Said'. Prove '..Said' where nothing that the law and all that it calls make is longer than what came in: it says more and counts as full. Else prove '..UptoSaid'. A law counts once. -/
mutual
def uptoBulk {H : Type} : DataW H → Nat
  | .lit (.string bytes) => bytes.length + 1
  | .lit _ => 1
  | .nil => 1
  | .ptr d => uptoBulk d + 1
  | .slice elems spare => uptoBulkAll elems + uptoBulkAll spare + 1
  | .agg parts => uptoBulkAll parts + 1
  | .iface _ d => uptoBulk d + 1
  | .map entries => uptoBulkEntries entries + 1
  | .held _ => 1
def uptoBulkAll {H : Type} : List (DataW H) → Nat
  | [] => 0
  | d :: r => uptoBulk d + uptoBulkAll r
def uptoBulkEntries {H : Type} : List (Lit × DataW H) → Nat
  | [] => 0
  | x :: r => uptoBulkEntry x + uptoBulkEntries r
def uptoBulkEntry {H : Type} : Lit × DataW H → Nat
  | (.string bytes, d) => bytes.length + uptoBulk d + 1
  | (_, d) => uptoBulk d + 1
 end
def uptoSmall : (H : Type) → List (DataW H) → Bool := fun _ ds => decide (uptoBulkAll ds ≤ 1048576)
def OpenSpec.upto (s : _root_.Go.ChangeSpec) : _root_.Go.OpenSpec := { _root_.Go.OpenSpec.ofChange s with cond := some uptoSmall }

/-- 'teasellaw28.BoundTells', WHERE WHAT IT READS IS OF BULK AT MOST 1048576: true; the input reads as it did. -/
def boundTellsUptoRow : OpenClaim := { program := "ytmpmjkbjnklgfaa", sum := "94b29eeb8528c5e3d7214d852e5ee600428a21040c93d25510798e5dc2231694", func := "teasel/teasellaw28.BoundTells", spec := "boundTells", unfollowed := true, recurses := true, plainKeys := false, apart := false, narrowed := true }
def BoundTellsUptoSaid : Prop := boundTellsUptoRow.holds Try.pinned (OpenSpec.upto boundTellsSpec)

/-- 'teasellaw28.BoundRises', WHERE WHAT IT READS IS OF BULK AT MOST 1048576: true; the input reads as it did. -/
def boundRisesUptoRow : OpenClaim := { program := "ytmpmjkbjnklgfaa", sum := "94b29eeb8528c5e3d7214d852e5ee600428a21040c93d25510798e5dc2231694", func := "teasel/teasellaw28.BoundRises", spec := "boundRises", unfollowed := true, recurses := true, plainKeys := false, apart := false, narrowed := true }
def BoundRisesUptoSaid : Prop := boundRisesUptoRow.holds Try.pinned (OpenSpec.upto boundRisesSpec)

/-- 'teasellaw06.OccTells', WHERE WHAT IT READS IS OF BULK AT MOST 1048576: true; the input reads as it did. -/
def occTellsUptoRow : OpenClaim := { program := "ytmpmjkbjnklgfaa", sum := "94b29eeb8528c5e3d7214d852e5ee600428a21040c93d25510798e5dc2231694", func := "teasel/teasellaw06.OccTells", spec := "occTells", unfollowed := true, recurses := true, plainKeys := false, apart := false, narrowed := true }
def OccTellsUptoSaid : Prop := occTellsUptoRow.holds Try.pinned (OpenSpec.upto occTellsSpec)

/-- 'teasellaw06.OccAll', WHERE WHAT IT READS IS OF BULK AT MOST 1048576: true; the input reads as it did. -/
def occAllUptoRow : OpenClaim := { program := "ytmpmjkbjnklgfaa", sum := "94b29eeb8528c5e3d7214d852e5ee600428a21040c93d25510798e5dc2231694", func := "teasel/teasellaw06.OccAll", spec := "occAll", unfollowed := true, recurses := true, plainKeys := false, apart := false, narrowed := true }
def OccAllUptoSaid : Prop := occAllUptoRow.holds Try.pinned (OpenSpec.upto occAllSpec)

/-- 'teasellaw06.OccParts', WHERE WHAT IT READS IS OF BULK AT MOST 1048576: true; the input reads as it did. -/
def occPartsUptoRow : OpenClaim := { program := "ytmpmjkbjnklgfaa", sum := "94b29eeb8528c5e3d7214d852e5ee600428a21040c93d25510798e5dc2231694", func := "teasel/teasellaw06.OccParts", spec := "occParts", unfollowed := true, recurses := true, plainKeys := false, apart := false, narrowed := true }
def OccPartsUptoSaid : Prop := occPartsUptoRow.holds Try.pinned (OpenSpec.upto occPartsSpec)

/-- 'teasellaw06.OccOrder', WHERE WHAT IT READS IS OF BULK AT MOST 1048576: true; the input reads as it did. -/
def occOrderUptoRow : OpenClaim := { program := "ytmpmjkbjnklgfaa", sum := "94b29eeb8528c5e3d7214d852e5ee600428a21040c93d25510798e5dc2231694", func := "teasel/teasellaw06.OccOrder", spec := "occOrder", unfollowed := true, recurses := true, plainKeys := false, apart := false, narrowed := true }
def OccOrderUptoSaid : Prop := occOrderUptoRow.holds Try.pinned (OpenSpec.upto occOrderSpec)

/-- 'teasellaw07.TrieWords', WHERE WHAT IT READS IS OF BULK AT MOST 1048576: true; the input reads as it did. -/
def trieWordsUptoRow : OpenClaim := { program := "ytmpmjkbjnklgfaa", sum := "94b29eeb8528c5e3d7214d852e5ee600428a21040c93d25510798e5dc2231694", func := "teasel/teasellaw07.TrieWords", spec := "trieWords", inPlace := ["internal/bytealg.abigen_runtime_cmpstring"], unfollowed := true, recurses := true, plainKeys := false, apart := false, narrowed := true }
def TrieWordsUptoSaid : Prop := trieWordsUptoRow.holds Try.pinned (OpenSpec.upto trieWordsSpec)

/-- 'teasellaw07.TrieOrder', WHERE WHAT IT READS IS OF BULK AT MOST 1048576: true; the input reads as it did. -/
def trieOrderUptoRow : OpenClaim := { program := "ytmpmjkbjnklgfaa", sum := "94b29eeb8528c5e3d7214d852e5ee600428a21040c93d25510798e5dc2231694", func := "teasel/teasellaw07.TrieOrder", spec := "trieOrder", inPlace := ["internal/bytealg.abigen_runtime_cmpstring"], unfollowed := true, recurses := true, plainKeys := false, apart := false, narrowed := true }
def TrieOrderUptoSaid : Prop := trieOrderUptoRow.holds Try.pinned (OpenSpec.upto trieOrderSpec)

/-- 'teasellaw07.TrieFind', WHERE WHAT IT READS IS OF BULK AT MOST 1048576: true; the input reads as it did. -/
def trieFindUptoRow : OpenClaim := { program := "ytmpmjkbjnklgfaa", sum := "94b29eeb8528c5e3d7214d852e5ee600428a21040c93d25510798e5dc2231694", func := "teasel/teasellaw07.TrieFind", spec := "trieFind", inPlace := ["internal/bytealg.abigen_runtime_cmpstring"], unfollowed := true, recurses := true, plainKeys := false, apart := false, narrowed := true }
def TrieFindUptoSaid : Prop := trieFindUptoRow.holds Try.pinned (OpenSpec.upto trieFindSpec)

/-- 'teasellaw07.TrieSpoilt', WHERE WHAT IT READS IS OF BULK AT MOST 1048576: true; the input reads as it did. -/
def trieSpoiltUptoRow : OpenClaim := { program := "ytmpmjkbjnklgfaa", sum := "94b29eeb8528c5e3d7214d852e5ee600428a21040c93d25510798e5dc2231694", func := "teasel/teasellaw07.TrieSpoilt", spec := "trieSpoilt", inPlace := ["internal/bytealg.abigen_runtime_cmpstring"], unfollowed := true, recurses := true, plainKeys := false, apart := false, narrowed := true }
def TrieSpoiltUptoSaid : Prop := trieSpoiltUptoRow.holds Try.pinned (OpenSpec.upto trieSpoiltSpec)

/-- 'teasellaw15.GreedyChooses', WHERE WHAT IT READS IS OF BULK AT MOST 1048576: true; the input reads as it did. -/
def greedyChoosesUptoRow : OpenClaim := { program := "ytmpmjkbjnklgfaa", sum := "94b29eeb8528c5e3d7214d852e5ee600428a21040c93d25510798e5dc2231694", func := "teasel/teasellaw15.GreedyChooses", spec := "greedyChooses", unfollowed := true, recurses := true, plainKeys := false, apart := false, narrowed := true }
def GreedyChoosesUptoSaid : Prop := greedyChoosesUptoRow.holds Try.pinned (OpenSpec.upto greedyChoosesSpec)

end Rows
end Go.Proofs.Ytmpmjkbjnklgfaa
