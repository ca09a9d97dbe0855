/-
  No cell of these rows narrows 'for every input' (looked for: loops, veiled, ifaces, maps, wideKeys, modest, calm, conditions, laid).
  DERIVED. THE GIVEN ROWS OF THIS SEAT. 12 by the template 'for every input the law returns true; each argument reads behind the call as it read before'; 0 by the template 'total and deterministic' (their statements: YtbiinfnekhhfkaaGreatTotals.lean).
  GIVEN WITH THE SEED: the statements are not yours to turn. If you find one false, say at which input.
  Laid BY PROGRAM, IN A SANDBOX (cutbox-rows.mjs): the forced cells as the released guide's own fill.sh prints them over the translation 9737b67289200a48… (all of the seat's roots in one cut). By AI agents, Wed Nov 11 2026. No macro, syntax, notation, axiom, sorry.
-/
import Derived.Test.YtbiinfnekhhfkaaGreatChecked
import GoSem.Claim
import GoSem.ClaimJoined
import GoSem.ClaimMapViews
import Derived.JoinedTies
import Derived.KernelRfl
namespace Go.Proofs.YtbiinfnekhhfkaaGreat
/- THE CELL 'sum', in the pinned program and in every row, IS THE sha256 OF THE DUMP (.gsa) THAT YtbiinfnekhhfkaaGreatProg.lean LOADS. Nothing in Lean hashes anything: it is a label: what it is worth is what the hold of that sum in a sandbox is worth. -/
noncomputable def Tryz.pinned : Pinned := { name := "ytbiinfnekhhfkaagreat", sum := "9737b67289200a48a063426cf2aebd2341936e84d87f44cf8fb614de07ab3098", checked := Tryz.checked }
namespace Rows
def none {H : Type} : Left H := { results := [], args := [] }

/-- 'teasellaw13.MachineTells': WHATEVER THE INPUT: true; the input reads as it did. -/
def machineTellsSpec : ChangeSpec := { name := "machineTells", fn := fun _ => fun
  | [d1, d2, d3, d4, d5] => { results := [.lit (.bool true)], args := [d1, d2, d3, d4, d5] }
  | _ => none }
def machineTellsRow : OpenClaim := { program := "ytbiinfnekhhfkaagreat", sum := "9737b67289200a48a063426cf2aebd2341936e84d87f44cf8fb614de07ab3098", func := "teasel/teasellaw13.MachineTells", spec := "machineTells", inPlace := ["internal/bytealg.abigen_runtime_cmpstring"], unfollowed := true, recurses := true, plainKeys := false, apart := false }
def MachineTellsSaid : Prop := machineTellsRow.holds Tryz.pinned (OpenSpec.ofChange machineTellsSpec)

/-- ITS FALSE NEIGHBOUR: 'it returns false'. Refute it at one input. -/
def machineTellsWrong : ChangeSpec := { name := "machineTells", fn := fun _ => fun
  | [d1, d2, d3, d4, d5] => { results := [.lit (.bool false)], args := [d1, d2, d3, d4, d5] }
  | _ => none }
def MachineTellsWrongFalsely : Prop := machineTellsRow.holds Tryz.pinned (OpenSpec.ofChange machineTellsWrong)

/-- 'teasellaw13.MachineEnds': WHATEVER THE INPUT: true; the input reads as it did. -/
def machineEndsSpec : ChangeSpec := { name := "machineEnds", fn := fun _ => fun
  | [d1, d2] => { results := [.lit (.bool true)], args := [d1, d2] }
  | _ => none }
def machineEndsRow : OpenClaim := { program := "ytbiinfnekhhfkaagreat", sum := "9737b67289200a48a063426cf2aebd2341936e84d87f44cf8fb614de07ab3098", func := "teasel/teasellaw13.MachineEnds", spec := "machineEnds", inPlace := ["internal/bytealg.abigen_runtime_cmpstring"], unfollowed := true, recurses := true, plainKeys := false, apart := false }
def MachineEndsSaid : Prop := machineEndsRow.holds Tryz.pinned (OpenSpec.ofChange machineEndsSpec)

/-- ITS FALSE NEIGHBOUR: 'it returns false'. Refute it at one input. -/
def machineEndsWrong : ChangeSpec := { name := "machineEnds", fn := fun _ => fun
  | [d1, d2] => { results := [.lit (.bool false)], args := [d1, d2] }
  | _ => none }
def MachineEndsWrongFalsely : Prop := machineEndsRow.holds Tryz.pinned (OpenSpec.ofChange machineEndsWrong)

/-- 'teasellaw13.MachineGoes': WHATEVER THE INPUT: true; the input reads as it did. -/
def machineGoesSpec : ChangeSpec := { name := "machineGoes", fn := fun _ => fun
  | [d1, d2, d3, d4] => { results := [.lit (.bool true)], args := [d1, d2, d3, d4] }
  | _ => none }
def machineGoesRow : OpenClaim := { program := "ytbiinfnekhhfkaagreat", sum := "9737b67289200a48a063426cf2aebd2341936e84d87f44cf8fb614de07ab3098", func := "teasel/teasellaw13.MachineGoes", spec := "machineGoes", inPlace := ["internal/bytealg.abigen_runtime_cmpstring"], unfollowed := true, recurses := true, plainKeys := false, apart := false }
def MachineGoesSaid : Prop := machineGoesRow.holds Tryz.pinned (OpenSpec.ofChange machineGoesSpec)

/-- ITS FALSE NEIGHBOUR: 'it returns false'. Refute it at one input. -/
def machineGoesWrong : ChangeSpec := { name := "machineGoes", fn := fun _ => fun
  | [d1, d2, d3, d4] => { results := [.lit (.bool false)], args := [d1, d2, d3, d4] }
  | _ => none }
def MachineGoesWrongFalsely : Prop := machineGoesRow.holds Tryz.pinned (OpenSpec.ofChange machineGoesWrong)

/-- 'teasellaw13.MachineStays': WHATEVER THE INPUT: true; the input reads as it did. -/
def machineStaysSpec : ChangeSpec := { name := "machineStays", fn := fun _ => fun
  | [d1, d2, d3] => { results := [.lit (.bool true)], args := [d1, d2, d3] }
  | _ => none }
def machineStaysRow : OpenClaim := { program := "ytbiinfnekhhfkaagreat", sum := "9737b67289200a48a063426cf2aebd2341936e84d87f44cf8fb614de07ab3098", func := "teasel/teasellaw13.MachineStays", spec := "machineStays", inPlace := ["internal/bytealg.abigen_runtime_cmpstring"], unfollowed := true, recurses := true, plainKeys := false, apart := false }
def MachineStaysSaid : Prop := machineStaysRow.holds Tryz.pinned (OpenSpec.ofChange machineStaysSpec)

/-- ITS FALSE NEIGHBOUR: 'it returns false'. Refute it at one input. -/
def machineStaysWrong : ChangeSpec := { name := "machineStays", fn := fun _ => fun
  | [d1, d2, d3] => { results := [.lit (.bool false)], args := [d1, d2, d3] }
  | _ => none }
def MachineStaysWrongFalsely : Prop := machineStaysRow.holds Tryz.pinned (OpenSpec.ofChange machineStaysWrong)

/-- 'teasellaw20.ProbeTells': WHATEVER THE INPUT: true; the input reads as it did. -/
def probeTellsSpec : ChangeSpec := { name := "probeTells", fn := fun _ => fun
  | [d1, d2, d3, d4, d5] => { results := [.lit (.bool true)], args := [d1, d2, d3, d4, d5] }
  | _ => none }
def probeTellsRow : OpenClaim := { program := "ytbiinfnekhhfkaagreat", sum := "9737b67289200a48a063426cf2aebd2341936e84d87f44cf8fb614de07ab3098", func := "teasel/teasellaw20.ProbeTells", spec := "probeTells", inPlace := ["internal/bytealg.abigen_runtime_cmpstring"], unfollowed := true, recurses := true, plainKeys := false, apart := false }
def ProbeTellsSaid : Prop := probeTellsRow.holds Tryz.pinned (OpenSpec.ofChange probeTellsSpec)

/-- ITS FALSE NEIGHBOUR: 'it returns false'. Refute it at one input. -/
def probeTellsWrong : ChangeSpec := { name := "probeTells", fn := fun _ => fun
  | [d1, d2, d3, d4, d5] => { results := [.lit (.bool false)], args := [d1, d2, d3, d4, d5] }
  | _ => none }
def ProbeTellsWrongFalsely : Prop := probeTellsRow.holds Tryz.pinned (OpenSpec.ofChange probeTellsWrong)

/-- 'teasellaw20.ProbeBlocks': WHATEVER THE INPUT: true; the input reads as it did. -/
def probeBlocksSpec : ChangeSpec := { name := "probeBlocks", fn := fun _ => fun
  | [d1, d2, d3, d4] => { results := [.lit (.bool true)], args := [d1, d2, d3, d4] }
  | _ => none }
def probeBlocksRow : OpenClaim := { program := "ytbiinfnekhhfkaagreat", sum := "9737b67289200a48a063426cf2aebd2341936e84d87f44cf8fb614de07ab3098", func := "teasel/teasellaw20.ProbeBlocks", spec := "probeBlocks", inPlace := ["internal/bytealg.abigen_runtime_cmpstring"], unfollowed := true, recurses := true, plainKeys := false, apart := false }
def ProbeBlocksSaid : Prop := probeBlocksRow.holds Tryz.pinned (OpenSpec.ofChange probeBlocksSpec)

/-- ITS FALSE NEIGHBOUR: 'it returns false'. Refute it at one input. -/
def probeBlocksWrong : ChangeSpec := { name := "probeBlocks", fn := fun _ => fun
  | [d1, d2, d3, d4] => { results := [.lit (.bool false)], args := [d1, d2, d3, d4] }
  | _ => none }
def ProbeBlocksWrongFalsely : Prop := probeBlocksRow.holds Tryz.pinned (OpenSpec.ofChange probeBlocksWrong)

/-- 'teasellaw20.ProbeSlices': WHATEVER THE INPUT: true; the input reads as it did. -/
def probeSlicesSpec : ChangeSpec := { name := "probeSlices", fn := fun _ => fun
  | [d1, d2, d3] => { results := [.lit (.bool true)], args := [d1, d2, d3] }
  | _ => none }
def probeSlicesRow : OpenClaim := { program := "ytbiinfnekhhfkaagreat", sum := "9737b67289200a48a063426cf2aebd2341936e84d87f44cf8fb614de07ab3098", func := "teasel/teasellaw20.ProbeSlices", spec := "probeSlices", inPlace := ["internal/bytealg.abigen_runtime_cmpstring"], unfollowed := true, recurses := true, plainKeys := false, apart := false }
def ProbeSlicesSaid : Prop := probeSlicesRow.holds Tryz.pinned (OpenSpec.ofChange probeSlicesSpec)

/-- ITS FALSE NEIGHBOUR: 'it returns false'. Refute it at one input. -/
def probeSlicesWrong : ChangeSpec := { name := "probeSlices", fn := fun _ => fun
  | [d1, d2, d3] => { results := [.lit (.bool false)], args := [d1, d2, d3] }
  | _ => none }
def ProbeSlicesWrongFalsely : Prop := probeSlicesRow.holds Tryz.pinned (OpenSpec.ofChange probeSlicesWrong)

/-- 'teasellaw20.ProbeOwn': WHATEVER THE INPUT: true; the input reads as it did. -/
def probeOwnSpec : ChangeSpec := { name := "probeOwn", fn := fun _ => fun
  | [d1, d2, d3] => { results := [.lit (.bool true)], args := [d1, d2, d3] }
  | _ => none }
def probeOwnRow : OpenClaim := { program := "ytbiinfnekhhfkaagreat", sum := "9737b67289200a48a063426cf2aebd2341936e84d87f44cf8fb614de07ab3098", func := "teasel/teasellaw20.ProbeOwn", spec := "probeOwn", inPlace := ["internal/bytealg.abigen_runtime_cmpstring"], unfollowed := true, recurses := true, plainKeys := false, apart := false }
def ProbeOwnSaid : Prop := probeOwnRow.holds Tryz.pinned (OpenSpec.ofChange probeOwnSpec)

/-- ITS FALSE NEIGHBOUR: 'it returns false'. Refute it at one input. -/
def probeOwnWrong : ChangeSpec := { name := "probeOwn", fn := fun _ => fun
  | [d1, d2, d3] => { results := [.lit (.bool false)], args := [d1, d2, d3] }
  | _ => none }
def ProbeOwnWrongFalsely : Prop := probeOwnRow.holds Tryz.pinned (OpenSpec.ofChange probeOwnWrong)

/-- 'teasellaw14.StreamTells': WHATEVER THE INPUT: true; the input reads as it did. -/
def streamTellsSpec : ChangeSpec := { name := "streamTells", fn := fun _ => fun
  | [d1, d2, d3, d4] => { results := [.lit (.bool true)], args := [d1, d2, d3, d4] }
  | _ => none }
def streamTellsRow : OpenClaim := { program := "ytbiinfnekhhfkaagreat", sum := "9737b67289200a48a063426cf2aebd2341936e84d87f44cf8fb614de07ab3098", func := "teasel/teasellaw14.StreamTells", spec := "streamTells", inPlace := ["internal/bytealg.abigen_runtime_cmpstring"], unfollowed := true, recurses := true, plainKeys := false, apart := false }
def StreamTellsSaid : Prop := streamTellsRow.holds Tryz.pinned (OpenSpec.ofChange streamTellsSpec)

/-- ITS FALSE NEIGHBOUR: 'it returns false'. Refute it at one input. -/
def streamTellsWrong : ChangeSpec := { name := "streamTells", fn := fun _ => fun
  | [d1, d2, d3, d4] => { results := [.lit (.bool false)], args := [d1, d2, d3, d4] }
  | _ => none }
def StreamTellsWrongFalsely : Prop := streamTellsRow.holds Tryz.pinned (OpenSpec.ofChange streamTellsWrong)

/-- 'teasellaw14.StreamOcc': WHATEVER THE INPUT: true; the input reads as it did. -/
def streamOccSpec : ChangeSpec := { name := "streamOcc", fn := fun _ => fun
  | [d1, d2, d3] => { results := [.lit (.bool true)], args := [d1, d2, d3] }
  | _ => none }
def streamOccRow : OpenClaim := { program := "ytbiinfnekhhfkaagreat", sum := "9737b67289200a48a063426cf2aebd2341936e84d87f44cf8fb614de07ab3098", func := "teasel/teasellaw14.StreamOcc", spec := "streamOcc", inPlace := ["internal/bytealg.abigen_runtime_cmpstring"], unfollowed := true, recurses := true, plainKeys := false, apart := false }
def StreamOccSaid : Prop := streamOccRow.holds Tryz.pinned (OpenSpec.ofChange streamOccSpec)

/-- ITS FALSE NEIGHBOUR: 'it returns false'. Refute it at one input. -/
def streamOccWrong : ChangeSpec := { name := "streamOcc", fn := fun _ => fun
  | [d1, d2, d3] => { results := [.lit (.bool false)], args := [d1, d2, d3] }
  | _ => none }
def StreamOccWrongFalsely : Prop := streamOccRow.holds Tryz.pinned (OpenSpec.ofChange streamOccWrong)

/-- 'teasellaw14.StreamParts': WHATEVER THE INPUT: true; the input reads as it did. -/
def streamPartsSpec : ChangeSpec := { name := "streamParts", fn := fun _ => fun
  | [d1, d2, d3] => { results := [.lit (.bool true)], args := [d1, d2, d3] }
  | _ => none }
def streamPartsRow : OpenClaim := { program := "ytbiinfnekhhfkaagreat", sum := "9737b67289200a48a063426cf2aebd2341936e84d87f44cf8fb614de07ab3098", func := "teasel/teasellaw14.StreamParts", spec := "streamParts", inPlace := ["internal/bytealg.abigen_runtime_cmpstring"], unfollowed := true, recurses := true, plainKeys := false, apart := false }
def StreamPartsSaid : Prop := streamPartsRow.holds Tryz.pinned (OpenSpec.ofChange streamPartsSpec)

/-- ITS FALSE NEIGHBOUR: 'it returns false'. Refute it at one input. -/
def streamPartsWrong : ChangeSpec := { name := "streamParts", fn := fun _ => fun
  | [d1, d2, d3] => { results := [.lit (.bool false)], args := [d1, d2, d3] }
  | _ => none }
def StreamPartsWrongFalsely : Prop := streamPartsRow.holds Tryz.pinned (OpenSpec.ofChange streamPartsWrong)

/-- 'teasellaw14.StreamWarm': WHATEVER THE INPUT: true; the input reads as it did. -/
def streamWarmSpec : ChangeSpec := { name := "streamWarm", fn := fun _ => fun
  | [d1, d2, d3, d4] => { results := [.lit (.bool true)], args := [d1, d2, d3, d4] }
  | _ => none }
def streamWarmRow : OpenClaim := { program := "ytbiinfnekhhfkaagreat", sum := "9737b67289200a48a063426cf2aebd2341936e84d87f44cf8fb614de07ab3098", func := "teasel/teasellaw14.StreamWarm", spec := "streamWarm", inPlace := ["internal/bytealg.abigen_runtime_cmpstring"], unfollowed := true, recurses := true, plainKeys := false, apart := false }
def StreamWarmSaid : Prop := streamWarmRow.holds Tryz.pinned (OpenSpec.ofChange streamWarmSpec)

/-- ITS FALSE NEIGHBOUR: 'it returns false'. Refute it at one input. -/
def streamWarmWrong : ChangeSpec := { name := "streamWarm", fn := fun _ => fun
  | [d1, d2, d3, d4] => { results := [.lit (.bool false)], args := [d1, d2, d3, d4] }
  | _ => none }
def StreamWarmWrongFalsely : Prop := streamWarmRow.holds Tryz.pinned (OpenSpec.ofChange streamWarmWrong)

/- THE SECOND FORM. 'bulk': how many values and letters a reading holds, each counted each time it is reached (what is shared counts as often as it is met; a slice's spare places count too). A statement '..UptoSaid' is the law's where the arguments, and the package variables that the reading takes, are together of bulk at most 1048576: NARROWER than '..Said'. Prove '..Said' where nothing that the law and all that it calls make is longer than what came in: it says more and counts as full. Else prove '..UptoSaid'. A law counts once. -/
mutual
def uptoBulk {H : Type} : DataW H → Nat
  | .lit (.string bytes) => bytes.length + 1
  | .lit _ => 1
  | .nil => 1
  | .ptr d => uptoBulk d + 1
  | .slice elems spare => uptoBulkAll elems + uptoBulkAll spare + 1
  | .agg parts => uptoBulkAll parts + 1
  | .iface _ d => uptoBulk d + 1
  | .map entries => uptoBulkEntries entries + 1
  | .held _ => 1
def uptoBulkAll {H : Type} : List (DataW H) → Nat
  | [] => 0
  | d :: r => uptoBulk d + uptoBulkAll r
def uptoBulkEntries {H : Type} : List (Lit × DataW H) → Nat
  | [] => 0
  | x :: r => uptoBulkEntry x + uptoBulkEntries r
def uptoBulkEntry {H : Type} : Lit × DataW H → Nat
  | (.string bytes, d) => bytes.length + uptoBulk d + 1
  | (_, d) => uptoBulk d + 1
 end
def uptoSmall : (H : Type) → List (DataW H) → Bool := fun _ ds => decide (uptoBulkAll ds ≤ 1048576)
def OpenSpec.upto (s : _root_.Go.ChangeSpec) : _root_.Go.OpenSpec := { _root_.Go.OpenSpec.ofChange s with cond := some uptoSmall }

/-- 'teasellaw13.MachineTells', WHERE WHAT IT READS IS OF BULK AT MOST 1048576: true; the input reads as it did. -/
def machineTellsUptoRow : OpenClaim := { program := "ytbiinfnekhhfkaagreat", sum := "9737b67289200a48a063426cf2aebd2341936e84d87f44cf8fb614de07ab3098", func := "teasel/teasellaw13.MachineTells", spec := "machineTells", inPlace := ["internal/bytealg.abigen_runtime_cmpstring"], unfollowed := true, recurses := true, plainKeys := false, apart := false, narrowed := true }
def MachineTellsUptoSaid : Prop := machineTellsUptoRow.holds Tryz.pinned (OpenSpec.upto machineTellsSpec)

/-- 'teasellaw13.MachineEnds', WHERE WHAT IT READS IS OF BULK AT MOST 1048576: true; the input reads as it did. -/
def machineEndsUptoRow : OpenClaim := { program := "ytbiinfnekhhfkaagreat", sum := "9737b67289200a48a063426cf2aebd2341936e84d87f44cf8fb614de07ab3098", func := "teasel/teasellaw13.MachineEnds", spec := "machineEnds", inPlace := ["internal/bytealg.abigen_runtime_cmpstring"], unfollowed := true, recurses := true, plainKeys := false, apart := false, narrowed := true }
def MachineEndsUptoSaid : Prop := machineEndsUptoRow.holds Tryz.pinned (OpenSpec.upto machineEndsSpec)

/-- 'teasellaw13.MachineGoes', WHERE WHAT IT READS IS OF BULK AT MOST 1048576: true; the input reads as it did. -/
def machineGoesUptoRow : OpenClaim := { program := "ytbiinfnekhhfkaagreat", sum := "9737b67289200a48a063426cf2aebd2341936e84d87f44cf8fb614de07ab3098", func := "teasel/teasellaw13.MachineGoes", spec := "machineGoes", inPlace := ["internal/bytealg.abigen_runtime_cmpstring"], unfollowed := true, recurses := true, plainKeys := false, apart := false, narrowed := true }
def MachineGoesUptoSaid : Prop := machineGoesUptoRow.holds Tryz.pinned (OpenSpec.upto machineGoesSpec)

/-- 'teasellaw13.MachineStays', WHERE WHAT IT READS IS OF BULK AT MOST 1048576: true; the input reads as it did. -/
def machineStaysUptoRow : OpenClaim := { program := "ytbiinfnekhhfkaagreat", sum := "9737b67289200a48a063426cf2aebd2341936e84d87f44cf8fb614de07ab3098", func := "teasel/teasellaw13.MachineStays", spec := "machineStays", inPlace := ["internal/bytealg.abigen_runtime_cmpstring"], unfollowed := true, recurses := true, plainKeys := false, apart := false, narrowed := true }
def MachineStaysUptoSaid : Prop := machineStaysUptoRow.holds Tryz.pinned (OpenSpec.upto machineStaysSpec)

/-- 'teasellaw20.ProbeTells', WHERE WHAT IT READS IS OF BULK AT MOST 1048576: true; the input reads as it did. -/
def probeTellsUptoRow : OpenClaim := { program := "ytbiinfnekhhfkaagreat", sum := "9737b67289200a48a063426cf2aebd2341936e84d87f44cf8fb614de07ab3098", func := "teasel/teasellaw20.ProbeTells", spec := "probeTells", inPlace := ["internal/bytealg.abigen_runtime_cmpstring"], unfollowed := true, recurses := true, plainKeys := false, apart := false, narrowed := true }
def ProbeTellsUptoSaid : Prop := probeTellsUptoRow.holds Tryz.pinned (OpenSpec.upto probeTellsSpec)

/-- 'teasellaw20.ProbeBlocks', WHERE WHAT IT READS IS OF BULK AT MOST 1048576: true; the input reads as it did. -/
def probeBlocksUptoRow : OpenClaim := { program := "ytbiinfnekhhfkaagreat", sum := "9737b67289200a48a063426cf2aebd2341936e84d87f44cf8fb614de07ab3098", func := "teasel/teasellaw20.ProbeBlocks", spec := "probeBlocks", inPlace := ["internal/bytealg.abigen_runtime_cmpstring"], unfollowed := true, recurses := true, plainKeys := false, apart := false, narrowed := true }
def ProbeBlocksUptoSaid : Prop := probeBlocksUptoRow.holds Tryz.pinned (OpenSpec.upto probeBlocksSpec)

/-- 'teasellaw20.ProbeSlices', WHERE WHAT IT READS IS OF BULK AT MOST 1048576: true; the input reads as it did. -/
def probeSlicesUptoRow : OpenClaim := { program := "ytbiinfnekhhfkaagreat", sum := "9737b67289200a48a063426cf2aebd2341936e84d87f44cf8fb614de07ab3098", func := "teasel/teasellaw20.ProbeSlices", spec := "probeSlices", inPlace := ["internal/bytealg.abigen_runtime_cmpstring"], unfollowed := true, recurses := true, plainKeys := false, apart := false, narrowed := true }
def ProbeSlicesUptoSaid : Prop := probeSlicesUptoRow.holds Tryz.pinned (OpenSpec.upto probeSlicesSpec)

/-- 'teasellaw20.ProbeOwn', WHERE WHAT IT READS IS OF BULK AT MOST 1048576: true; the input reads as it did. -/
def probeOwnUptoRow : OpenClaim := { program := "ytbiinfnekhhfkaagreat", sum := "9737b67289200a48a063426cf2aebd2341936e84d87f44cf8fb614de07ab3098", func := "teasel/teasellaw20.ProbeOwn", spec := "probeOwn", inPlace := ["internal/bytealg.abigen_runtime_cmpstring"], unfollowed := true, recurses := true, plainKeys := false, apart := false, narrowed := true }
def ProbeOwnUptoSaid : Prop := probeOwnUptoRow.holds Tryz.pinned (OpenSpec.upto probeOwnSpec)

/-- 'teasellaw14.StreamTells', WHERE WHAT IT READS IS OF BULK AT MOST 1048576: true; the input reads as it did. -/
def streamTellsUptoRow : OpenClaim := { program := "ytbiinfnekhhfkaagreat", sum := "9737b67289200a48a063426cf2aebd2341936e84d87f44cf8fb614de07ab3098", func := "teasel/teasellaw14.StreamTells", spec := "streamTells", inPlace := ["internal/bytealg.abigen_runtime_cmpstring"], unfollowed := true, recurses := true, plainKeys := false, apart := false, narrowed := true }
def StreamTellsUptoSaid : Prop := streamTellsUptoRow.holds Tryz.pinned (OpenSpec.upto streamTellsSpec)

/-- 'teasellaw14.StreamOcc', WHERE WHAT IT READS IS OF BULK AT MOST 1048576: true; the input reads as it did. -/
def streamOccUptoRow : OpenClaim := { program := "ytbiinfnekhhfkaagreat", sum := "9737b67289200a48a063426cf2aebd2341936e84d87f44cf8fb614de07ab3098", func := "teasel/teasellaw14.StreamOcc", spec := "streamOcc", inPlace := ["internal/bytealg.abigen_runtime_cmpstring"], unfollowed := true, recurses := true, plainKeys := false, apart := false, narrowed := true }
def StreamOccUptoSaid : Prop := streamOccUptoRow.holds Tryz.pinned (OpenSpec.upto streamOccSpec)

/-- 'teasellaw14.StreamParts', WHERE WHAT IT READS IS OF BULK AT MOST 1048576: true; the input reads as it did. -/
def streamPartsUptoRow : OpenClaim := { program := "ytbiinfnekhhfkaagreat", sum := "9737b67289200a48a063426cf2aebd2341936e84d87f44cf8fb614de07ab3098", func := "teasel/teasellaw14.StreamParts", spec := "streamParts", inPlace := ["internal/bytealg.abigen_runtime_cmpstring"], unfollowed := true, recurses := true, plainKeys := false, apart := false, narrowed := true }
def StreamPartsUptoSaid : Prop := streamPartsUptoRow.holds Tryz.pinned (OpenSpec.upto streamPartsSpec)

/-- 'teasellaw14.StreamWarm', WHERE WHAT IT READS IS OF BULK AT MOST 1048576: true; the input reads as it did. -/
def streamWarmUptoRow : OpenClaim := { program := "ytbiinfnekhhfkaagreat", sum := "9737b67289200a48a063426cf2aebd2341936e84d87f44cf8fb614de07ab3098", func := "teasel/teasellaw14.StreamWarm", spec := "streamWarm", inPlace := ["internal/bytealg.abigen_runtime_cmpstring"], unfollowed := true, recurses := true, plainKeys := false, apart := false, narrowed := true }
def StreamWarmUptoSaid : Prop := streamWarmUptoRow.holds Tryz.pinned (OpenSpec.upto streamWarmSpec)

end Rows
end Go.Proofs.YtbiinfnekhhfkaaGreat
