/-
  No cell of these rows narrows 'for every input' (looked for: loops, veiled, ifaces, maps, wideKeys, modest, calm, conditions, laid).
  DERIVED. THE GIVEN ROWS OF THIS SEAT. 8 by the template 'for every input the law returns true; each argument reads behind the call as it read before'; 0 by the template 'total and deterministic' (their statements: YtbldfgaogmfoaaaGreatTotals.lean).
  GIVEN WITH THE SEED: the statements are not yours to turn. If you find one false, say at which input.
  Laid BY PROGRAM, IN A SANDBOX (cutbox-rows.mjs): the forced cells as the released guide's own fill.sh prints them over the translation 274c558db637d926… (all of the seat's roots in one cut). By AI agents, Wed Nov 11 2026. No macro, syntax, notation, axiom, sorry.
-/
import Derived.Test.YtbldfgaogmfoaaaGreatChecked
import GoSem.Claim
import GoSem.ClaimJoined
import GoSem.ClaimMapViews
import Derived.JoinedTies
import Derived.KernelRfl
namespace Go.Proofs.YtbldfgaogmfoaaaGreat
/- THE CELL 'sum', in the pinned program and in every row, IS THE sha256 OF THE DUMP (.gsa) THAT YtbldfgaogmfoaaaGreatProg.lean LOADS. Nothing in Lean hashes anything: it is a label: what it is worth is what the hold of that sum in a sandbox is worth. -/
noncomputable def Tryz.pinned : Pinned := { name := "ytbldfgaogmfoaaagreat", sum := "274c558db637d926ac1cae63c025f0b28d83b3e0f58af17cae797cd1db9b5834", checked := Tryz.checked }
namespace Rows
def none {H : Type} : Left H := { results := [], args := [] }

/-- 'teasellaw12.SparseTells': WHATEVER THE INPUT: true; the input reads as it did. -/
def sparseTellsSpec : ChangeSpec := { name := "sparseTells", fn := fun _ => fun
  | [d1, d2, d3, d4, d5] => { results := [.lit (.bool true)], args := [d1, d2, d3, d4, d5] }
  | _ => none }
def sparseTellsRow : OpenClaim := { program := "ytbldfgaogmfoaaagreat", sum := "274c558db637d926ac1cae63c025f0b28d83b3e0f58af17cae797cd1db9b5834", func := "teasel/teasellaw12.SparseTells", spec := "sparseTells", inPlace := ["internal/bytealg.abigen_runtime_cmpstring"], unfollowed := true, recurses := true, plainKeys := false, apart := false }
def SparseTellsSaid : Prop := sparseTellsRow.holds Tryz.pinned (OpenSpec.ofChange sparseTellsSpec)

/-- ITS FALSE NEIGHBOUR: 'it returns false'. Refute it at one input. -/
def sparseTellsWrong : ChangeSpec := { name := "sparseTells", fn := fun _ => fun
  | [d1, d2, d3, d4, d5] => { results := [.lit (.bool false)], args := [d1, d2, d3, d4, d5] }
  | _ => none }
def SparseTellsWrongFalsely : Prop := sparseTellsRow.holds Tryz.pinned (OpenSpec.ofChange sparseTellsWrong)

/-- 'teasellaw12.SparseFirst': WHATEVER THE INPUT: true; the input reads as it did. -/
def sparseFirstSpec : ChangeSpec := { name := "sparseFirst", fn := fun _ => fun
  | [d] => { results := [.lit (.bool true)], args := [d] }
  | _ => none }
def sparseFirstRow : OpenClaim := { program := "ytbldfgaogmfoaaagreat", sum := "274c558db637d926ac1cae63c025f0b28d83b3e0f58af17cae797cd1db9b5834", func := "teasel/teasellaw12.SparseFirst", spec := "sparseFirst", inPlace := ["internal/bytealg.abigen_runtime_cmpstring"], unfollowed := true, recurses := true, plainKeys := false, apart := false }
def SparseFirstSaid : Prop := sparseFirstRow.holds Tryz.pinned (OpenSpec.ofChange sparseFirstSpec)

/-- ITS FALSE NEIGHBOUR: 'it returns false'. Refute it at one input. -/
def sparseFirstWrong : ChangeSpec := { name := "sparseFirst", fn := fun _ => fun
  | [d] => { results := [.lit (.bool false)], args := [d] }
  | _ => none }
def SparseFirstWrongFalsely : Prop := sparseFirstRow.holds Tryz.pinned (OpenSpec.ofChange sparseFirstWrong)

/-- 'teasellaw12.SparseNext': WHATEVER THE INPUT: true; the input reads as it did. -/
def sparseNextSpec : ChangeSpec := { name := "sparseNext", fn := fun _ => fun
  | [d1, d2, d3] => { results := [.lit (.bool true)], args := [d1, d2, d3] }
  | _ => none }
def sparseNextRow : OpenClaim := { program := "ytbldfgaogmfoaaagreat", sum := "274c558db637d926ac1cae63c025f0b28d83b3e0f58af17cae797cd1db9b5834", func := "teasel/teasellaw12.SparseNext", spec := "sparseNext", inPlace := ["internal/bytealg.abigen_runtime_cmpstring"], unfollowed := true, recurses := true, plainKeys := false, apart := false }
def SparseNextSaid : Prop := sparseNextRow.holds Tryz.pinned (OpenSpec.ofChange sparseNextSpec)

/-- ITS FALSE NEIGHBOUR: 'it returns false'. Refute it at one input. -/
def sparseNextWrong : ChangeSpec := { name := "sparseNext", fn := fun _ => fun
  | [d1, d2, d3] => { results := [.lit (.bool false)], args := [d1, d2, d3] }
  | _ => none }
def SparseNextWrongFalsely : Prop := sparseNextRow.holds Tryz.pinned (OpenSpec.ofChange sparseNextWrong)

/-- 'teasellaw12.SparseFew': WHATEVER THE INPUT: true; the input reads as it did. -/
def sparseFewSpec : ChangeSpec := { name := "sparseFew", fn := fun _ => fun
  | [d1, d2, d3] => { results := [.lit (.bool true)], args := [d1, d2, d3] }
  | _ => none }
def sparseFewRow : OpenClaim := { program := "ytbldfgaogmfoaaagreat", sum := "274c558db637d926ac1cae63c025f0b28d83b3e0f58af17cae797cd1db9b5834", func := "teasel/teasellaw12.SparseFew", spec := "sparseFew", inPlace := ["internal/bytealg.abigen_runtime_cmpstring"], unfollowed := true, recurses := true, plainKeys := false, apart := false }
def SparseFewSaid : Prop := sparseFewRow.holds Tryz.pinned (OpenSpec.ofChange sparseFewSpec)

/-- ITS FALSE NEIGHBOUR: 'it returns false'. Refute it at one input. -/
def sparseFewWrong : ChangeSpec := { name := "sparseFew", fn := fun _ => fun
  | [d1, d2, d3] => { results := [.lit (.bool false)], args := [d1, d2, d3] }
  | _ => none }
def SparseFewWrongFalsely : Prop := sparseFewRow.holds Tryz.pinned (OpenSpec.ofChange sparseFewWrong)

/-- 'teasellaw20.ProbeTells': WHATEVER THE INPUT: true; the input reads as it did. -/
def probeTellsSpec : ChangeSpec := { name := "probeTells", fn := fun _ => fun
  | [d1, d2, d3, d4, d5] => { results := [.lit (.bool true)], args := [d1, d2, d3, d4, d5] }
  | _ => none }
def probeTellsRow : OpenClaim := { program := "ytbldfgaogmfoaaagreat", sum := "274c558db637d926ac1cae63c025f0b28d83b3e0f58af17cae797cd1db9b5834", func := "teasel/teasellaw20.ProbeTells", spec := "probeTells", inPlace := ["internal/bytealg.abigen_runtime_cmpstring"], unfollowed := true, recurses := true, plainKeys := false, apart := false }
def ProbeTellsSaid : Prop := probeTellsRow.holds Tryz.pinned (OpenSpec.ofChange probeTellsSpec)

/-- ITS FALSE NEIGHBOUR: 'it returns false'. Refute it at one input. -/
def probeTellsWrong : ChangeSpec := { name := "probeTells", fn := fun _ => fun
  | [d1, d2, d3, d4, d5] => { results := [.lit (.bool false)], args := [d1, d2, d3, d4, d5] }
  | _ => none }
def ProbeTellsWrongFalsely : Prop := probeTellsRow.holds Tryz.pinned (OpenSpec.ofChange probeTellsWrong)

/-- 'teasellaw20.ProbeBlocks': WHATEVER THE INPUT: true; the input reads as it did. -/
def probeBlocksSpec : ChangeSpec := { name := "probeBlocks", fn := fun _ => fun
  | [d1, d2, d3, d4] => { results := [.lit (.bool true)], args := [d1, d2, d3, d4] }
  | _ => none }
def probeBlocksRow : OpenClaim := { program := "ytbldfgaogmfoaaagreat", sum := "274c558db637d926ac1cae63c025f0b28d83b3e0f58af17cae797cd1db9b5834", func := "teasel/teasellaw20.ProbeBlocks", spec := "probeBlocks", inPlace := ["internal/bytealg.abigen_runtime_cmpstring"], unfollowed := true, recurses := true, plainKeys := false, apart := false }
def ProbeBlocksSaid : Prop := probeBlocksRow.holds Tryz.pinned (OpenSpec.ofChange probeBlocksSpec)

/-- ITS FALSE NEIGHBOUR: 'it returns false'. Refute it at one input. -/
def probeBlocksWrong : ChangeSpec := { name := "probeBlocks", fn := fun _ => fun
  | [d1, d2, d3, d4] => { results := [.lit (.bool false)], args := [d1, d2, d3, d4] }
  | _ => none }
def ProbeBlocksWrongFalsely : Prop := probeBlocksRow.holds Tryz.pinned (OpenSpec.ofChange probeBlocksWrong)

/-- 'teasellaw20.ProbeSlices': WHATEVER THE INPUT: true; the input reads as it did. -/
def probeSlicesSpec : ChangeSpec := { name := "probeSlices", fn := fun _ => fun
  | [d1, d2, d3] => { results := [.lit (.bool true)], args := [d1, d2, d3] }
  | _ => none }
def probeSlicesRow : OpenClaim := { program := "ytbldfgaogmfoaaagreat", sum := "274c558db637d926ac1cae63c025f0b28d83b3e0f58af17cae797cd1db9b5834", func := "teasel/teasellaw20.ProbeSlices", spec := "probeSlices", inPlace := ["internal/bytealg.abigen_runtime_cmpstring"], unfollowed := true, recurses := true, plainKeys := false, apart := false }
def ProbeSlicesSaid : Prop := probeSlicesRow.holds Tryz.pinned (OpenSpec.ofChange probeSlicesSpec)

/-- ITS FALSE NEIGHBOUR: 'it returns false'. Refute it at one input. -/
def probeSlicesWrong : ChangeSpec := { name := "probeSlices", fn := fun _ => fun
  | [d1, d2, d3] => { results := [.lit (.bool false)], args := [d1, d2, d3] }
  | _ => none }
def ProbeSlicesWrongFalsely : Prop := probeSlicesRow.holds Tryz.pinned (OpenSpec.ofChange probeSlicesWrong)

/-- 'teasellaw20.ProbeOwn': WHATEVER THE INPUT: true; the input reads as it did. -/
def probeOwnSpec : ChangeSpec := { name := "probeOwn", fn := fun _ => fun
  | [d1, d2, d3] => { results := [.lit (.bool true)], args := [d1, d2, d3] }
  | _ => none }
def probeOwnRow : OpenClaim := { program := "ytbldfgaogmfoaaagreat", sum := "274c558db637d926ac1cae63c025f0b28d83b3e0f58af17cae797cd1db9b5834", func := "teasel/teasellaw20.ProbeOwn", spec := "probeOwn", inPlace := ["internal/bytealg.abigen_runtime_cmpstring"], unfollowed := true, recurses := true, plainKeys := false, apart := false }
def ProbeOwnSaid : Prop := probeOwnRow.holds Tryz.pinned (OpenSpec.ofChange probeOwnSpec)

/-- ITS FALSE NEIGHBOUR: 'it returns false'. Refute it at one input. -/
def probeOwnWrong : ChangeSpec := { name := "probeOwn", fn := fun _ => fun
  | [d1, d2, d3] => { results := [.lit (.bool false)], args := [d1, d2, d3] }
  | _ => none }
def ProbeOwnWrongFalsely : Prop := probeOwnRow.holds Tryz.pinned (OpenSpec.ofChange probeOwnWrong)

/- THE SECOND FORM. 'bulk': how many values and letters a reading holds, each counted each time it is reached (what is shared counts as often as it is met; a slice's spare places count too). A statement '..UptoSaid' is the law's where the arguments, and the package variables that the reading takes, are together of bulk at most 1048576: NARROWER than '..Said'. Prove '..Said' where nothing that the law and all that it calls make is longer than what came in: it says more and counts as full. Else prove '..UptoSaid'. A law counts once. -/
mutual
def uptoBulk {H : Type} : DataW H → Nat
  | .lit (.string bytes) => bytes.length + 1
  | .lit _ => 1
  | .nil => 1
  | .ptr d => uptoBulk d + 1
  | .slice elems spare => uptoBulkAll elems + uptoBulkAll spare + 1
  | .agg parts => uptoBulkAll parts + 1
  | .iface _ d => uptoBulk d + 1
  | .map entries => uptoBulkEntries entries + 1
  | .held _ => 1
def uptoBulkAll {H : Type} : List (DataW H) → Nat
  | [] => 0
  | d :: r => uptoBulk d + uptoBulkAll r
def uptoBulkEntries {H : Type} : List (Lit × DataW H) → Nat
  | [] => 0
  | x :: r => uptoBulkEntry x + uptoBulkEntries r
def uptoBulkEntry {H : Type} : Lit × DataW H → Nat
  | (.string bytes, d) => bytes.length + uptoBulk d + 1
  | (_, d) => uptoBulk d + 1
 end
def uptoSmall : (H : Type) → List (DataW H) → Bool := fun _ ds => decide (uptoBulkAll ds ≤ 1048576)
def OpenSpec.upto (s : _root_.Go.ChangeSpec) : _root_.Go.OpenSpec := { _root_.Go.OpenSpec.ofChange s with cond := some uptoSmall }

/-- 'teasellaw12.SparseTells', WHERE WHAT IT READS IS OF BULK AT MOST 1048576: true; the input reads as it did. -/
def sparseTellsUptoRow : OpenClaim := { program := "ytbldfgaogmfoaaagreat", sum := "274c558db637d926ac1cae63c025f0b28d83b3e0f58af17cae797cd1db9b5834", func := "teasel/teasellaw12.SparseTells", spec := "sparseTells", inPlace := ["internal/bytealg.abigen_runtime_cmpstring"], unfollowed := true, recurses := true, plainKeys := false, apart := false, narrowed := true }
def SparseTellsUptoSaid : Prop := sparseTellsUptoRow.holds Tryz.pinned (OpenSpec.upto sparseTellsSpec)

/-- 'teasellaw12.SparseFirst', WHERE WHAT IT READS IS OF BULK AT MOST 1048576: true; the input reads as it did. -/
def sparseFirstUptoRow : OpenClaim := { program := "ytbldfgaogmfoaaagreat", sum := "274c558db637d926ac1cae63c025f0b28d83b3e0f58af17cae797cd1db9b5834", func := "teasel/teasellaw12.SparseFirst", spec := "sparseFirst", inPlace := ["internal/bytealg.abigen_runtime_cmpstring"], unfollowed := true, recurses := true, plainKeys := false, apart := false, narrowed := true }
def SparseFirstUptoSaid : Prop := sparseFirstUptoRow.holds Tryz.pinned (OpenSpec.upto sparseFirstSpec)

/-- 'teasellaw12.SparseNext', WHERE WHAT IT READS IS OF BULK AT MOST 1048576: true; the input reads as it did. -/
def sparseNextUptoRow : OpenClaim := { program := "ytbldfgaogmfoaaagreat", sum := "274c558db637d926ac1cae63c025f0b28d83b3e0f58af17cae797cd1db9b5834", func := "teasel/teasellaw12.SparseNext", spec := "sparseNext", inPlace := ["internal/bytealg.abigen_runtime_cmpstring"], unfollowed := true, recurses := true, plainKeys := false, apart := false, narrowed := true }
def SparseNextUptoSaid : Prop := sparseNextUptoRow.holds Tryz.pinned (OpenSpec.upto sparseNextSpec)

/-- 'teasellaw12.SparseFew', WHERE WHAT IT READS IS OF BULK AT MOST 1048576: true; the input reads as it did. -/
def sparseFewUptoRow : OpenClaim := { program := "ytbldfgaogmfoaaagreat", sum := "274c558db637d926ac1cae63c025f0b28d83b3e0f58af17cae797cd1db9b5834", func := "teasel/teasellaw12.SparseFew", spec := "sparseFew", inPlace := ["internal/bytealg.abigen_runtime_cmpstring"], unfollowed := true, recurses := true, plainKeys := false, apart := false, narrowed := true }
def SparseFewUptoSaid : Prop := sparseFewUptoRow.holds Tryz.pinned (OpenSpec.upto sparseFewSpec)

/-- 'teasellaw20.ProbeTells', WHERE WHAT IT READS IS OF BULK AT MOST 1048576: true; the input reads as it did. -/
def probeTellsUptoRow : OpenClaim := { program := "ytbldfgaogmfoaaagreat", sum := "274c558db637d926ac1cae63c025f0b28d83b3e0f58af17cae797cd1db9b5834", func := "teasel/teasellaw20.ProbeTells", spec := "probeTells", inPlace := ["internal/bytealg.abigen_runtime_cmpstring"], unfollowed := true, recurses := true, plainKeys := false, apart := false, narrowed := true }
def ProbeTellsUptoSaid : Prop := probeTellsUptoRow.holds Tryz.pinned (OpenSpec.upto probeTellsSpec)

/-- 'teasellaw20.ProbeBlocks', WHERE WHAT IT READS IS OF BULK AT MOST 1048576: true; the input reads as it did. -/
def probeBlocksUptoRow : OpenClaim := { program := "ytbldfgaogmfoaaagreat", sum := "274c558db637d926ac1cae63c025f0b28d83b3e0f58af17cae797cd1db9b5834", func := "teasel/teasellaw20.ProbeBlocks", spec := "probeBlocks", inPlace := ["internal/bytealg.abigen_runtime_cmpstring"], unfollowed := true, recurses := true, plainKeys := false, apart := false, narrowed := true }
def ProbeBlocksUptoSaid : Prop := probeBlocksUptoRow.holds Tryz.pinned (OpenSpec.upto probeBlocksSpec)

/-- 'teasellaw20.ProbeSlices', WHERE WHAT IT READS IS OF BULK AT MOST 1048576: true; the input reads as it did. -/
def probeSlicesUptoRow : OpenClaim := { program := "ytbldfgaogmfoaaagreat", sum := "274c558db637d926ac1cae63c025f0b28d83b3e0f58af17cae797cd1db9b5834", func := "teasel/teasellaw20.ProbeSlices", spec := "probeSlices", inPlace := ["internal/bytealg.abigen_runtime_cmpstring"], unfollowed := true, recurses := true, plainKeys := false, apart := false, narrowed := true }
def ProbeSlicesUptoSaid : Prop := probeSlicesUptoRow.holds Tryz.pinned (OpenSpec.upto probeSlicesSpec)

/-- 'teasellaw20.ProbeOwn', WHERE WHAT IT READS IS OF BULK AT MOST 1048576: true; the input reads as it did. -/
def probeOwnUptoRow : OpenClaim := { program := "ytbldfgaogmfoaaagreat", sum := "274c558db637d926ac1cae63c025f0b28d83b3e0f58af17cae797cd1db9b5834", func := "teasel/teasellaw20.ProbeOwn", spec := "probeOwn", inPlace := ["internal/bytealg.abigen_runtime_cmpstring"], unfollowed := true, recurses := true, plainKeys := false, apart := false, narrowed := true }
def ProbeOwnUptoSaid : Prop := probeOwnUptoRow.holds Tryz.pinned (OpenSpec.upto probeOwnSpec)

end Rows
end Go.Proofs.YtbldfgaogmfoaaaGreat
