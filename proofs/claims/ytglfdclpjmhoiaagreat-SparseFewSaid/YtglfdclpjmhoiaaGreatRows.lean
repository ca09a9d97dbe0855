/-
  No cell of these rows narrows 'for every input' (looked for: loops, veiled, ifaces, maps, wideKeys, modest, calm, conditions, laid).
  DERIVED. THE GIVEN ROWS OF THIS SEAT. 4 by the template 'for every input the law returns true; each argument reads behind the call as it read before'; 0 by the template 'total and deterministic' (their statements: YtglfdclpjmhoiaaGreatTotals.lean).
  GIVEN WITH THE SEED: the statements are not yours to turn. If you find one false, say at which input.
  Laid BY PROGRAM, IN A SANDBOX (cutbox-rows.mjs): the forced cells as the released guide's own fill.sh prints them over the translation 84a43d632c02bb29… (all of the seat's roots in one cut). By AI agents, Wed Nov 11 2026. No macro, syntax, notation, axiom, sorry.
-/
import Derived.Test.YtglfdclpjmhoiaaGreatChecked
import GoSem.Claim
import GoSem.ClaimJoined
import GoSem.ClaimMapViews
import Derived.JoinedTies
import Derived.KernelRfl
namespace Go.Proofs.YtglfdclpjmhoiaaGreat
/- THE CELL 'sum', in the pinned program and in every row, IS THE sha256 OF THE DUMP (.gsa) THAT YtglfdclpjmhoiaaGreatProg.lean LOADS. Nothing in Lean hashes anything: it is a label: what it is worth is what the hold of that sum in a sandbox is worth. -/
noncomputable def Tryz.pinned : Pinned := { name := "ytglfdclpjmhoiaagreat", sum := "84a43d632c02bb293d765f3b61060667effd1ab57523bbe09d18b384fe9dcd98", checked := Tryz.checked }
namespace Rows
def none {H : Type} : Left H := { results := [], args := [] }

/-- 'teasellaw12.SparseTells': WHATEVER THE INPUT: true; the input reads as it did. -/
def sparseTellsSpec : ChangeSpec := { name := "sparseTells", fn := fun _ => fun
  | [d1, d2, d3, d4, d5] => { results := [.lit (.bool true)], args := [d1, d2, d3, d4, d5] }
  | _ => none }
def sparseTellsRow : OpenClaim := { program := "ytglfdclpjmhoiaagreat", sum := "84a43d632c02bb293d765f3b61060667effd1ab57523bbe09d18b384fe9dcd98", func := "teasel/teasellaw12.SparseTells", spec := "sparseTells", inPlace := ["internal/bytealg.abigen_runtime_cmpstring"], unfollowed := true, recurses := true, plainKeys := false, apart := false }
def SparseTellsSaid : Prop := sparseTellsRow.holds Tryz.pinned (OpenSpec.ofChange sparseTellsSpec)

/-- ITS FALSE NEIGHBOUR: 'it returns false'. Refute it at one input. -/
def sparseTellsWrong : ChangeSpec := { name := "sparseTells", fn := fun _ => fun
  | [d1, d2, d3, d4, d5] => { results := [.lit (.bool false)], args := [d1, d2, d3, d4, d5] }
  | _ => none }
def SparseTellsWrongFalsely : Prop := sparseTellsRow.holds Tryz.pinned (OpenSpec.ofChange sparseTellsWrong)

/-- 'teasellaw12.SparseFirst': WHATEVER THE INPUT: true; the input reads as it did. -/
def sparseFirstSpec : ChangeSpec := { name := "sparseFirst", fn := fun _ => fun
  | [d] => { results := [.lit (.bool true)], args := [d] }
  | _ => none }
def sparseFirstRow : OpenClaim := { program := "ytglfdclpjmhoiaagreat", sum := "84a43d632c02bb293d765f3b61060667effd1ab57523bbe09d18b384fe9dcd98", func := "teasel/teasellaw12.SparseFirst", spec := "sparseFirst", inPlace := ["internal/bytealg.abigen_runtime_cmpstring"], unfollowed := true, recurses := true, plainKeys := false, apart := false }
def SparseFirstSaid : Prop := sparseFirstRow.holds Tryz.pinned (OpenSpec.ofChange sparseFirstSpec)

/-- ITS FALSE NEIGHBOUR: 'it returns false'. Refute it at one input. -/
def sparseFirstWrong : ChangeSpec := { name := "sparseFirst", fn := fun _ => fun
  | [d] => { results := [.lit (.bool false)], args := [d] }
  | _ => none }
def SparseFirstWrongFalsely : Prop := sparseFirstRow.holds Tryz.pinned (OpenSpec.ofChange sparseFirstWrong)

/-- 'teasellaw12.SparseNext': WHATEVER THE INPUT: true; the input reads as it did. -/
def sparseNextSpec : ChangeSpec := { name := "sparseNext", fn := fun _ => fun
  | [d1, d2, d3] => { results := [.lit (.bool true)], args := [d1, d2, d3] }
  | _ => none }
def sparseNextRow : OpenClaim := { program := "ytglfdclpjmhoiaagreat", sum := "84a43d632c02bb293d765f3b61060667effd1ab57523bbe09d18b384fe9dcd98", func := "teasel/teasellaw12.SparseNext", spec := "sparseNext", inPlace := ["internal/bytealg.abigen_runtime_cmpstring"], unfollowed := true, recurses := true, plainKeys := false, apart := false }
def SparseNextSaid : Prop := sparseNextRow.holds Tryz.pinned (OpenSpec.ofChange sparseNextSpec)

/-- ITS FALSE NEIGHBOUR: 'it returns false'. Refute it at one input. -/
def sparseNextWrong : ChangeSpec := { name := "sparseNext", fn := fun _ => fun
  | [d1, d2, d3] => { results := [.lit (.bool false)], args := [d1, d2, d3] }
  | _ => none }
def SparseNextWrongFalsely : Prop := sparseNextRow.holds Tryz.pinned (OpenSpec.ofChange sparseNextWrong)

/-- 'teasellaw12.SparseFew': WHATEVER THE INPUT: true; the input reads as it did. -/
def sparseFewSpec : ChangeSpec := { name := "sparseFew", fn := fun _ => fun
  | [d1, d2, d3] => { results := [.lit (.bool true)], args := [d1, d2, d3] }
  | _ => none }
def sparseFewRow : OpenClaim := { program := "ytglfdclpjmhoiaagreat", sum := "84a43d632c02bb293d765f3b61060667effd1ab57523bbe09d18b384fe9dcd98", func := "teasel/teasellaw12.SparseFew", spec := "sparseFew", inPlace := ["internal/bytealg.abigen_runtime_cmpstring"], unfollowed := true, recurses := true, plainKeys := false, apart := false }
def SparseFewSaid : Prop := sparseFewRow.holds Tryz.pinned (OpenSpec.ofChange sparseFewSpec)

/-- ITS FALSE NEIGHBOUR: 'it returns false'. Refute it at one input. -/
def sparseFewWrong : ChangeSpec := { name := "sparseFew", fn := fun _ => fun
  | [d1, d2, d3] => { results := [.lit (.bool false)], args := [d1, d2, d3] }
  | _ => none }
def SparseFewWrongFalsely : Prop := sparseFewRow.holds Tryz.pinned (OpenSpec.ofChange sparseFewWrong)

/- THE SECOND FORM. 'bulk': how many values and letters a reading holds, each counted each time it is reached (what is shared counts as often as it is met; a slice's spare places count too). A statement '..UptoSaid' is the law's where the arguments, and the package variables that the reading takes, are together of bulk at most 1048576: NARROWER than '..Said'. Prove '..Said' where nothing that the law and all that it calls make is longer than what came in: it says more and counts as full. Else prove '..UptoSaid'. A law counts once. -/
mutual
def uptoBulk {H : Type} : DataW H → Nat
  | .lit (.string bytes) => bytes.length + 1
  | .lit _ => 1
  | .nil => 1
  | .ptr d => uptoBulk d + 1
  | .slice elems spare => uptoBulkAll elems + uptoBulkAll spare + 1
  | .agg parts => uptoBulkAll parts + 1
  | .iface _ d => uptoBulk d + 1
  | .map entries => uptoBulkEntries entries + 1
  | .held _ => 1
def uptoBulkAll {H : Type} : List (DataW H) → Nat
  | [] => 0
  | d :: r => uptoBulk d + uptoBulkAll r
def uptoBulkEntries {H : Type} : List (Lit × DataW H) → Nat
  | [] => 0
  | x :: r => uptoBulkEntry x + uptoBulkEntries r
def uptoBulkEntry {H : Type} : Lit × DataW H → Nat
  | (.string bytes, d) => bytes.length + uptoBulk d + 1
  | (_, d) => uptoBulk d + 1
 end
def uptoSmall : (H : Type) → List (DataW H) → Bool := fun _ ds => decide (uptoBulkAll ds ≤ 1048576)
def OpenSpec.upto (s : _root_.Go.ChangeSpec) : _root_.Go.OpenSpec := { _root_.Go.OpenSpec.ofChange s with cond := some uptoSmall }

/-- 'teasellaw12.SparseTells', WHERE WHAT IT READS IS OF BULK AT MOST 1048576: true; the input reads as it did. -/
def sparseTellsUptoRow : OpenClaim := { program := "ytglfdclpjmhoiaagreat", sum := "84a43d632c02bb293d765f3b61060667effd1ab57523bbe09d18b384fe9dcd98", func := "teasel/teasellaw12.SparseTells", spec := "sparseTells", inPlace := ["internal/bytealg.abigen_runtime_cmpstring"], unfollowed := true, recurses := true, plainKeys := false, apart := false, narrowed := true }
def SparseTellsUptoSaid : Prop := sparseTellsUptoRow.holds Tryz.pinned (OpenSpec.upto sparseTellsSpec)

/-- 'teasellaw12.SparseFirst', WHERE WHAT IT READS IS OF BULK AT MOST 1048576: true; the input reads as it did. -/
def sparseFirstUptoRow : OpenClaim := { program := "ytglfdclpjmhoiaagreat", sum := "84a43d632c02bb293d765f3b61060667effd1ab57523bbe09d18b384fe9dcd98", func := "teasel/teasellaw12.SparseFirst", spec := "sparseFirst", inPlace := ["internal/bytealg.abigen_runtime_cmpstring"], unfollowed := true, recurses := true, plainKeys := false, apart := false, narrowed := true }
def SparseFirstUptoSaid : Prop := sparseFirstUptoRow.holds Tryz.pinned (OpenSpec.upto sparseFirstSpec)

/-- 'teasellaw12.SparseNext', WHERE WHAT IT READS IS OF BULK AT MOST 1048576: true; the input reads as it did. -/
def sparseNextUptoRow : OpenClaim := { program := "ytglfdclpjmhoiaagreat", sum := "84a43d632c02bb293d765f3b61060667effd1ab57523bbe09d18b384fe9dcd98", func := "teasel/teasellaw12.SparseNext", spec := "sparseNext", inPlace := ["internal/bytealg.abigen_runtime_cmpstring"], unfollowed := true, recurses := true, plainKeys := false, apart := false, narrowed := true }
def SparseNextUptoSaid : Prop := sparseNextUptoRow.holds Tryz.pinned (OpenSpec.upto sparseNextSpec)

/-- 'teasellaw12.SparseFew', WHERE WHAT IT READS IS OF BULK AT MOST 1048576: true; the input reads as it did. -/
def sparseFewUptoRow : OpenClaim := { program := "ytglfdclpjmhoiaagreat", sum := "84a43d632c02bb293d765f3b61060667effd1ab57523bbe09d18b384fe9dcd98", func := "teasel/teasellaw12.SparseFew", spec := "sparseFew", inPlace := ["internal/bytealg.abigen_runtime_cmpstring"], unfollowed := true, recurses := true, plainKeys := false, apart := false, narrowed := true }
def SparseFewUptoSaid : Prop := sparseFewUptoRow.holds Tryz.pinned (OpenSpec.upto sparseFewSpec)

end Rows
end Go.Proofs.YtglfdclpjmhoiaaGreat
