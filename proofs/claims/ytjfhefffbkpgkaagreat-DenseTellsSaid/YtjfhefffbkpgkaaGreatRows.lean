/-
  No cell of these rows narrows 'for every input' (looked for: loops, veiled, ifaces, maps, wideKeys, modest, calm, conditions, laid).
  DERIVED. THE GIVEN ROWS OF THIS SEAT. 4 by the template 'for every input the law returns true; each argument reads behind the call as it read before'; 0 by the template 'total and deterministic' (their statements: YtjfhefffbkpgkaaGreatTotals.lean).
  GIVEN WITH THE SEED: the statements are not yours to turn. If you find one false, say at which input.
  Laid BY PROGRAM, IN A SANDBOX (cutbox-rows.mjs): the forced cells as the released guide's own fill.sh prints them over the translation c9d0d761bb27c2aa… (all of the seat's roots in one cut). By AI agents, Wed Nov 11 2026. No macro, syntax, notation, axiom, sorry.
-/
import Derived.Test.YtjfhefffbkpgkaaGreatChecked
import GoSem.Claim
import GoSem.ClaimJoined
import GoSem.ClaimMapViews
import Derived.JoinedTies
import Derived.KernelRfl
namespace Go.Proofs.YtjfhefffbkpgkaaGreat
/- THE CELL 'sum', in the pinned program and in every row, IS THE sha256 OF THE DUMP (.gsa) THAT YtjfhefffbkpgkaaGreatProg.lean LOADS. Nothing in Lean hashes anything: it is a label: what it is worth is what the hold of that sum in a sandbox is worth. -/
noncomputable def Tryz.pinned : Pinned := { name := "ytjfhefffbkpgkaagreat", sum := "c9d0d761bb27c2aaf14e63c07a9a432ab46a1e0e4f2a7d004b91f16b3df37e7a", checked := Tryz.checked }
namespace Rows
def none {H : Type} : Left H := { results := [], args := [] }

/-- 'teasellaw11.DenseTells': WHATEVER THE INPUT: true; the input reads as it did. -/
def denseTellsSpec : ChangeSpec := { name := "denseTells", fn := fun _ => fun
  | [d1, d2, d3, d4, d5, d6] => { results := [.lit (.bool true)], args := [d1, d2, d3, d4, d5, d6] }
  | _ => none }
def denseTellsRow : OpenClaim := { program := "ytjfhefffbkpgkaagreat", sum := "c9d0d761bb27c2aaf14e63c07a9a432ab46a1e0e4f2a7d004b91f16b3df37e7a", func := "teasel/teasellaw11.DenseTells", spec := "denseTells", inPlace := ["internal/bytealg.abigen_runtime_cmpstring"], unfollowed := true, recurses := true, plainKeys := false, apart := false }
def DenseTellsSaid : Prop := denseTellsRow.holds Tryz.pinned (OpenSpec.ofChange denseTellsSpec)

/-- ITS FALSE NEIGHBOUR: 'it returns false'. Refute it at one input. -/
def denseTellsWrong : ChangeSpec := { name := "denseTells", fn := fun _ => fun
  | [d1, d2, d3, d4, d5, d6] => { results := [.lit (.bool false)], args := [d1, d2, d3, d4, d5, d6] }
  | _ => none }
def DenseTellsWrongFalsely : Prop := denseTellsRow.holds Tryz.pinned (OpenSpec.ofChange denseTellsWrong)

/-- 'teasellaw11.DenseEnds': WHATEVER THE INPUT: true; the input reads as it did. -/
def denseEndsSpec : ChangeSpec := { name := "denseEnds", fn := fun _ => fun
  | [d1, d2] => { results := [.lit (.bool true)], args := [d1, d2] }
  | _ => none }
def denseEndsRow : OpenClaim := { program := "ytjfhefffbkpgkaagreat", sum := "c9d0d761bb27c2aaf14e63c07a9a432ab46a1e0e4f2a7d004b91f16b3df37e7a", func := "teasel/teasellaw11.DenseEnds", spec := "denseEnds", inPlace := ["internal/bytealg.abigen_runtime_cmpstring"], unfollowed := true, recurses := true, plainKeys := false, apart := false }
def DenseEndsSaid : Prop := denseEndsRow.holds Tryz.pinned (OpenSpec.ofChange denseEndsSpec)

/-- ITS FALSE NEIGHBOUR: 'it returns false'. Refute it at one input. -/
def denseEndsWrong : ChangeSpec := { name := "denseEnds", fn := fun _ => fun
  | [d1, d2] => { results := [.lit (.bool false)], args := [d1, d2] }
  | _ => none }
def DenseEndsWrongFalsely : Prop := denseEndsRow.holds Tryz.pinned (OpenSpec.ofChange denseEndsWrong)

/-- 'teasellaw11.DenseParts': WHATEVER THE INPUT: true; the input reads as it did. -/
def densePartsSpec : ChangeSpec := { name := "denseParts", fn := fun _ => fun
  | [d1, d2, d3, d4] => { results := [.lit (.bool true)], args := [d1, d2, d3, d4] }
  | _ => none }
def densePartsRow : OpenClaim := { program := "ytjfhefffbkpgkaagreat", sum := "c9d0d761bb27c2aaf14e63c07a9a432ab46a1e0e4f2a7d004b91f16b3df37e7a", func := "teasel/teasellaw11.DenseParts", spec := "denseParts", inPlace := ["internal/bytealg.abigen_runtime_cmpstring"], unfollowed := true, recurses := true, plainKeys := false, apart := false }
def DensePartsSaid : Prop := densePartsRow.holds Tryz.pinned (OpenSpec.ofChange densePartsSpec)

/-- ITS FALSE NEIGHBOUR: 'it returns false'. Refute it at one input. -/
def densePartsWrong : ChangeSpec := { name := "denseParts", fn := fun _ => fun
  | [d1, d2, d3, d4] => { results := [.lit (.bool false)], args := [d1, d2, d3, d4] }
  | _ => none }
def DensePartsWrongFalsely : Prop := densePartsRow.holds Tryz.pinned (OpenSpec.ofChange densePartsWrong)

/-- 'teasellaw11.DenseClass': WHATEVER THE INPUT: true; the input reads as it did. -/
def denseClassSpec : ChangeSpec := { name := "denseClass", fn := fun _ => fun
  | [d1, d2, d3, d4] => { results := [.lit (.bool true)], args := [d1, d2, d3, d4] }
  | _ => none }
def denseClassRow : OpenClaim := { program := "ytjfhefffbkpgkaagreat", sum := "c9d0d761bb27c2aaf14e63c07a9a432ab46a1e0e4f2a7d004b91f16b3df37e7a", func := "teasel/teasellaw11.DenseClass", spec := "denseClass", inPlace := ["internal/bytealg.abigen_runtime_cmpstring"], unfollowed := true, recurses := true, plainKeys := false, apart := false }
def DenseClassSaid : Prop := denseClassRow.holds Tryz.pinned (OpenSpec.ofChange denseClassSpec)

/-- ITS FALSE NEIGHBOUR: 'it returns false'. Refute it at one input. -/
def denseClassWrong : ChangeSpec := { name := "denseClass", fn := fun _ => fun
  | [d1, d2, d3, d4] => { results := [.lit (.bool false)], args := [d1, d2, d3, d4] }
  | _ => none }
def DenseClassWrongFalsely : Prop := denseClassRow.holds Tryz.pinned (OpenSpec.ofChange denseClassWrong)

/- THE SECOND FORM. 'bulk': how many values and letters a reading holds, each counted each time it is reached (what is shared counts as often as it is met; a slice's spare places count too). A statement '..UptoSaid' is the law's where the arguments, and the package variables that the reading takes, are together of bulk at most 1048576: NARROWER than '..Said'. Prove '..Said' where nothing that the law and all that it calls make is longer than what came in: it says more and counts as full. Else prove '..UptoSaid'. A law counts once. -/
mutual
def uptoBulk {H : Type} : DataW H → Nat
  | .lit (.string bytes) => bytes.length + 1
  | .lit _ => 1
  | .nil => 1
  | .ptr d => uptoBulk d + 1
  | .slice elems spare => uptoBulkAll elems + uptoBulkAll spare + 1
  | .agg parts => uptoBulkAll parts + 1
  | .iface _ d => uptoBulk d + 1
  | .map entries => uptoBulkEntries entries + 1
  | .held _ => 1
def uptoBulkAll {H : Type} : List (DataW H) → Nat
  | [] => 0
  | d :: r => uptoBulk d + uptoBulkAll r
def uptoBulkEntries {H : Type} : List (Lit × DataW H) → Nat
  | [] => 0
  | x :: r => uptoBulkEntry x + uptoBulkEntries r
def uptoBulkEntry {H : Type} : Lit × DataW H → Nat
  | (.string bytes, d) => bytes.length + uptoBulk d + 1
  | (_, d) => uptoBulk d + 1
 end
def uptoSmall : (H : Type) → List (DataW H) → Bool := fun _ ds => decide (uptoBulkAll ds ≤ 1048576)
def OpenSpec.upto (s : _root_.Go.ChangeSpec) : _root_.Go.OpenSpec := { _root_.Go.OpenSpec.ofChange s with cond := some uptoSmall }

/-- 'teasellaw11.DenseTells', WHERE WHAT IT READS IS OF BULK AT MOST 1048576: true; the input reads as it did. -/
def denseTellsUptoRow : OpenClaim := { program := "ytjfhefffbkpgkaagreat", sum := "c9d0d761bb27c2aaf14e63c07a9a432ab46a1e0e4f2a7d004b91f16b3df37e7a", func := "teasel/teasellaw11.DenseTells", spec := "denseTells", inPlace := ["internal/bytealg.abigen_runtime_cmpstring"], unfollowed := true, recurses := true, plainKeys := false, apart := false, narrowed := true }
def DenseTellsUptoSaid : Prop := denseTellsUptoRow.holds Tryz.pinned (OpenSpec.upto denseTellsSpec)

/-- 'teasellaw11.DenseEnds', WHERE WHAT IT READS IS OF BULK AT MOST 1048576: true; the input reads as it did. -/
def denseEndsUptoRow : OpenClaim := { program := "ytjfhefffbkpgkaagreat", sum := "c9d0d761bb27c2aaf14e63c07a9a432ab46a1e0e4f2a7d004b91f16b3df37e7a", func := "teasel/teasellaw11.DenseEnds", spec := "denseEnds", inPlace := ["internal/bytealg.abigen_runtime_cmpstring"], unfollowed := true, recurses := true, plainKeys := false, apart := false, narrowed := true }
def DenseEndsUptoSaid : Prop := denseEndsUptoRow.holds Tryz.pinned (OpenSpec.upto denseEndsSpec)

/-- 'teasellaw11.DenseParts', WHERE WHAT IT READS IS OF BULK AT MOST 1048576: true; the input reads as it did. -/
def densePartsUptoRow : OpenClaim := { program := "ytjfhefffbkpgkaagreat", sum := "c9d0d761bb27c2aaf14e63c07a9a432ab46a1e0e4f2a7d004b91f16b3df37e7a", func := "teasel/teasellaw11.DenseParts", spec := "denseParts", inPlace := ["internal/bytealg.abigen_runtime_cmpstring"], unfollowed := true, recurses := true, plainKeys := false, apart := false, narrowed := true }
def DensePartsUptoSaid : Prop := densePartsUptoRow.holds Tryz.pinned (OpenSpec.upto densePartsSpec)

/-- 'teasellaw11.DenseClass', WHERE WHAT IT READS IS OF BULK AT MOST 1048576: true; the input reads as it did. -/
def denseClassUptoRow : OpenClaim := { program := "ytjfhefffbkpgkaagreat", sum := "c9d0d761bb27c2aaf14e63c07a9a432ab46a1e0e4f2a7d004b91f16b3df37e7a", func := "teasel/teasellaw11.DenseClass", spec := "denseClass", inPlace := ["internal/bytealg.abigen_runtime_cmpstring"], unfollowed := true, recurses := true, plainKeys := false, apart := false, narrowed := true }
def DenseClassUptoSaid : Prop := denseClassUptoRow.holds Tryz.pinned (OpenSpec.upto denseClassSpec)

end Rows
end Go.Proofs.YtjfhefffbkpgkaaGreat
