/-
  No cell of these rows narrows 'for every input' (looked for: loops, veiled, ifaces, maps, wideKeys, modest, calm, conditions, laid).
  DERIVED. THE GIVEN ROWS OF THIS SEAT. 4 by the template 'for every input the law returns true; each argument reads behind the call as it read before'; 0 by the template 'total and deterministic' (their statements: YthpklbpdchckkaaTotals.lean).
  GIVEN WITH THE SEED: the statements are not yours to turn. If you find one false, say at which input.
  Laid BY PROGRAM, IN A SANDBOX (cutbox-rows.mjs): the forced cells as the released guide's own fill.sh prints them over the translation 3bb5542f15e37c6f… (all of the seat's roots in one cut). By AI agents, Wed Nov 11 2026. No macro, syntax, notation, axiom, sorry.
-/
import Derived.Test.YthpklbpdchckkaaChecked
import GoSem.Claim
import GoSem.ClaimJoined
import GoSem.ClaimMapViews
import Derived.JoinedTies
import Derived.KernelRfl
namespace Go.Proofs.Ythpklbpdchckkaa
/- THE CELL 'sum', in the pinned program and in every row, IS THE sha256 OF THE DUMP (.gsa) THAT YthpklbpdchckkaaProg.lean LOADS. Nothing in Lean hashes anything: it is a label: what it is worth is what the hold of that sum in a sandbox is worth. -/
noncomputable def Try.pinned : Pinned := { name := "ythpklbpdchckkaa", sum := "3bb5542f15e37c6fc3c0cd4e35a3bda29393951cc355f87dc454a0f8569054ee", checked := Try.checked }
namespace Rows
def none {H : Type} : Left H := { results := [], args := [] }

/-- 'laws.FnExactKitNew': WHATEVER THE INPUT: true; the input reads as it did. -/
def fnExactKitNewSpec : ChangeSpec := { name := "fnExactKitNew", fn := fun _ => fun
  | [] => { results := [.lit (.bool true)], args := [] }
  | _ => none }
def fnExactKitNewRow : OpenClaim := { program := "ythpklbpdchckkaa", sum := "3bb5542f15e37c6fc3c0cd4e35a3bda29393951cc355f87dc454a0f8569054ee", func := "loop.example/g00498/laws.FnExactKitNew", spec := "fnExactKitNew", apart := false }
def FnExactKitNewSaid : Prop := fnExactKitNewRow.holds Try.pinned (OpenSpec.ofChange fnExactKitNewSpec)

/-- ITS FALSE NEIGHBOUR: 'it returns false'. Refute it at one input. -/
def fnExactKitNewWrong : ChangeSpec := { name := "fnExactKitNew", fn := fun _ => fun
  | [] => { results := [.lit (.bool false)], args := [] }
  | _ => none }
def FnExactKitNewWrongFalsely : Prop := fnExactKitNewRow.holds Try.pinned (OpenSpec.ofChange fnExactKitNewWrong)

/-- 'laws.FnExactPieces': WHATEVER THE INPUT: true; the input reads as it did. -/
def fnExactPiecesSpec : ChangeSpec := { name := "fnExactPieces", fn := fun _ => fun
  | [d1, d2] => { results := [.lit (.bool true)], args := [d1, d2] }
  | _ => none }
def fnExactPiecesRow : OpenClaim := { program := "ythpklbpdchckkaa", sum := "3bb5542f15e37c6fc3c0cd4e35a3bda29393951cc355f87dc454a0f8569054ee", func := "loop.example/g00498/laws.FnExactPieces", spec := "fnExactPieces", apart := false }
def FnExactPiecesSaid : Prop := fnExactPiecesRow.holds Try.pinned (OpenSpec.ofChange fnExactPiecesSpec)

/-- ITS FALSE NEIGHBOUR: 'it returns false'. Refute it at one input. -/
def fnExactPiecesWrong : ChangeSpec := { name := "fnExactPieces", fn := fun _ => fun
  | [d1, d2] => { results := [.lit (.bool false)], args := [d1, d2] }
  | _ => none }
def FnExactPiecesWrongFalsely : Prop := fnExactPiecesRow.holds Try.pinned (OpenSpec.ofChange fnExactPiecesWrong)

/-- 'laws.FnExactEncOk': WHATEVER THE INPUT: true; the input reads as it did. -/
def fnExactEncOkSpec : ChangeSpec := { name := "fnExactEncOk", fn := fun _ => fun
  | [d] => { results := [.lit (.bool true)], args := [d] }
  | _ => none }
def fnExactEncOkRow : OpenClaim := { program := "ythpklbpdchckkaa", sum := "3bb5542f15e37c6fc3c0cd4e35a3bda29393951cc355f87dc454a0f8569054ee", func := "loop.example/g00498/laws.FnExactEncOk", spec := "fnExactEncOk", apart := false }
def FnExactEncOkSaid : Prop := fnExactEncOkRow.holds Try.pinned (OpenSpec.ofChange fnExactEncOkSpec)

/-- ITS FALSE NEIGHBOUR: 'it returns false'. Refute it at one input. -/
def fnExactEncOkWrong : ChangeSpec := { name := "fnExactEncOk", fn := fun _ => fun
  | [d] => { results := [.lit (.bool false)], args := [d] }
  | _ => none }
def FnExactEncOkWrongFalsely : Prop := fnExactEncOkRow.holds Try.pinned (OpenSpec.ofChange fnExactEncOkWrong)

/-- 'laws.FnExactEncNew': WHATEVER THE INPUT: true; the input reads as it did. -/
def fnExactEncNewSpec : ChangeSpec := { name := "fnExactEncNew", fn := fun _ => fun
  | [d1, d2] => { results := [.lit (.bool true)], args := [d1, d2] }
  | _ => none }
def fnExactEncNewRow : OpenClaim := { program := "ythpklbpdchckkaa", sum := "3bb5542f15e37c6fc3c0cd4e35a3bda29393951cc355f87dc454a0f8569054ee", func := "loop.example/g00498/laws.FnExactEncNew", spec := "fnExactEncNew", apart := false }
def FnExactEncNewSaid : Prop := fnExactEncNewRow.holds Try.pinned (OpenSpec.ofChange fnExactEncNewSpec)

/-- ITS FALSE NEIGHBOUR: 'it returns false'. Refute it at one input. -/
def fnExactEncNewWrong : ChangeSpec := { name := "fnExactEncNew", fn := fun _ => fun
  | [d1, d2] => { results := [.lit (.bool false)], args := [d1, d2] }
  | _ => none }
def FnExactEncNewWrongFalsely : Prop := fnExactEncNewRow.holds Try.pinned (OpenSpec.ofChange fnExactEncNewWrong)

/- THE SECOND FORM. 'bulk': how many values and letters a reading holds, each counted each time it is reached (what is shared counts as often as it is met; a slice's spare places count too). A statement '..UptoSaid' is the law's where the arguments, and the package variables that the reading takes, are together of bulk at most 1048576: NARROWER than '..Said'. Prove '..Said' where nothing that the law and all that it calls make is longer than what came in: it says more and counts as full. Else prove '..UptoSaid'. A law counts once. -/
mutual
def uptoBulk {H : Type} : DataW H → Nat
  | .lit (.string bytes) => bytes.length + 1
  | .lit _ => 1
  | .nil => 1
  | .ptr d => uptoBulk d + 1
  | .slice elems spare => uptoBulkAll elems + uptoBulkAll spare + 1
  | .agg parts => uptoBulkAll parts + 1
  | .iface _ d => uptoBulk d + 1
  | .map entries => uptoBulkEntries entries + 1
  | .held _ => 1
def uptoBulkAll {H : Type} : List (DataW H) → Nat
  | [] => 0
  | d :: r => uptoBulk d + uptoBulkAll r
def uptoBulkEntries {H : Type} : List (Lit × DataW H) → Nat
  | [] => 0
  | x :: r => uptoBulkEntry x + uptoBulkEntries r
def uptoBulkEntry {H : Type} : Lit × DataW H → Nat
  | (.string bytes, d) => bytes.length + uptoBulk d + 1
  | (_, d) => uptoBulk d + 1
 end
def uptoSmall : (H : Type) → List (DataW H) → Bool := fun _ ds => decide (uptoBulkAll ds ≤ 1048576)
def OpenSpec.upto (s : _root_.Go.ChangeSpec) : _root_.Go.OpenSpec := { _root_.Go.OpenSpec.ofChange s with cond := some uptoSmall }

/-- 'laws.FnExactKitNew', WHERE WHAT IT READS IS OF BULK AT MOST 1048576: true; the input reads as it did. -/
def fnExactKitNewUptoRow : OpenClaim := { program := "ythpklbpdchckkaa", sum := "3bb5542f15e37c6fc3c0cd4e35a3bda29393951cc355f87dc454a0f8569054ee", func := "loop.example/g00498/laws.FnExactKitNew", spec := "fnExactKitNew", apart := false, narrowed := true }
def FnExactKitNewUptoSaid : Prop := fnExactKitNewUptoRow.holds Try.pinned (OpenSpec.upto fnExactKitNewSpec)

/-- 'laws.FnExactPieces', WHERE WHAT IT READS IS OF BULK AT MOST 1048576: true; the input reads as it did. -/
def fnExactPiecesUptoRow : OpenClaim := { program := "ythpklbpdchckkaa", sum := "3bb5542f15e37c6fc3c0cd4e35a3bda29393951cc355f87dc454a0f8569054ee", func := "loop.example/g00498/laws.FnExactPieces", spec := "fnExactPieces", apart := false, narrowed := true }
def FnExactPiecesUptoSaid : Prop := fnExactPiecesUptoRow.holds Try.pinned (OpenSpec.upto fnExactPiecesSpec)

/-- 'laws.FnExactEncOk', WHERE WHAT IT READS IS OF BULK AT MOST 1048576: true; the input reads as it did. -/
def fnExactEncOkUptoRow : OpenClaim := { program := "ythpklbpdchckkaa", sum := "3bb5542f15e37c6fc3c0cd4e35a3bda29393951cc355f87dc454a0f8569054ee", func := "loop.example/g00498/laws.FnExactEncOk", spec := "fnExactEncOk", apart := false, narrowed := true }
def FnExactEncOkUptoSaid : Prop := fnExactEncOkUptoRow.holds Try.pinned (OpenSpec.upto fnExactEncOkSpec)

/-- 'laws.FnExactEncNew', WHERE WHAT IT READS IS OF BULK AT MOST 1048576: true; the input reads as it did. -/
def fnExactEncNewUptoRow : OpenClaim := { program := "ythpklbpdchckkaa", sum := "3bb5542f15e37c6fc3c0cd4e35a3bda29393951cc355f87dc454a0f8569054ee", func := "loop.example/g00498/laws.FnExactEncNew", spec := "fnExactEncNew", apart := false, narrowed := true }
def FnExactEncNewUptoSaid : Prop := fnExactEncNewUptoRow.holds Try.pinned (OpenSpec.upto fnExactEncNewSpec)

end Rows
end Go.Proofs.Ythpklbpdchckkaa
