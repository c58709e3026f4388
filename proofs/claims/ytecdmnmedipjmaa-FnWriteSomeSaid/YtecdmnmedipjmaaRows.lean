/-
  No cell of these rows narrows 'for every input' (looked for: loops, veiled, ifaces, maps, wideKeys, modest, calm, conditions, laid).
  DERIVED. THE GIVEN ROWS OF THIS SEAT. 12 by the template 'for every input the law returns true; each argument reads behind the call as it read before'; 0 by the template 'total and deterministic' (their statements: YtecdmnmedipjmaaTotals.lean).
  GIVEN WITH THE SEED: the statements are not yours to turn. If you find one false, say at which input.
  Laid BY PROGRAM, IN A SANDBOX (cutbox-rows.mjs): the forced cells as the released guide's own fill.sh prints them over the translation cac022bffc263cbb… (all of the seat's roots in one cut). By AI agents, Wed Nov 11 2026. No macro, syntax, notation, axiom, sorry.
-/
import Derived.Test.YtecdmnmedipjmaaChecked
import GoSem.Claim
import GoSem.ClaimJoined
import GoSem.ClaimMapViews
import Derived.JoinedTies
import Derived.KernelRfl
namespace Go.Proofs.Ytecdmnmedipjmaa
/- THE CELL 'sum', in the pinned program and in every row, IS THE sha256 OF THE DUMP (.gsa) THAT YtecdmnmedipjmaaProg.lean LOADS. Nothing in Lean hashes anything: it is a label: what it is worth is what the hold of that sum in a sandbox is worth. -/
noncomputable def Try.pinned : Pinned := { name := "ytecdmnmedipjmaa", sum := "cac022bffc263cbb741d287ec757656d85ba79deaf7ca2c956317a511ac41a69", checked := Try.checked }
namespace Rows
def none {H : Type} : Left H := { results := [], args := [] }

/-- 'laws.FnExactReadsMost': WHATEVER THE INPUT: true; the input reads as it did. -/
def fnExactReadsMostSpec : ChangeSpec := { name := "fnExactReadsMost", fn := fun _ => fun
  | [d1, d2] => { results := [.lit (.bool true)], args := [d1, d2] }
  | _ => none }
def fnExactReadsMostRow : OpenClaim := { program := "ytecdmnmedipjmaa", sum := "cac022bffc263cbb741d287ec757656d85ba79deaf7ca2c956317a511ac41a69", func := "loop.example/g00498/laws.FnExactReadsMost", spec := "fnExactReadsMost", apart := false }
def FnExactReadsMostSaid : Prop := fnExactReadsMostRow.holds Try.pinned (OpenSpec.ofChange fnExactReadsMostSpec)

/-- ITS FALSE NEIGHBOUR: 'it returns false'. Refute it at one input. -/
def fnExactReadsMostWrong : ChangeSpec := { name := "fnExactReadsMost", fn := fun _ => fun
  | [d1, d2] => { results := [.lit (.bool false)], args := [d1, d2] }
  | _ => none }
def FnExactReadsMostWrongFalsely : Prop := fnExactReadsMostRow.holds Try.pinned (OpenSpec.ofChange fnExactReadsMostWrong)

/-- 'laws.FnExactSinkOk': WHATEVER THE INPUT: true; the input reads as it did. -/
def fnExactSinkOkSpec : ChangeSpec := { name := "fnExactSinkOk", fn := fun _ => fun
  | [d] => { results := [.lit (.bool true)], args := [d] }
  | _ => none }
def fnExactSinkOkRow : OpenClaim := { program := "ytecdmnmedipjmaa", sum := "cac022bffc263cbb741d287ec757656d85ba79deaf7ca2c956317a511ac41a69", func := "loop.example/g00498/laws.FnExactSinkOk", spec := "fnExactSinkOk", apart := false }
def FnExactSinkOkSaid : Prop := fnExactSinkOkRow.holds Try.pinned (OpenSpec.ofChange fnExactSinkOkSpec)

/-- ITS FALSE NEIGHBOUR: 'it returns false'. Refute it at one input. -/
def fnExactSinkOkWrong : ChangeSpec := { name := "fnExactSinkOk", fn := fun _ => fun
  | [d] => { results := [.lit (.bool false)], args := [d] }
  | _ => none }
def FnExactSinkOkWrongFalsely : Prop := fnExactSinkOkRow.holds Try.pinned (OpenSpec.ofChange fnExactSinkOkWrong)

/-- 'laws.FnExactEndOf': WHATEVER THE INPUT: true; the input reads as it did. -/
def fnExactEndOfSpec : ChangeSpec := { name := "fnExactEndOf", fn := fun _ => fun
  | [d] => { results := [.lit (.bool true)], args := [d] }
  | _ => none }
def fnExactEndOfRow : OpenClaim := { program := "ytecdmnmedipjmaa", sum := "cac022bffc263cbb741d287ec757656d85ba79deaf7ca2c956317a511ac41a69", func := "loop.example/g00498/laws.FnExactEndOf", spec := "fnExactEndOf", unfollowed := true, recurses := true, apart := false }
def FnExactEndOfSaid : Prop := fnExactEndOfRow.holds Try.pinned (OpenSpec.ofChange fnExactEndOfSpec)

/-- ITS FALSE NEIGHBOUR: 'it returns false'. Refute it at one input. -/
def fnExactEndOfWrong : ChangeSpec := { name := "fnExactEndOf", fn := fun _ => fun
  | [d] => { results := [.lit (.bool false)], args := [d] }
  | _ => none }
def FnExactEndOfWrongFalsely : Prop := fnExactEndOfRow.holds Try.pinned (OpenSpec.ofChange fnExactEndOfWrong)

/-- 'laws.FnExactHighWater': WHATEVER THE INPUT: true; the input reads as it did. -/
def fnExactHighWaterSpec : ChangeSpec := { name := "fnExactHighWater", fn := fun _ => fun
  | [d] => { results := [.lit (.bool true)], args := [d] }
  | _ => none }
def fnExactHighWaterRow : OpenClaim := { program := "ytecdmnmedipjmaa", sum := "cac022bffc263cbb741d287ec757656d85ba79deaf7ca2c956317a511ac41a69", func := "loop.example/g00498/laws.FnExactHighWater", spec := "fnExactHighWater", apart := false }
def FnExactHighWaterSaid : Prop := fnExactHighWaterRow.holds Try.pinned (OpenSpec.ofChange fnExactHighWaterSpec)

/-- ITS FALSE NEIGHBOUR: 'it returns false'. Refute it at one input. -/
def fnExactHighWaterWrong : ChangeSpec := { name := "fnExactHighWater", fn := fun _ => fun
  | [d] => { results := [.lit (.bool false)], args := [d] }
  | _ => none }
def FnExactHighWaterWrongFalsely : Prop := fnExactHighWaterRow.holds Try.pinned (OpenSpec.ofChange fnExactHighWaterWrong)

/-- 'laws.FnExactCallsFor': WHATEVER THE INPUT: true; the input reads as it did. -/
def fnExactCallsForSpec : ChangeSpec := { name := "fnExactCallsFor", fn := fun _ => fun
  | [d1, d2] => { results := [.lit (.bool true)], args := [d1, d2] }
  | _ => none }
def fnExactCallsForRow : OpenClaim := { program := "ytecdmnmedipjmaa", sum := "cac022bffc263cbb741d287ec757656d85ba79deaf7ca2c956317a511ac41a69", func := "loop.example/g00498/laws.FnExactCallsFor", spec := "fnExactCallsFor", apart := false }
def FnExactCallsForSaid : Prop := fnExactCallsForRow.holds Try.pinned (OpenSpec.ofChange fnExactCallsForSpec)

/-- ITS FALSE NEIGHBOUR: 'it returns false'. Refute it at one input. -/
def fnExactCallsForWrong : ChangeSpec := { name := "fnExactCallsFor", fn := fun _ => fun
  | [d1, d2] => { results := [.lit (.bool false)], args := [d1, d2] }
  | _ => none }
def FnExactCallsForWrongFalsely : Prop := fnExactCallsForRow.holds Try.pinned (OpenSpec.ofChange fnExactCallsForWrong)

/-- 'laws.FnCalls': WHATEVER THE INPUT: true; the input reads as it did. -/
def fnCallsSpec : ChangeSpec := { name := "fnCalls", fn := fun _ => fun
  | [d] => { results := [.lit (.bool true)], args := [d] }
  | _ => none }
def fnCallsRow : OpenClaim := { program := "ytecdmnmedipjmaa", sum := "cac022bffc263cbb741d287ec757656d85ba79deaf7ca2c956317a511ac41a69", func := "loop.example/g00498/laws.FnCalls", spec := "fnCalls", apart := false }
def FnCallsSaid : Prop := fnCallsRow.holds Try.pinned (OpenSpec.ofChange fnCallsSpec)

/-- ITS FALSE NEIGHBOUR: 'it returns false'. Refute it at one input. -/
def fnCallsWrong : ChangeSpec := { name := "fnCalls", fn := fun _ => fun
  | [d] => { results := [.lit (.bool false)], args := [d] }
  | _ => none }
def FnCallsWrongFalsely : Prop := fnCallsRow.holds Try.pinned (OpenSpec.ofChange fnCallsWrong)

/-- 'laws.FnSink': WHATEVER THE INPUT: true; the input reads as it did. -/
def fnSinkSpec : ChangeSpec := { name := "fnSink", fn := fun _ => fun
  | [d] => { results := [.lit (.bool true)], args := [d] }
  | _ => none }
def fnSinkRow : OpenClaim := { program := "ytecdmnmedipjmaa", sum := "cac022bffc263cbb741d287ec757656d85ba79deaf7ca2c956317a511ac41a69", func := "loop.example/g00498/laws.FnSink", spec := "fnSink", apart := false }
def FnSinkSaid : Prop := fnSinkRow.holds Try.pinned (OpenSpec.ofChange fnSinkSpec)

/-- ITS FALSE NEIGHBOUR: 'it returns false'. Refute it at one input. -/
def fnSinkWrong : ChangeSpec := { name := "fnSink", fn := fun _ => fun
  | [d] => { results := [.lit (.bool false)], args := [d] }
  | _ => none }
def FnSinkWrongFalsely : Prop := fnSinkRow.holds Try.pinned (OpenSpec.ofChange fnSinkWrong)

/-- 'laws.FnWriteSome': WHATEVER THE INPUT: true; the input reads as it did. -/
def fnWriteSomeSpec : ChangeSpec := { name := "fnWriteSome", fn := fun _ => fun
  | [d] => { results := [.lit (.bool true)], args := [d] }
  | _ => none }
def fnWriteSomeRow : OpenClaim := { program := "ytecdmnmedipjmaa", sum := "cac022bffc263cbb741d287ec757656d85ba79deaf7ca2c956317a511ac41a69", func := "loop.example/g00498/laws.FnWriteSome", spec := "fnWriteSome", apart := false }
def FnWriteSomeSaid : Prop := fnWriteSomeRow.holds Try.pinned (OpenSpec.ofChange fnWriteSomeSpec)

/-- ITS FALSE NEIGHBOUR: 'it returns false'. Refute it at one input. -/
def fnWriteSomeWrong : ChangeSpec := { name := "fnWriteSome", fn := fun _ => fun
  | [d] => { results := [.lit (.bool false)], args := [d] }
  | _ => none }
def FnWriteSomeWrongFalsely : Prop := fnWriteSomeRow.holds Try.pinned (OpenSpec.ofChange fnWriteSomeWrong)

/-- 'laws.FnExactNested': WHATEVER THE INPUT: true; the input reads as it did. -/
def fnExactNestedSpec : ChangeSpec := { name := "fnExactNested", fn := fun _ => fun
  | [d] => { results := [.lit (.bool true)], args := [d] }
  | _ => none }
def fnExactNestedRow : OpenClaim := { program := "ytecdmnmedipjmaa", sum := "cac022bffc263cbb741d287ec757656d85ba79deaf7ca2c956317a511ac41a69", func := "loop.example/g00498/laws.FnExactNested", spec := "fnExactNested", apart := false }
def FnExactNestedSaid : Prop := fnExactNestedRow.holds Try.pinned (OpenSpec.ofChange fnExactNestedSpec)

/-- ITS FALSE NEIGHBOUR: 'it returns false'. Refute it at one input. -/
def fnExactNestedWrong : ChangeSpec := { name := "fnExactNested", fn := fun _ => fun
  | [d] => { results := [.lit (.bool false)], args := [d] }
  | _ => none }
def FnExactNestedWrongFalsely : Prop := fnExactNestedRow.holds Try.pinned (OpenSpec.ofChange fnExactNestedWrong)

/-- 'laws.FnExactWriteSome': WHATEVER THE INPUT: true; the input reads as it did. -/
def fnExactWriteSomeSpec : ChangeSpec := { name := "fnExactWriteSome", fn := fun _ => fun
  | [d1, d2] => { results := [.lit (.bool true)], args := [d1, d2] }
  | _ => none }
def fnExactWriteSomeRow : OpenClaim := { program := "ytecdmnmedipjmaa", sum := "cac022bffc263cbb741d287ec757656d85ba79deaf7ca2c956317a511ac41a69", func := "loop.example/g00498/laws.FnExactWriteSome", spec := "fnExactWriteSome", apart := false }
def FnExactWriteSomeSaid : Prop := fnExactWriteSomeRow.holds Try.pinned (OpenSpec.ofChange fnExactWriteSomeSpec)

/-- ITS FALSE NEIGHBOUR: 'it returns false'. Refute it at one input. -/
def fnExactWriteSomeWrong : ChangeSpec := { name := "fnExactWriteSome", fn := fun _ => fun
  | [d1, d2] => { results := [.lit (.bool false)], args := [d1, d2] }
  | _ => none }
def FnExactWriteSomeWrongFalsely : Prop := fnExactWriteSomeRow.holds Try.pinned (OpenSpec.ofChange fnExactWriteSomeWrong)

/-- 'laws.FnExactWriteAll': WHATEVER THE INPUT: true; the input reads as it did. -/
def fnExactWriteAllSpec : ChangeSpec := { name := "fnExactWriteAll", fn := fun _ => fun
  | [d1, d2] => { results := [.lit (.bool true)], args := [d1, d2] }
  | _ => none }
def fnExactWriteAllRow : OpenClaim := { program := "ytecdmnmedipjmaa", sum := "cac022bffc263cbb741d287ec757656d85ba79deaf7ca2c956317a511ac41a69", func := "loop.example/g00498/laws.FnExactWriteAll", spec := "fnExactWriteAll", apart := false }
def FnExactWriteAllSaid : Prop := fnExactWriteAllRow.holds Try.pinned (OpenSpec.ofChange fnExactWriteAllSpec)

/-- ITS FALSE NEIGHBOUR: 'it returns false'. Refute it at one input. -/
def fnExactWriteAllWrong : ChangeSpec := { name := "fnExactWriteAll", fn := fun _ => fun
  | [d1, d2] => { results := [.lit (.bool false)], args := [d1, d2] }
  | _ => none }
def FnExactWriteAllWrongFalsely : Prop := fnExactWriteAllRow.holds Try.pinned (OpenSpec.ofChange fnExactWriteAllWrong)

/-- 'laws.FnExactTold': WHATEVER THE INPUT: true; the input reads as it did. -/
def fnExactToldSpec : ChangeSpec := { name := "fnExactTold", fn := fun _ => fun
  | [d] => { results := [.lit (.bool true)], args := [d] }
  | _ => none }
def fnExactToldRow : OpenClaim := { program := "ytecdmnmedipjmaa", sum := "cac022bffc263cbb741d287ec757656d85ba79deaf7ca2c956317a511ac41a69", func := "loop.example/g00498/laws.FnExactTold", spec := "fnExactTold", unfollowed := true, recurses := true, apart := false }
def FnExactToldSaid : Prop := fnExactToldRow.holds Try.pinned (OpenSpec.ofChange fnExactToldSpec)

/-- ITS FALSE NEIGHBOUR: 'it returns false'. Refute it at one input. -/
def fnExactToldWrong : ChangeSpec := { name := "fnExactTold", fn := fun _ => fun
  | [d] => { results := [.lit (.bool false)], args := [d] }
  | _ => none }
def FnExactToldWrongFalsely : Prop := fnExactToldRow.holds Try.pinned (OpenSpec.ofChange fnExactToldWrong)

/- THE SECOND FORM. 'bulk': how many values and letters a reading holds, each counted each time it is reached (what is shared counts as often as it is met; a slice's spare places count too). A statement '..UptoSaid' is the law's where the arguments, and the package variables that the reading takes, are together of bulk at most 1048576: NARROWER than '..Said'. Prove '..Said' where nothing that the law and all that it calls make is longer than what came in: it says more and counts as full. Else prove '..UptoSaid'. A law counts once. -/
mutual
def uptoBulk {H : Type} : DataW H → Nat
  | .lit (.string bytes) => bytes.length + 1
  | .lit _ => 1
  | .nil => 1
  | .ptr d => uptoBulk d + 1
  | .slice elems spare => uptoBulkAll elems + uptoBulkAll spare + 1
  | .agg parts => uptoBulkAll parts + 1
  | .iface _ d => uptoBulk d + 1
  | .map entries => uptoBulkEntries entries + 1
  | .held _ => 1
def uptoBulkAll {H : Type} : List (DataW H) → Nat
  | [] => 0
  | d :: r => uptoBulk d + uptoBulkAll r
def uptoBulkEntries {H : Type} : List (Lit × DataW H) → Nat
  | [] => 0
  | x :: r => uptoBulkEntry x + uptoBulkEntries r
def uptoBulkEntry {H : Type} : Lit × DataW H → Nat
  | (.string bytes, d) => bytes.length + uptoBulk d + 1
  | (_, d) => uptoBulk d + 1
 end
def uptoSmall : (H : Type) → List (DataW H) → Bool := fun _ ds => decide (uptoBulkAll ds ≤ 1048576)
def OpenSpec.upto (s : _root_.Go.ChangeSpec) : _root_.Go.OpenSpec := { _root_.Go.OpenSpec.ofChange s with cond := some uptoSmall }

/-- 'laws.FnExactReadsMost', WHERE WHAT IT READS IS OF BULK AT MOST 1048576: true; the input reads as it did. -/
def fnExactReadsMostUptoRow : OpenClaim := { program := "ytecdmnmedipjmaa", sum := "cac022bffc263cbb741d287ec757656d85ba79deaf7ca2c956317a511ac41a69", func := "loop.example/g00498/laws.FnExactReadsMost", spec := "fnExactReadsMost", apart := false, narrowed := true }
def FnExactReadsMostUptoSaid : Prop := fnExactReadsMostUptoRow.holds Try.pinned (OpenSpec.upto fnExactReadsMostSpec)

/-- 'laws.FnExactSinkOk', WHERE WHAT IT READS IS OF BULK AT MOST 1048576: true; the input reads as it did. -/
def fnExactSinkOkUptoRow : OpenClaim := { program := "ytecdmnmedipjmaa", sum := "cac022bffc263cbb741d287ec757656d85ba79deaf7ca2c956317a511ac41a69", func := "loop.example/g00498/laws.FnExactSinkOk", spec := "fnExactSinkOk", apart := false, narrowed := true }
def FnExactSinkOkUptoSaid : Prop := fnExactSinkOkUptoRow.holds Try.pinned (OpenSpec.upto fnExactSinkOkSpec)

/-- 'laws.FnExactEndOf', WHERE WHAT IT READS IS OF BULK AT MOST 1048576: true; the input reads as it did. -/
def fnExactEndOfUptoRow : OpenClaim := { program := "ytecdmnmedipjmaa", sum := "cac022bffc263cbb741d287ec757656d85ba79deaf7ca2c956317a511ac41a69", func := "loop.example/g00498/laws.FnExactEndOf", spec := "fnExactEndOf", unfollowed := true, recurses := true, apart := false, narrowed := true }
def FnExactEndOfUptoSaid : Prop := fnExactEndOfUptoRow.holds Try.pinned (OpenSpec.upto fnExactEndOfSpec)

/-- 'laws.FnExactHighWater', WHERE WHAT IT READS IS OF BULK AT MOST 1048576: true; the input reads as it did. -/
def fnExactHighWaterUptoRow : OpenClaim := { program := "ytecdmnmedipjmaa", sum := "cac022bffc263cbb741d287ec757656d85ba79deaf7ca2c956317a511ac41a69", func := "loop.example/g00498/laws.FnExactHighWater", spec := "fnExactHighWater", apart := false, narrowed := true }
def FnExactHighWaterUptoSaid : Prop := fnExactHighWaterUptoRow.holds Try.pinned (OpenSpec.upto fnExactHighWaterSpec)

/-- 'laws.FnExactCallsFor', WHERE WHAT IT READS IS OF BULK AT MOST 1048576: true; the input reads as it did. -/
def fnExactCallsForUptoRow : OpenClaim := { program := "ytecdmnmedipjmaa", sum := "cac022bffc263cbb741d287ec757656d85ba79deaf7ca2c956317a511ac41a69", func := "loop.example/g00498/laws.FnExactCallsFor", spec := "fnExactCallsFor", apart := false, narrowed := true }
def FnExactCallsForUptoSaid : Prop := fnExactCallsForUptoRow.holds Try.pinned (OpenSpec.upto fnExactCallsForSpec)

/-- 'laws.FnCalls', WHERE WHAT IT READS IS OF BULK AT MOST 1048576: true; the input reads as it did. -/
def fnCallsUptoRow : OpenClaim := { program := "ytecdmnmedipjmaa", sum := "cac022bffc263cbb741d287ec757656d85ba79deaf7ca2c956317a511ac41a69", func := "loop.example/g00498/laws.FnCalls", spec := "fnCalls", apart := false, narrowed := true }
def FnCallsUptoSaid : Prop := fnCallsUptoRow.holds Try.pinned (OpenSpec.upto fnCallsSpec)

/-- 'laws.FnSink', WHERE WHAT IT READS IS OF BULK AT MOST 1048576: true; the input reads as it did. -/
def fnSinkUptoRow : OpenClaim := { program := "ytecdmnmedipjmaa", sum := "cac022bffc263cbb741d287ec757656d85ba79deaf7ca2c956317a511ac41a69", func := "loop.example/g00498/laws.FnSink", spec := "fnSink", apart := false, narrowed := true }
def FnSinkUptoSaid : Prop := fnSinkUptoRow.holds Try.pinned (OpenSpec.upto fnSinkSpec)

/-- 'laws.FnWriteSome', WHERE WHAT IT READS IS OF BULK AT MOST 1048576: true; the input reads as it did. -/
def fnWriteSomeUptoRow : OpenClaim := { program := "ytecdmnmedipjmaa", sum := "cac022bffc263cbb741d287ec757656d85ba79deaf7ca2c956317a511ac41a69", func := "loop.example/g00498/laws.FnWriteSome", spec := "fnWriteSome", apart := false, narrowed := true }
def FnWriteSomeUptoSaid : Prop := fnWriteSomeUptoRow.holds Try.pinned (OpenSpec.upto fnWriteSomeSpec)

/-- 'laws.FnExactNested', WHERE WHAT IT READS IS OF BULK AT MOST 1048576: true; the input reads as it did. -/
def fnExactNestedUptoRow : OpenClaim := { program := "ytecdmnmedipjmaa", sum := "cac022bffc263cbb741d287ec757656d85ba79deaf7ca2c956317a511ac41a69", func := "loop.example/g00498/laws.FnExactNested", spec := "fnExactNested", apart := false, narrowed := true }
def FnExactNestedUptoSaid : Prop := fnExactNestedUptoRow.holds Try.pinned (OpenSpec.upto fnExactNestedSpec)

/-- 'laws.FnExactWriteSome', WHERE WHAT IT READS IS OF BULK AT MOST 1048576: true; the input reads as it did. -/
def fnExactWriteSomeUptoRow : OpenClaim := { program := "ytecdmnmedipjmaa", sum := "cac022bffc263cbb741d287ec757656d85ba79deaf7ca2c956317a511ac41a69", func := "loop.example/g00498/laws.FnExactWriteSome", spec := "fnExactWriteSome", apart := false, narrowed := true }
def FnExactWriteSomeUptoSaid : Prop := fnExactWriteSomeUptoRow.holds Try.pinned (OpenSpec.upto fnExactWriteSomeSpec)

/-- 'laws.FnExactWriteAll', WHERE WHAT IT READS IS OF BULK AT MOST 1048576: true; the input reads as it did. -/
def fnExactWriteAllUptoRow : OpenClaim := { program := "ytecdmnmedipjmaa", sum := "cac022bffc263cbb741d287ec757656d85ba79deaf7ca2c956317a511ac41a69", func := "loop.example/g00498/laws.FnExactWriteAll", spec := "fnExactWriteAll", apart := false, narrowed := true }
def FnExactWriteAllUptoSaid : Prop := fnExactWriteAllUptoRow.holds Try.pinned (OpenSpec.upto fnExactWriteAllSpec)

/-- 'laws.FnExactTold', WHERE WHAT IT READS IS OF BULK AT MOST 1048576: true; the input reads as it did. -/
def fnExactToldUptoRow : OpenClaim := { program := "ytecdmnmedipjmaa", sum := "cac022bffc263cbb741d287ec757656d85ba79deaf7ca2c956317a511ac41a69", func := "loop.example/g00498/laws.FnExactTold", spec := "fnExactTold", unfollowed := true, recurses := true, apart := false, narrowed := true }
def FnExactToldUptoSaid : Prop := fnExactToldUptoRow.holds Try.pinned (OpenSpec.upto fnExactToldSpec)

end Rows
end Go.Proofs.Ytecdmnmedipjmaa
