/- Typed twins of the program's functions, and that they answer as the functions do. It states nothing by itself. -/
import Derived.Test.YthpklbpdchckkaaProg
import Derived.Test.YthpklbpdchckkaaE1
namespace Go.Proofs.YthpklbpdchckkaaT
open Go.Proofs Go.Proofs.YthpklbpdchckkaaEv
set_option maxRecDepth 100000
set_option linter.unusedVariables false
theorem mixed : Try.prog.follows .mixedOrders = true := by kernel_rfl
abbrev YerrorAddressString : Ty := (.pr .str (.int .u64))
abbrev DerrorAddressString : Type := ByteArray × Int
abbrev YRead : Ty := (.pr (.int .i64) (.int .i64))
abbrev DRead : Type := Int × Int
abbrev YboundsError : Ty := (.pr (.int .i64) (.pr (.int .i64) (.pr .bool (.int .u8))))
abbrev DboundsError : Type := Int × (Int × (Bool × Int))
abbrev YSink : Ty := (.pr .str (.pr (.sl 3 (.int .i64)) YRead))
abbrev DSink : Type := ByteArray × (List Int × DRead)
abbrev YField : Ty := (.pr (.int .i64) (.pr (.int .i64) (.pr .bool (.pr .bool (.int .i64)))))
abbrev DField : Type := Int × (Int × (Bool × (Bool × Int)))
abbrev YReader : Ty := (.pr .str (.pr (.int .i64) (.pr (.sl 85 YRead) YRead)))
abbrev DReader : Type := ByteArray × (Int × (List DRead × DRead))
abbrev YShape : Ty := (.pr (.int .i64) (.sl 128 YField))
abbrev DShape : Type := Int × List DField
abbrev YEvent : Ty := (.pr (.int .i64) (.pr (.int .i64) (.pr (.int .u64) (.pr (.int .i64) (.pr .str YRead)))))
abbrev DEvent : Type := Int × (Int × (Int × (Int × (ByteArray × DRead))))
abbrev YlShape : Ty := (.pr (.int .i64) (.sl 143 YField))
abbrev DlShape : Type := Int × List DField
abbrev YPlan : Ty := (.pr (.sl 77 YShape) (.pr (.int .i64) YRead))
abbrev DPlan : Type := List DShape × (Int × DRead)
abbrev YlPlan : Ty := (.pr (.sl 133 YlShape) (.pr (.int .i64) YRead))
abbrev DlPlan : Type := List DlShape × (Int × DRead)
abbrev YEncoder : Ty := (.pr YPlan (.pr YSink (.pr (.sl 117 YEvent) (.pr (.int .i64) YRead))))
abbrev DEncoder : Type := DPlan × (DSink × (List DEvent × (Int × DRead)))
abbrev YlEncoder : Ty := (.pr YlPlan (.pr YSink (.pr (.sl 115 YEvent) (.pr (.int .i64) YRead))))
abbrev DlEncoder : Type := DlPlan × (DSink × (List DEvent × (Int × DRead)))
abbrev YKit : Ty := YPlan
abbrev DKit : Type := DPlan
abbrev YlEvent : Ty := YEvent
abbrev DlEvent : Type := DEvent
abbrev YlField : Ty := YField
abbrev DlField : Type := DField
abbrev YlRead : Ty := YRead
abbrev DlRead : Type := DRead
abbrev YlSink : Ty := YSink
abbrev DlSink : Type := DSink
end Go.Proofs.YthpklbpdchckkaaT
