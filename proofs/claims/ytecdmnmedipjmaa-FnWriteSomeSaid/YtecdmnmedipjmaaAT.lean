/- Typed twins of the program's functions, and that they answer as the functions do. It states nothing by itself. -/
import Derived.Test.YtecdmnmedipjmaaProg
import Derived.Test.YtecdmnmedipjmaaE1
namespace Go.Proofs.YtecdmnmedipjmaaT
open Go.Proofs Go.Proofs.YtecdmnmedipjmaaEv
set_option maxRecDepth 100000
set_option linter.unusedVariables false
theorem mixed : Try.prog.follows .mixedOrders = true := by kernel_rfl
abbrev YerrorAddressString : Ty := (.pr .str (.int .u64))
abbrev DerrorAddressString : Type := ByteArray × Int
abbrev YRead : Ty := (.pr (.int .i64) (.int .i64))
abbrev DRead : Type := Int × Int
abbrev Yl1Cur : Ty := (.pr (.sl 5 (.int .u8)) YRead)
abbrev Dl1Cur : Type := List Int × DRead
abbrev YboundsError : Ty := (.pr (.int .i64) (.pr (.int .i64) (.pr .bool (.int .u8))))
abbrev DboundsError : Type := Int × (Int × (Bool × Int))
abbrev YSink : Ty := (.pr .str (.pr (.sl 3 (.int .i64)) YRead))
abbrev DSink : Type := ByteArray × (List Int × DRead)
abbrev YEvent : Ty := (.pr (.int .i64) (.pr (.int .i64) (.pr (.int .u64) (.pr (.int .i64) (.pr .str YRead)))))
abbrev DEvent : Type := Int × (Int × (Int × (Int × (ByteArray × DRead))))
abbrev YlEvent : Ty := YEvent
abbrev DlEvent : Type := DEvent
abbrev YlRead : Ty := YRead
abbrev DlRead : Type := DRead
abbrev YlSink : Ty := YSink
abbrev DlSink : Type := DSink
end Go.Proofs.YtecdmnmedipjmaaT
