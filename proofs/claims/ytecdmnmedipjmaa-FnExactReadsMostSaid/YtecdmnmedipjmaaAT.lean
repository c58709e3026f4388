/- Typed twins of the program's functions, and that they answer as the functions do. It states nothing by itself. -/
import Derived.Test.YtecdmnmedipjmaaProg
import Derived.Test.YtecdmnmedipjmaaE1
namespace Go.Proofs.YtecdmnmedipjmaaT
open Go.Proofs Go.Proofs.YtecdmnmedipjmaaEv
set_option maxRecDepth 100000
set_option linter.unusedVariables false
theorem mixed : Try.prog.follows .mixedOrders = true := by kernel_rfl
abbrev YerrorAddressString : Ty := (.pr .str (.int .u64))
abbrev YRead : Ty := (.pr (.int .i64) (.int .i64))
abbrev Yl1Cur : Ty := (.pr (.sl 5 (.int .u8)) YRead)
abbrev YboundsError : Ty := (.pr (.int .i64) (.pr (.int .i64) (.pr .bool (.int .u8))))
abbrev YSink : Ty := (.pr .str (.pr (.sl 3 (.int .i64)) YRead))
abbrev YEvent : Ty := (.pr (.int .i64) (.pr (.int .i64) (.pr (.int .u64) (.pr (.int .i64) (.pr .str YRead)))))
abbrev YlEvent : Ty := YEvent
abbrev YlRead : Ty := YRead
abbrev YlSink : Ty := YSink
end Go.Proofs.YtecdmnmedipjmaaT
