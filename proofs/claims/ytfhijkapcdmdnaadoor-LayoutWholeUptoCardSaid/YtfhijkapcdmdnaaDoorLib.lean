/- The library's functions that the seat calls, told by the shelf's contracts. -/
import Derived.Test.YtfhijkapcdmdnaaDoorGlob
import Derived.Test.YtfhijkapcdmdnaaDoorAmX
import Derived.Test.YtfhijkapcdmdnaaDoorShelf
namespace Go.Proofs.YtfhijkapcdmdnaaDoor
open Go.AM Go.Proofs
set_option maxRecDepth 100000
theorem spec_75 : SpecOK Tryd.prog G 75 libTrim := spec_trim ⟨Tryd.f75, Tryd.func75, by kernel_rfl, by kernel_rfl⟩ (Any.strings_Trim_laid Tryd.lays160 (by kernel_rfl))
end Go.Proofs.YtfhijkapcdmdnaaDoor
