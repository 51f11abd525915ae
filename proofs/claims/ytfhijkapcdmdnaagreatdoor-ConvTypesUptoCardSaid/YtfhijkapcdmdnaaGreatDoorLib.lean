/- The library's functions that the seat calls, told by the shelf's contracts. -/
import Derived.Test.YtfhijkapcdmdnaaGreatDoorGlob
import Derived.Test.YtfhijkapcdmdnaaGreatDoorAmX
import Derived.Test.YtfhijkapcdmdnaaGreatDoorShelf
namespace Go.Proofs.YtfhijkapcdmdnaaGreatDoor
open Go.AM Go.Proofs
set_option maxRecDepth 100000
theorem spec_136 : SpecOK Tryz.prog G 136 libTrim := spec_trim ⟨Tryz.f136, Tryz.func136, by kernel_rfl, by kernel_rfl⟩ (Any.strings_Trim_laid Tryz.lays160 (by kernel_rfl))
end Go.Proofs.YtfhijkapcdmdnaaGreatDoor
