/- The library's functions that the seat calls, told by the shelf's contracts. -/
import Derived.Test.YtmpdpjkblcdfkaaDoorGlob
import Derived.Test.YtmpdpjkblcdfkaaDoorAmX
import Derived.Test.YtmpdpjkblcdfkaaDoorShelf
namespace Go.Proofs.YtmpdpjkblcdfkaaDoor
open Go.AM Go.Proofs
set_option maxRecDepth 100000
theorem spec_28 : SpecOK Tryd.prog G 28 libJoin := spec_join ⟨Tryd.f28, Tryd.func28, by kernel_rfl, by kernel_rfl⟩ Tryd.strings_Join_none Tryd.strings_Join
theorem spec_61 : SpecOK Tryd.prog G 61 libTrimRight := spec_trimRight ⟨Tryd.f61, Tryd.func61, by kernel_rfl, by kernel_rfl⟩ (Any.strings_TrimRight_laid Tryd.lays162 (by kernel_rfl))
theorem spec_37 : SpecOK Tryd.prog G 37 libIndex := spec_index ⟨Tryd.f37, Tryd.func37, by kernel_rfl, by kernel_rfl⟩ (by simp [G]) Tryd.strings_Index
theorem spec_54 : SpecOK Tryd.prog G 54 libItoa := spec_itoa ⟨Tryd.f54, Tryd.func54, by kernel_rfl, by kernel_rfl⟩ (y := 1) (by kernel_rfl) (by kernel_rfl) Tryd.strconv_Itoa
end Go.Proofs.YtmpdpjkblcdfkaaDoor
