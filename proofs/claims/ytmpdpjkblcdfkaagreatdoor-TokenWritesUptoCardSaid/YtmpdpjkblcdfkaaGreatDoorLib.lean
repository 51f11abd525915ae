/- The library's functions that the seat calls, told by the shelf's contracts. -/
import Derived.Test.YtmpdpjkblcdfkaaGreatDoorGlob
import Derived.Test.YtmpdpjkblcdfkaaGreatDoorAmX
import Derived.Test.YtmpdpjkblcdfkaaGreatDoorShelf
namespace Go.Proofs.YtmpdpjkblcdfkaaGreatDoor
open Go.AM Go.Proofs
set_option maxRecDepth 100000
theorem spec_27 : SpecOK Tryz.prog G 27 libJoin := spec_join ⟨Tryz.f27, Tryz.func27, by kernel_rfl, by kernel_rfl⟩ Tryz.strings_Join_none Tryz.strings_Join
theorem spec_59 : SpecOK Tryz.prog G 59 libTrimRight := spec_trimRight ⟨Tryz.f59, Tryz.func59, by kernel_rfl, by kernel_rfl⟩ (Any.strings_TrimRight_laid Tryz.lays162 (by kernel_rfl))
theorem spec_30 : SpecOK Tryz.prog G 30 libIndex := spec_index ⟨Tryz.f30, Tryz.func30, by kernel_rfl, by kernel_rfl⟩ (by simp [G]) Tryz.strings_Index
theorem spec_25 : SpecOK Tryz.prog G 25 libItoa := spec_itoa ⟨Tryz.f25, Tryz.func25, by kernel_rfl, by kernel_rfl⟩ (y := 1) (by kernel_rfl) (by kernel_rfl) Tryz.strconv_Itoa
end Go.Proofs.YtmpdpjkblcdfkaaGreatDoor
