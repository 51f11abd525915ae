/- The seat's functions as the machine's: each is what the machine's own turning of the program's function gives. Printed by a program. -/
import Derived.Test.YtfhijkapcdmdnaaFns0
import Derived.Test.YtfhijkapcdmdnaaProg
import Derived.KernelRfl
import Derived.Shelf.Vars
namespace Go.Proofs.Ytfhijkapcdmdnaa
open Go.AM
set_option maxRecDepth 100000
def f3s : List Sh := [(.sl (.st [(.int .i64), (.int .i64)])), (.int .i64)]
def tab : Tab := fun g => match g with
  | 3 => some f3
  | 4 => some f4
  | 5 => some f5
  | 6 => some f6
  | 7 => some f7
  | 8 => some f8
  | 9 => some f9
  | 10 => some f10
  | 11 => some f11
  | 12 => some f12
  | 13 => some f13
  | 14 => some f14
  | 15 => some f15
  | 16 => some f16
  | 17 => some f17
  | 18 => some f18
  | 19 => some f19
  | 20 => some f20
  | 21 => some f21
  | 22 => some f22
  | 23 => some f23
  | _ => none

theorem f3_p (args : List AV) : isPure tab 3 args = imm.immL args := rfl
theorem f4_p (args : List AV) : isPure tab 4 args = imm.immL args := rfl
theorem f5_p (args : List AV) : isPure tab 5 args = imm.immL args := rfl
theorem f6_p (args : List AV) : isPure tab 6 args = imm.immL args := rfl
theorem f7_p (args : List AV) : isPure tab 7 args = imm.immL args := rfl
theorem f8_p (args : List AV) : isPure tab 8 args = imm.immL args := rfl
theorem f9_p (args : List AV) : isPure tab 9 args = imm.immL args := rfl
theorem f11_p (args : List AV) : isPure tab 11 args = imm.immL args := rfl
theorem f12_p (args : List AV) : isPure tab 12 args = imm.immL args := rfl
theorem f13_p (args : List AV) : isPure tab 13 args = imm.immL args := rfl
theorem f14_p (args : List AV) : isPure tab 14 args = imm.immL args := rfl
theorem f15_p (args : List AV) : isPure tab 15 args = imm.immL args := rfl
theorem f16_p (args : List AV) : isPure tab 16 args = imm.immL args := rfl
theorem f17_p (args : List AV) : isPure tab 17 args = imm.immL args := rfl
theorem f18_p (args : List AV) : isPure tab 18 args = imm.immL args := rfl
theorem f19_p (args : List AV) : isPure tab 19 args = imm.immL args := rfl
theorem f20_p (args : List AV) : isPure tab 20 args = imm.immL args := rfl
theorem f21_p (args : List AV) : isPure tab 21 args = imm.immL args := rfl
theorem f22_p (args : List AV) : isPure tab 22 args = imm.immL args := rfl
theorem f23_p (args : List AV) : isPure tab 23 args = imm.immL args := rfl
theorem f3_eq : ∃ fn, Try.prog.funcs[3]? = some fn ∧ compF Try.prog G f3v f3k f3.mode fn = some f3 := ⟨Try.f3, Try.func3, by kernel_rfl⟩
theorem f4_eq : ∃ fn, Try.prog.funcs[4]? = some fn ∧ compF Try.prog G f4v f4k f4.mode fn = some f4 := ⟨Try.f4, Try.func4, by kernel_rfl⟩
theorem f5_eq : ∃ fn, Try.prog.funcs[5]? = some fn ∧ compF Try.prog G f5v f5k f5.mode fn = some f5 := ⟨Try.f5, Try.func5, by kernel_rfl⟩
theorem f6_eq : ∃ fn, Try.prog.funcs[6]? = some fn ∧ compF Try.prog G f6v f6k f6.mode fn = some f6 := ⟨Try.f6, Try.func6, by kernel_rfl⟩
theorem f7_eq : ∃ fn, Try.prog.funcs[7]? = some fn ∧ compF Try.prog G f7v f7k f7.mode fn = some f7 := ⟨Try.f7, Try.func7, by kernel_rfl⟩
theorem f8_eq : ∃ fn, Try.prog.funcs[8]? = some fn ∧ compF Try.prog G f8v f8k f8.mode fn = some f8 := ⟨Try.f8, Try.func8, by kernel_rfl⟩
theorem f9_eq : ∃ fn, Try.prog.funcs[9]? = some fn ∧ compF Try.prog G f9v f9k f9.mode fn = some f9 := ⟨Try.f9, Try.func9, by kernel_rfl⟩
theorem f10_eq : ∃ fn, Try.prog.funcs[10]? = some fn ∧ compF Try.prog G f10v f10k f10.mode fn = some f10 := ⟨Try.f10, Try.func10, by kernel_rfl⟩
theorem f11_eq : ∃ fn, Try.prog.funcs[11]? = some fn ∧ compF Try.prog G f11v f11k f11.mode fn = some f11 := ⟨Try.f11, Try.func11, by kernel_rfl⟩
theorem f12_eq : ∃ fn, Try.prog.funcs[12]? = some fn ∧ compF Try.prog G f12v f12k f12.mode fn = some f12 := ⟨Try.f12, Try.func12, by kernel_rfl⟩
theorem f13_eq : ∃ fn, Try.prog.funcs[13]? = some fn ∧ compF Try.prog G f13v f13k f13.mode fn = some f13 := ⟨Try.f13, Try.func13, by kernel_rfl⟩
theorem f14_eq : ∃ fn, Try.prog.funcs[14]? = some fn ∧ compF Try.prog G f14v f14k f14.mode fn = some f14 := ⟨Try.f14, Try.func14, by kernel_rfl⟩
theorem f15_eq : ∃ fn, Try.prog.funcs[15]? = some fn ∧ compF Try.prog G f15v f15k f15.mode fn = some f15 := ⟨Try.f15, Try.func15, by kernel_rfl⟩
theorem f16_eq : ∃ fn, Try.prog.funcs[16]? = some fn ∧ compF Try.prog G f16v f16k f16.mode fn = some f16 := ⟨Try.f16, Try.func16, by kernel_rfl⟩
theorem f17_eq : ∃ fn, Try.prog.funcs[17]? = some fn ∧ compF Try.prog G f17v f17k f17.mode fn = some f17 := ⟨Try.f17, Try.func17, by kernel_rfl⟩
theorem f18_eq : ∃ fn, Try.prog.funcs[18]? = some fn ∧ compF Try.prog G f18v f18k f18.mode fn = some f18 := ⟨Try.f18, Try.func18, by kernel_rfl⟩
theorem f19_eq : ∃ fn, Try.prog.funcs[19]? = some fn ∧ compF Try.prog G f19v f19k f19.mode fn = some f19 := ⟨Try.f19, Try.func19, by kernel_rfl⟩
theorem f20_eq : ∃ fn, Try.prog.funcs[20]? = some fn ∧ compF Try.prog G f20v f20k f20.mode fn = some f20 := ⟨Try.f20, Try.func20, by kernel_rfl⟩
theorem f21_eq : ∃ fn, Try.prog.funcs[21]? = some fn ∧ compF Try.prog G f21v f21k f21.mode fn = some f21 := ⟨Try.f21, Try.func21, by kernel_rfl⟩
theorem f22_eq : ∃ fn, Try.prog.funcs[22]? = some fn ∧ compF Try.prog G f22v f22k f22.mode fn = some f22 := ⟨Try.f22, Try.func22, by kernel_rfl⟩
theorem f23_eq : ∃ fn, Try.prog.funcs[23]? = some fn ∧ compF Try.prog G f23v f23k f23.mode fn = some f23 := ⟨Try.f23, Try.func23, by kernel_rfl⟩

theorem tab_ok : TabOK Try.prog G tab := by
  intro g f h
  unfold tab at h
  split at h
  · cases h; obtain ⟨fn, h1, h2⟩ := f3_eq; exact .inl ⟨fn, _, _, h1, h2⟩
  · cases h; obtain ⟨fn, h1, h2⟩ := f4_eq; exact .inl ⟨fn, _, _, h1, h2⟩
  · cases h; obtain ⟨fn, h1, h2⟩ := f5_eq; exact .inl ⟨fn, _, _, h1, h2⟩
  · cases h; obtain ⟨fn, h1, h2⟩ := f6_eq; exact .inl ⟨fn, _, _, h1, h2⟩
  · cases h; obtain ⟨fn, h1, h2⟩ := f7_eq; exact .inl ⟨fn, _, _, h1, h2⟩
  · cases h; obtain ⟨fn, h1, h2⟩ := f8_eq; exact .inl ⟨fn, _, _, h1, h2⟩
  · cases h; obtain ⟨fn, h1, h2⟩ := f9_eq; exact .inl ⟨fn, _, _, h1, h2⟩
  · cases h; obtain ⟨fn, h1, h2⟩ := f10_eq; exact .inl ⟨fn, _, _, h1, h2⟩
  · cases h; obtain ⟨fn, h1, h2⟩ := f11_eq; exact .inl ⟨fn, _, _, h1, h2⟩
  · cases h; obtain ⟨fn, h1, h2⟩ := f12_eq; exact .inl ⟨fn, _, _, h1, h2⟩
  · cases h; obtain ⟨fn, h1, h2⟩ := f13_eq; exact .inl ⟨fn, _, _, h1, h2⟩
  · cases h; obtain ⟨fn, h1, h2⟩ := f14_eq; exact .inl ⟨fn, _, _, h1, h2⟩
  · cases h; obtain ⟨fn, h1, h2⟩ := f15_eq; exact .inl ⟨fn, _, _, h1, h2⟩
  · cases h; obtain ⟨fn, h1, h2⟩ := f16_eq; exact .inl ⟨fn, _, _, h1, h2⟩
  · cases h; obtain ⟨fn, h1, h2⟩ := f17_eq; exact .inl ⟨fn, _, _, h1, h2⟩
  · cases h; obtain ⟨fn, h1, h2⟩ := f18_eq; exact .inl ⟨fn, _, _, h1, h2⟩
  · cases h; obtain ⟨fn, h1, h2⟩ := f19_eq; exact .inl ⟨fn, _, _, h1, h2⟩
  · cases h; obtain ⟨fn, h1, h2⟩ := f20_eq; exact .inl ⟨fn, _, _, h1, h2⟩
  · cases h; obtain ⟨fn, h1, h2⟩ := f21_eq; exact .inl ⟨fn, _, _, h1, h2⟩
  · cases h; obtain ⟨fn, h1, h2⟩ := f22_eq; exact .inl ⟨fn, _, _, h1, h2⟩
  · cases h; obtain ⟨fn, h1, h2⟩ := f23_eq; exact .inl ⟨fn, _, _, h1, h2⟩
  · cases h
theorem follows : Try.prog.follows .mixedOrders = true := by kernel_rfl
end Go.Proofs.Ytfhijkapcdmdnaa
