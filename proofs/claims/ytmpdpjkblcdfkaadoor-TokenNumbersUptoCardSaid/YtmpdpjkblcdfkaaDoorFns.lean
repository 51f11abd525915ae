/- The seat's functions as the machine's: each is what the machine's own turning of the program's function gives. Printed by a program. -/
import Derived.Test.YtmpdpjkblcdfkaaDoorFns0
import Derived.Test.YtmpdpjkblcdfkaaDoorProg
import Derived.KernelRfl
import Derived.Shelf.Vars
namespace Go.Proofs.YtmpdpjkblcdfkaaDoor
open Go.AM
set_option maxRecDepth 100000
def f3s : List Sh := [.str, (.int .i64)]
def f4s : List Sh := [(.sl (.st [(.int .i64), .str, (.int .i64), (.st [(.int .i64), (.int .i64), (.int .i64)])]))]
def f5s : List Sh := [.str, (.sl (.int .u8))]
def f6s : List Sh := [.str]
def f7s : List Sh := [.str, .str]
def f8s : List Sh := [(.int .u32)]
/-! 28: strings.Join: told by its contract -/
def f28 : AFn := ⟨2, 0, [], .stuck, 1, some libJoin⟩
theorem f28_p (A : Tab) (args : List AV) (h : A 28 = some f28) : isPure A 28 args = imm.immL args := by simp [isPure, h, f28]
/-! 61: strings.TrimRight: told by its contract -/
def f61 : AFn := ⟨2, 0, [], .stuck, 1, some libTrimRight⟩
theorem f61_p (A : Tab) (args : List AV) (h : A 61 = some f61) : isPure A 61 args = imm.immL args := by simp [isPure, h, f61]
/-! 37: strings.Index: told by its contract -/
def f37 : AFn := ⟨2, 0, [], .stuck, 1, some libIndex⟩
theorem f37_p (A : Tab) (args : List AV) (h : A 37 = some f37) : isPure A 37 args = imm.immL args := by simp [isPure, h, f37]
/-! 54: strconv.Itoa: told by its contract -/
def f54 : AFn := ⟨1, 0, [], .stuck, 1, some libItoa⟩
theorem f54_p (A : Tab) (args : List AV) (h : A 54 = some f54) : isPure A 54 args = imm.immL args := by simp [isPure, h, f54]
def tab : Tab := fun g => match g with
  | 28 => some f28
  | 61 => some f61
  | 37 => some f37
  | 54 => some f54
  | 3 => some f3
  | 4 => some f4
  | 5 => some f5
  | 6 => some f6
  | 7 => some f7
  | 8 => some f8
  | 9 => some f9
  | 10 => some f10
  | 11 => some f11
  | 12 => some f12
  | 13 => some f13
  | 14 => some f14
  | 15 => some f15
  | 16 => some f16
  | 17 => some f17
  | 18 => some f18
  | 19 => some f19
  | 20 => some f20
  | 21 => some f21
  | 22 => some f22
  | 23 => some f23
  | 24 => some f24
  | 25 => some f25
  | 26 => some f26
  | 27 => some f27
  | 29 => some f29
  | 30 => some f30
  | 31 => some f31
  | 32 => some f32
  | 33 => some f33
  | 34 => some f34
  | 35 => some f35
  | 38 => some f38
  | 39 => some f39
  | 43 => some f43
  | 44 => some f44
  | 45 => some f45
  | 46 => some f46
  | 47 => some f47
  | 48 => some f48
  | 49 => some f49
  | 50 => some f50
  | 51 => some f51
  | 52 => some f52
  | 53 => some f53
  | 55 => some f55
  | 59 => some f59
  | 60 => some f60
  | 62 => some f62
  | 63 => some f63
  | 64 => some f64
  | 65 => some f65
  | 66 => some f66
  | 78 => some f78
  | 79 => some f79
  | _ => none

theorem f3_p (args : List AV) : isPure tab 3 args = imm.immL args := rfl
theorem f4_p (args : List AV) : isPure tab 4 args = imm.immL args := rfl
theorem f5_p (args : List AV) : isPure tab 5 args = imm.immL args := rfl
theorem f6_p (args : List AV) : isPure tab 6 args = imm.immL args := rfl
theorem f7_p (args : List AV) : isPure tab 7 args = imm.immL args := rfl
theorem f8_p (args : List AV) : isPure tab 8 args = imm.immL args := rfl
theorem f9_p (args : List AV) : isPure tab 9 args = imm.immL args := rfl
theorem f10_p (args : List AV) : isPure tab 10 args = imm.immL args := rfl
theorem f11_p (args : List AV) : isPure tab 11 args = imm.immL args := rfl
theorem f12_p (args : List AV) : isPure tab 12 args = imm.immL args := rfl
theorem f13_p (args : List AV) : isPure tab 13 args = imm.immL args := rfl
theorem f14_p (args : List AV) : isPure tab 14 args = imm.immL args := rfl
theorem f15_p (args : List AV) : isPure tab 15 args = imm.immL args := rfl
theorem f16_p (args : List AV) : isPure tab 16 args = imm.immL args := rfl
theorem f17_p (args : List AV) : isPure tab 17 args = imm.immL args := rfl
theorem f18_p (args : List AV) : isPure tab 18 args = imm.immL args := rfl
theorem f20_p (args : List AV) : isPure tab 20 args = imm.immL args := rfl
theorem f21_p (args : List AV) : isPure tab 21 args = imm.immL args := rfl
theorem f22_p (args : List AV) : isPure tab 22 args = imm.immL args := rfl
theorem f23_p (args : List AV) : isPure tab 23 args = imm.immL args := rfl
theorem f24_p (args : List AV) : isPure tab 24 args = imm.immL args := rfl
theorem f25_p (args : List AV) : isPure tab 25 args = imm.immL args := rfl
theorem f26_p (args : List AV) : isPure tab 26 args = imm.immL args := rfl
theorem f27_p (args : List AV) : isPure tab 27 args = imm.immL args := rfl
theorem f29_p (args : List AV) : isPure tab 29 args = imm.immL args := rfl
theorem f30_p (args : List AV) : isPure tab 30 args = imm.immL args := rfl
theorem f31_p (args : List AV) : isPure tab 31 args = imm.immL args := rfl
theorem f32_p (args : List AV) : isPure tab 32 args = imm.immL args := rfl
theorem f33_p (args : List AV) : isPure tab 33 args = imm.immL args := rfl
theorem f34_p (args : List AV) : isPure tab 34 args = imm.immL args := rfl
theorem f35_p (args : List AV) : isPure tab 35 args = imm.immL args := rfl
theorem f38_p (args : List AV) : isPure tab 38 args = imm.immL args := rfl
theorem f39_p (args : List AV) : isPure tab 39 args = imm.immL args := rfl
theorem f43_p (args : List AV) : isPure tab 43 args = imm.immL args := rfl
theorem f44_p (args : List AV) : isPure tab 44 args = imm.immL args := rfl
theorem f45_p (args : List AV) : isPure tab 45 args = imm.immL args := rfl
theorem f46_p (args : List AV) : isPure tab 46 args = imm.immL args := rfl
theorem f47_p (args : List AV) : isPure tab 47 args = imm.immL args := rfl
theorem f48_p (args : List AV) : isPure tab 48 args = imm.immL args := rfl
theorem f49_p (args : List AV) : isPure tab 49 args = imm.immL args := rfl
theorem f50_p (args : List AV) : isPure tab 50 args = imm.immL args := rfl
theorem f51_p (args : List AV) : isPure tab 51 args = imm.immL args := rfl
theorem f52_p (args : List AV) : isPure tab 52 args = imm.immL args := rfl
theorem f53_p (args : List AV) : isPure tab 53 args = imm.immL args := rfl
theorem f55_p (args : List AV) : isPure tab 55 args = imm.immL args := rfl
theorem f59_p (args : List AV) : isPure tab 59 args = imm.immL args := rfl
theorem f60_p (args : List AV) : isPure tab 60 args = imm.immL args := rfl
theorem f62_p (args : List AV) : isPure tab 62 args = imm.immL args := rfl
theorem f63_p (args : List AV) : isPure tab 63 args = imm.immL args := rfl
theorem f64_p (args : List AV) : isPure tab 64 args = imm.immL args := rfl
theorem f65_p (args : List AV) : isPure tab 65 args = imm.immL args := rfl
theorem f66_p (args : List AV) : isPure tab 66 args = imm.immL args := rfl
theorem f78_p (args : List AV) : isPure tab 78 args = imm.immL args := rfl
theorem f79_p (args : List AV) : isPure tab 79 args = imm.immL args := rfl
theorem f3_eq : ∃ fn, Tryd.prog.funcs[3]? = some fn ∧ compF Tryd.prog G f3v f3k f3.mode fn = some f3 := ⟨Tryd.f3, Tryd.func3, by kernel_rfl⟩
theorem f4_eq : ∃ fn, Tryd.prog.funcs[4]? = some fn ∧ compF Tryd.prog G f4v f4k f4.mode fn = some f4 := ⟨Tryd.f4, Tryd.func4, by kernel_rfl⟩
theorem f5_eq : ∃ fn, Tryd.prog.funcs[5]? = some fn ∧ compF Tryd.prog G f5v f5k f5.mode fn = some f5 := ⟨Tryd.f5, Tryd.func5, by kernel_rfl⟩
theorem f6_eq : ∃ fn, Tryd.prog.funcs[6]? = some fn ∧ compF Tryd.prog G f6v f6k f6.mode fn = some f6 := ⟨Tryd.f6, Tryd.func6, by kernel_rfl⟩
theorem f7_eq : ∃ fn, Tryd.prog.funcs[7]? = some fn ∧ compF Tryd.prog G f7v f7k f7.mode fn = some f7 := ⟨Tryd.f7, Tryd.func7, by kernel_rfl⟩
theorem f8_eq : ∃ fn, Tryd.prog.funcs[8]? = some fn ∧ compF Tryd.prog G f8v f8k f8.mode fn = some f8 := ⟨Tryd.f8, Tryd.func8, by kernel_rfl⟩
theorem f9_eq : ∃ fn, Tryd.prog.funcs[9]? = some fn ∧ compF Tryd.prog G f9v f9k f9.mode fn = some f9 := ⟨Tryd.f9, Tryd.func9, by kernel_rfl⟩
theorem f10_eq : ∃ fn, Tryd.prog.funcs[10]? = some fn ∧ compF Tryd.prog G f10v f10k f10.mode fn = some f10 := ⟨Tryd.f10, Tryd.func10, by kernel_rfl⟩
theorem f11_eq : ∃ fn, Tryd.prog.funcs[11]? = some fn ∧ compF Tryd.prog G f11v f11k f11.mode fn = some f11 := ⟨Tryd.f11, Tryd.func11, by kernel_rfl⟩
theorem f12_eq : ∃ fn, Tryd.prog.funcs[12]? = some fn ∧ compF Tryd.prog G f12v f12k f12.mode fn = some f12 := ⟨Tryd.f12, Tryd.func12, by kernel_rfl⟩
theorem f13_eq : ∃ fn, Tryd.prog.funcs[13]? = some fn ∧ compF Tryd.prog G f13v f13k f13.mode fn = some f13 := ⟨Tryd.f13, Tryd.func13, by kernel_rfl⟩
theorem f14_eq : ∃ fn, Tryd.prog.funcs[14]? = some fn ∧ compF Tryd.prog G f14v f14k f14.mode fn = some f14 := ⟨Tryd.f14, Tryd.func14, by kernel_rfl⟩
theorem f15_eq : ∃ fn, Tryd.prog.funcs[15]? = some fn ∧ compF Tryd.prog G f15v f15k f15.mode fn = some f15 := ⟨Tryd.f15, Tryd.func15, by kernel_rfl⟩
theorem f16_eq : ∃ fn, Tryd.prog.funcs[16]? = some fn ∧ compF Tryd.prog G f16v f16k f16.mode fn = some f16 := ⟨Tryd.f16, Tryd.func16, by kernel_rfl⟩
theorem f17_eq : ∃ fn, Tryd.prog.funcs[17]? = some fn ∧ compF Tryd.prog G f17v f17k f17.mode fn = some f17 := ⟨Tryd.f17, Tryd.func17, by kernel_rfl⟩
theorem f18_eq : ∃ fn, Tryd.prog.funcs[18]? = some fn ∧ compF Tryd.prog G f18v f18k f18.mode fn = some f18 := ⟨Tryd.f18, Tryd.func18, by kernel_rfl⟩
theorem f19_eq : ∃ fn, Tryd.prog.funcs[19]? = some fn ∧ compF Tryd.prog G f19v f19k f19.mode fn = some f19 := ⟨Tryd.f19, Tryd.func19, by kernel_rfl⟩
theorem f20_eq : ∃ fn, Tryd.prog.funcs[20]? = some fn ∧ compF Tryd.prog G f20v f20k f20.mode fn = some f20 := ⟨Tryd.f20, Tryd.func20, by kernel_rfl⟩
theorem f21_eq : ∃ fn, Tryd.prog.funcs[21]? = some fn ∧ compF Tryd.prog G f21v f21k f21.mode fn = some f21 := ⟨Tryd.f21, Tryd.func21, by kernel_rfl⟩
theorem f22_eq : ∃ fn, Tryd.prog.funcs[22]? = some fn ∧ compF Tryd.prog G f22v f22k f22.mode fn = some f22 := ⟨Tryd.f22, Tryd.func22, by kernel_rfl⟩
theorem f23_eq : ∃ fn, Tryd.prog.funcs[23]? = some fn ∧ compF Tryd.prog G f23v f23k f23.mode fn = some f23 := ⟨Tryd.f23, Tryd.func23, by kernel_rfl⟩
theorem f24_eq : ∃ fn, Tryd.prog.funcs[24]? = some fn ∧ compF Tryd.prog G f24v f24k f24.mode fn = some f24 := ⟨Tryd.f24, Tryd.func24, by kernel_rfl⟩
theorem f25_eq : ∃ fn, Tryd.prog.funcs[25]? = some fn ∧ compF Tryd.prog G f25v f25k f25.mode fn = some f25 := ⟨Tryd.f25, Tryd.func25, by kernel_rfl⟩
theorem f26_eq : ∃ fn, Tryd.prog.funcs[26]? = some fn ∧ compF Tryd.prog G f26v f26k f26.mode fn = some f26 := ⟨Tryd.f26, Tryd.func26, by kernel_rfl⟩
theorem f27_eq : ∃ fn, Tryd.prog.funcs[27]? = some fn ∧ compF Tryd.prog G f27v f27k f27.mode fn = some f27 := ⟨Tryd.f27, Tryd.func27, by kernel_rfl⟩
theorem f29_eq : ∃ fn, Tryd.prog.funcs[29]? = some fn ∧ compF Tryd.prog G f29v f29k f29.mode fn = some f29 := ⟨Tryd.f29, Tryd.func29, by kernel_rfl⟩
theorem f30_eq : ∃ fn, Tryd.prog.funcs[30]? = some fn ∧ compF Tryd.prog G f30v f30k f30.mode fn = some f30 := ⟨Tryd.f30, Tryd.func30, by kernel_rfl⟩
theorem f31_eq : ∃ fn, Tryd.prog.funcs[31]? = some fn ∧ compF Tryd.prog G f31v f31k f31.mode fn = some f31 := ⟨Tryd.f31, Tryd.func31, by kernel_rfl⟩
theorem f32_eq : ∃ fn, Tryd.prog.funcs[32]? = some fn ∧ compF Tryd.prog G f32v f32k f32.mode fn = some f32 := ⟨Tryd.f32, Tryd.func32, by kernel_rfl⟩
theorem f33_eq : ∃ fn, Tryd.prog.funcs[33]? = some fn ∧ compF Tryd.prog G f33v f33k f33.mode fn = some f33 := ⟨Tryd.f33, Tryd.func33, by kernel_rfl⟩
theorem f34_eq : ∃ fn, Tryd.prog.funcs[34]? = some fn ∧ compF Tryd.prog G f34v f34k f34.mode fn = some f34 := ⟨Tryd.f34, Tryd.func34, by kernel_rfl⟩
theorem f35_eq : ∃ fn, Tryd.prog.funcs[35]? = some fn ∧ compF Tryd.prog G f35v f35k f35.mode fn = some f35 := ⟨Tryd.f35, Tryd.func35, by kernel_rfl⟩
theorem f38_eq : ∃ fn, Tryd.prog.funcs[38]? = some fn ∧ compF Tryd.prog G f38v f38k f38.mode fn = some f38 := ⟨Tryd.f38, Tryd.func38, by kernel_rfl⟩
theorem f39_eq : ∃ fn, Tryd.prog.funcs[39]? = some fn ∧ compF Tryd.prog G f39v f39k f39.mode fn = some f39 := ⟨Tryd.f39, Tryd.func39, by kernel_rfl⟩
theorem f43_eq : ∃ fn, Tryd.prog.funcs[43]? = some fn ∧ compF Tryd.prog G f43v f43k f43.mode fn = some f43 := ⟨Tryd.f43, Tryd.func43, by kernel_rfl⟩
theorem f44_eq : ∃ fn, Tryd.prog.funcs[44]? = some fn ∧ compF Tryd.prog G f44v f44k f44.mode fn = some f44 := ⟨Tryd.f44, Tryd.func44, by kernel_rfl⟩
theorem f45_eq : ∃ fn, Tryd.prog.funcs[45]? = some fn ∧ compF Tryd.prog G f45v f45k f45.mode fn = some f45 := ⟨Tryd.f45, Tryd.func45, by kernel_rfl⟩
theorem f46_eq : ∃ fn, Tryd.prog.funcs[46]? = some fn ∧ compF Tryd.prog G f46v f46k f46.mode fn = some f46 := ⟨Tryd.f46, Tryd.func46, by kernel_rfl⟩
theorem f47_eq : ∃ fn, Tryd.prog.funcs[47]? = some fn ∧ compF Tryd.prog G f47v f47k f47.mode fn = some f47 := ⟨Tryd.f47, Tryd.func47, by kernel_rfl⟩
theorem f48_eq : ∃ fn, Tryd.prog.funcs[48]? = some fn ∧ compF Tryd.prog G f48v f48k f48.mode fn = some f48 := ⟨Tryd.f48, Tryd.func48, by kernel_rfl⟩
theorem f49_eq : ∃ fn, Tryd.prog.funcs[49]? = some fn ∧ compF Tryd.prog G f49v f49k f49.mode fn = some f49 := ⟨Tryd.f49, Tryd.func49, by kernel_rfl⟩
theorem f50_eq : ∃ fn, Tryd.prog.funcs[50]? = some fn ∧ compF Tryd.prog G f50v f50k f50.mode fn = some f50 := ⟨Tryd.f50, Tryd.func50, by kernel_rfl⟩
theorem f51_eq : ∃ fn, Tryd.prog.funcs[51]? = some fn ∧ compF Tryd.prog G f51v f51k f51.mode fn = some f51 := ⟨Tryd.f51, Tryd.func51, by kernel_rfl⟩
theorem f52_eq : ∃ fn, Tryd.prog.funcs[52]? = some fn ∧ compF Tryd.prog G f52v f52k f52.mode fn = some f52 := ⟨Tryd.f52, Tryd.func52, by kernel_rfl⟩
theorem f53_eq : ∃ fn, Tryd.prog.funcs[53]? = some fn ∧ compF Tryd.prog G f53v f53k f53.mode fn = some f53 := ⟨Tryd.f53, Tryd.func53, by kernel_rfl⟩
theorem f55_eq : ∃ fn, Tryd.prog.funcs[55]? = some fn ∧ compF Tryd.prog G f55v f55k f55.mode fn = some f55 := ⟨Tryd.f55, Tryd.func55, by kernel_rfl⟩
theorem f59_eq : ∃ fn, Tryd.prog.funcs[59]? = some fn ∧ compF Tryd.prog G f59v f59k f59.mode fn = some f59 := ⟨Tryd.f59, Tryd.func59, by kernel_rfl⟩
theorem f60_eq : ∃ fn, Tryd.prog.funcs[60]? = some fn ∧ compF Tryd.prog G f60v f60k f60.mode fn = some f60 := ⟨Tryd.f60, Tryd.func60, by kernel_rfl⟩
theorem f62_eq : ∃ fn, Tryd.prog.funcs[62]? = some fn ∧ compF Tryd.prog G f62v f62k f62.mode fn = some f62 := ⟨Tryd.f62, Tryd.func62, by kernel_rfl⟩
theorem f63_eq : ∃ fn, Tryd.prog.funcs[63]? = some fn ∧ compF Tryd.prog G f63v f63k f63.mode fn = some f63 := ⟨Tryd.f63, Tryd.func63, by kernel_rfl⟩
theorem f64_eq : ∃ fn, Tryd.prog.funcs[64]? = some fn ∧ compF Tryd.prog G f64v f64k f64.mode fn = some f64 := ⟨Tryd.f64, Tryd.func64, by kernel_rfl⟩
theorem f65_eq : ∃ fn, Tryd.prog.funcs[65]? = some fn ∧ compF Tryd.prog G f65v f65k f65.mode fn = some f65 := ⟨Tryd.f65, Tryd.func65, by kernel_rfl⟩
theorem f66_eq : ∃ fn, Tryd.prog.funcs[66]? = some fn ∧ compF Tryd.prog G f66v f66k f66.mode fn = some f66 := ⟨Tryd.f66, Tryd.func66, by kernel_rfl⟩
theorem f78_eq : ∃ fn, Tryd.prog.funcs[78]? = some fn ∧ compF Tryd.prog G f78v f78k f78.mode fn = some f78 := ⟨Tryd.f78, Tryd.func78, by kernel_rfl⟩
theorem f79_eq : ∃ fn, Tryd.prog.funcs[79]? = some fn ∧ compF Tryd.prog G f79v f79k f79.mode fn = some f79 := ⟨Tryd.f79, Tryd.func79, by kernel_rfl⟩

theorem tab_ok : TabOK Tryd.prog G tab := by
  intro g f h
  unfold tab at h
  split at h
  · cases h; exact .inr ⟨libJoin, rfl, rfl, spec_28⟩
  · cases h; exact .inr ⟨libTrimRight, rfl, rfl, spec_61⟩
  · cases h; exact .inr ⟨libIndex, rfl, rfl, spec_37⟩
  · cases h; exact .inr ⟨libItoa, rfl, rfl, spec_54⟩
  · cases h; obtain ⟨fn, h1, h2⟩ := f3_eq; exact .inl ⟨fn, _, _, h1, h2⟩
  · cases h; obtain ⟨fn, h1, h2⟩ := f4_eq; exact .inl ⟨fn, _, _, h1, h2⟩
  · cases h; obtain ⟨fn, h1, h2⟩ := f5_eq; exact .inl ⟨fn, _, _, h1, h2⟩
  · cases h; obtain ⟨fn, h1, h2⟩ := f6_eq; exact .inl ⟨fn, _, _, h1, h2⟩
  · cases h; obtain ⟨fn, h1, h2⟩ := f7_eq; exact .inl ⟨fn, _, _, h1, h2⟩
  · cases h; obtain ⟨fn, h1, h2⟩ := f8_eq; exact .inl ⟨fn, _, _, h1, h2⟩
  · cases h; obtain ⟨fn, h1, h2⟩ := f9_eq; exact .inl ⟨fn, _, _, h1, h2⟩
  · cases h; obtain ⟨fn, h1, h2⟩ := f10_eq; exact .inl ⟨fn, _, _, h1, h2⟩
  · cases h; obtain ⟨fn, h1, h2⟩ := f11_eq; exact .inl ⟨fn, _, _, h1, h2⟩
  · cases h; obtain ⟨fn, h1, h2⟩ := f12_eq; exact .inl ⟨fn, _, _, h1, h2⟩
  · cases h; obtain ⟨fn, h1, h2⟩ := f13_eq; exact .inl ⟨fn, _, _, h1, h2⟩
  · cases h; obtain ⟨fn, h1, h2⟩ := f14_eq; exact .inl ⟨fn, _, _, h1, h2⟩
  · cases h; obtain ⟨fn, h1, h2⟩ := f15_eq; exact .inl ⟨fn, _, _, h1, h2⟩
  · cases h; obtain ⟨fn, h1, h2⟩ := f16_eq; exact .inl ⟨fn, _, _, h1, h2⟩
  · cases h; obtain ⟨fn, h1, h2⟩ := f17_eq; exact .inl ⟨fn, _, _, h1, h2⟩
  · cases h; obtain ⟨fn, h1, h2⟩ := f18_eq; exact .inl ⟨fn, _, _, h1, h2⟩
  · cases h; obtain ⟨fn, h1, h2⟩ := f19_eq; exact .inl ⟨fn, _, _, h1, h2⟩
  · cases h; obtain ⟨fn, h1, h2⟩ := f20_eq; exact .inl ⟨fn, _, _, h1, h2⟩
  · cases h; obtain ⟨fn, h1, h2⟩ := f21_eq; exact .inl ⟨fn, _, _, h1, h2⟩
  · cases h; obtain ⟨fn, h1, h2⟩ := f22_eq; exact .inl ⟨fn, _, _, h1, h2⟩
  · cases h; obtain ⟨fn, h1, h2⟩ := f23_eq; exact .inl ⟨fn, _, _, h1, h2⟩
  · cases h; obtain ⟨fn, h1, h2⟩ := f24_eq; exact .inl ⟨fn, _, _, h1, h2⟩
  · cases h; obtain ⟨fn, h1, h2⟩ := f25_eq; exact .inl ⟨fn, _, _, h1, h2⟩
  · cases h; obtain ⟨fn, h1, h2⟩ := f26_eq; exact .inl ⟨fn, _, _, h1, h2⟩
  · cases h; obtain ⟨fn, h1, h2⟩ := f27_eq; exact .inl ⟨fn, _, _, h1, h2⟩
  · cases h; obtain ⟨fn, h1, h2⟩ := f29_eq; exact .inl ⟨fn, _, _, h1, h2⟩
  · cases h; obtain ⟨fn, h1, h2⟩ := f30_eq; exact .inl ⟨fn, _, _, h1, h2⟩
  · cases h; obtain ⟨fn, h1, h2⟩ := f31_eq; exact .inl ⟨fn, _, _, h1, h2⟩
  · cases h; obtain ⟨fn, h1, h2⟩ := f32_eq; exact .inl ⟨fn, _, _, h1, h2⟩
  · cases h; obtain ⟨fn, h1, h2⟩ := f33_eq; exact .inl ⟨fn, _, _, h1, h2⟩
  · cases h; obtain ⟨fn, h1, h2⟩ := f34_eq; exact .inl ⟨fn, _, _, h1, h2⟩
  · cases h; obtain ⟨fn, h1, h2⟩ := f35_eq; exact .inl ⟨fn, _, _, h1, h2⟩
  · cases h; obtain ⟨fn, h1, h2⟩ := f38_eq; exact .inl ⟨fn, _, _, h1, h2⟩
  · cases h; obtain ⟨fn, h1, h2⟩ := f39_eq; exact .inl ⟨fn, _, _, h1, h2⟩
  · cases h; obtain ⟨fn, h1, h2⟩ := f43_eq; exact .inl ⟨fn, _, _, h1, h2⟩
  · cases h; obtain ⟨fn, h1, h2⟩ := f44_eq; exact .inl ⟨fn, _, _, h1, h2⟩
  · cases h; obtain ⟨fn, h1, h2⟩ := f45_eq; exact .inl ⟨fn, _, _, h1, h2⟩
  · cases h; obtain ⟨fn, h1, h2⟩ := f46_eq; exact .inl ⟨fn, _, _, h1, h2⟩
  · cases h; obtain ⟨fn, h1, h2⟩ := f47_eq; exact .inl ⟨fn, _, _, h1, h2⟩
  · cases h; obtain ⟨fn, h1, h2⟩ := f48_eq; exact .inl ⟨fn, _, _, h1, h2⟩
  · cases h; obtain ⟨fn, h1, h2⟩ := f49_eq; exact .inl ⟨fn, _, _, h1, h2⟩
  · cases h; obtain ⟨fn, h1, h2⟩ := f50_eq; exact .inl ⟨fn, _, _, h1, h2⟩
  · cases h; obtain ⟨fn, h1, h2⟩ := f51_eq; exact .inl ⟨fn, _, _, h1, h2⟩
  · cases h; obtain ⟨fn, h1, h2⟩ := f52_eq; exact .inl ⟨fn, _, _, h1, h2⟩
  · cases h; obtain ⟨fn, h1, h2⟩ := f53_eq; exact .inl ⟨fn, _, _, h1, h2⟩
  · cases h; obtain ⟨fn, h1, h2⟩ := f55_eq; exact .inl ⟨fn, _, _, h1, h2⟩
  · cases h; obtain ⟨fn, h1, h2⟩ := f59_eq; exact .inl ⟨fn, _, _, h1, h2⟩
  · cases h; obtain ⟨fn, h1, h2⟩ := f60_eq; exact .inl ⟨fn, _, _, h1, h2⟩
  · cases h; obtain ⟨fn, h1, h2⟩ := f62_eq; exact .inl ⟨fn, _, _, h1, h2⟩
  · cases h; obtain ⟨fn, h1, h2⟩ := f63_eq; exact .inl ⟨fn, _, _, h1, h2⟩
  · cases h; obtain ⟨fn, h1, h2⟩ := f64_eq; exact .inl ⟨fn, _, _, h1, h2⟩
  · cases h; obtain ⟨fn, h1, h2⟩ := f65_eq; exact .inl ⟨fn, _, _, h1, h2⟩
  · cases h; obtain ⟨fn, h1, h2⟩ := f66_eq; exact .inl ⟨fn, _, _, h1, h2⟩
  · cases h; obtain ⟨fn, h1, h2⟩ := f78_eq; exact .inl ⟨fn, _, _, h1, h2⟩
  · cases h; obtain ⟨fn, h1, h2⟩ := f79_eq; exact .inl ⟨fn, _, _, h1, h2⟩
  · cases h
theorem follows : Tryd.prog.follows .mixedOrders = true := by kernel_rfl
end Go.Proofs.YtmpdpjkblcdfkaaDoor
