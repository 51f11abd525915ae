/- The seat's functions as the machine's: each is what the machine's own turning of the program's function gives. Printed by a program. -/
import Derived.Test.YtmpdpjkblcdfkaaGreatDoorFns1
import Derived.Test.YtmpdpjkblcdfkaaGreatDoorProg
import Derived.KernelRfl
import Derived.Shelf.Vars
namespace Go.Proofs.YtmpdpjkblcdfkaaGreatDoor
open Go.AM
set_option maxRecDepth 100000
def f3s : List Sh := [.str]
def f4s : List Sh := [(.st [(.int .i64), .str, (.int .i64), (.st [(.int .i64), (.int .i64), (.int .i64)])]), (.sl (.st [(.int .i64), .str, (.int .i64), (.st [(.int .i64), (.int .i64), (.int .i64)])]))]
/-! 27: strings.Join: told by its contract -/
def f27 : AFn := ⟨2, 0, [], .stuck, 1, some libJoin⟩
theorem f27_p (A : Tab) (args : List AV) (h : A 27 = some f27) : isPure A 27 args = imm.immL args := by simp [isPure, h, f27]
/-! 59: strings.TrimRight: told by its contract -/
def f59 : AFn := ⟨2, 0, [], .stuck, 1, some libTrimRight⟩
theorem f59_p (A : Tab) (args : List AV) (h : A 59 = some f59) : isPure A 59 args = imm.immL args := by simp [isPure, h, f59]
/-! 30: strings.Index: told by its contract -/
def f30 : AFn := ⟨2, 0, [], .stuck, 1, some libIndex⟩
theorem f30_p (A : Tab) (args : List AV) (h : A 30 = some f30) : isPure A 30 args = imm.immL args := by simp [isPure, h, f30]
/-! 25: strconv.Itoa: told by its contract -/
def f25 : AFn := ⟨1, 0, [], .stuck, 1, some libItoa⟩
theorem f25_p (A : Tab) (args : List AV) (h : A 25 = some f25) : isPure A 25 args = imm.immL args := by simp [isPure, h, f25]
def tab : Tab := fun g => match g with
  | 27 => some f27
  | 59 => some f59
  | 30 => some f30
  | 25 => some f25
  | 3 => some f3
  | 4 => some f4
  | 5 => some f5
  | 6 => some f6
  | 7 => some f7
  | 8 => some f8
  | 9 => some f9
  | 10 => some f10
  | 11 => some f11
  | 12 => some f12
  | 13 => some f13
  | 14 => some f14
  | 15 => some f15
  | 16 => some f16
  | 17 => some f17
  | 18 => some f18
  | 19 => some f19
  | 20 => some f20
  | 21 => some f21
  | 22 => some f22
  | 23 => some f23
  | 24 => some f24
  | 26 => some f26
  | 28 => some f28
  | 29 => some f29
  | 31 => some f31
  | 32 => some f32
  | 33 => some f33
  | 34 => some f34
  | 35 => some f35
  | 36 => some f36
  | 37 => some f37
  | 38 => some f38
  | 39 => some f39
  | 40 => some f40
  | 41 => some f41
  | 42 => some f42
  | 43 => some f43
  | 44 => some f44
  | 45 => some f45
  | 46 => some f46
  | 47 => some f47
  | 48 => some f48
  | 49 => some f49
  | 50 => some f50
  | 51 => some f51
  | 56 => some f56
  | 57 => some f57
  | 60 => some f60
  | 61 => some f61
  | 62 => some f62
  | 63 => some f63
  | 64 => some f64
  | 65 => some f65
  | 66 => some f66
  | 67 => some f67
  | 68 => some f68
  | 69 => some f69
  | 71 => some f71
  | 83 => some f83
  | 84 => some f84
  | _ => none

theorem f3_p (args : List AV) : isPure tab 3 args = imm.immL args := rfl
theorem f4_p (args : List AV) : isPure tab 4 args = imm.immL args := rfl
theorem f5_p (args : List AV) : isPure tab 5 args = imm.immL args := rfl
theorem f6_p (args : List AV) : isPure tab 6 args = imm.immL args := rfl
theorem f7_p (args : List AV) : isPure tab 7 args = imm.immL args := rfl
theorem f8_p (args : List AV) : isPure tab 8 args = imm.immL args := rfl
theorem f9_p (args : List AV) : isPure tab 9 args = imm.immL args := rfl
theorem f10_p (args : List AV) : isPure tab 10 args = imm.immL args := rfl
theorem f11_p (args : List AV) : isPure tab 11 args = imm.immL args := rfl
theorem f12_p (args : List AV) : isPure tab 12 args = imm.immL args := rfl
theorem f13_p (args : List AV) : isPure tab 13 args = imm.immL args := rfl
theorem f14_p (args : List AV) : isPure tab 14 args = imm.immL args := rfl
theorem f15_p (args : List AV) : isPure tab 15 args = imm.immL args := rfl
theorem f16_p (args : List AV) : isPure tab 16 args = imm.immL args := rfl
theorem f17_p (args : List AV) : isPure tab 17 args = imm.immL args := rfl
theorem f18_p (args : List AV) : isPure tab 18 args = imm.immL args := rfl
theorem f19_p (args : List AV) : isPure tab 19 args = imm.immL args := rfl
theorem f20_p (args : List AV) : isPure tab 20 args = imm.immL args := rfl
theorem f21_p (args : List AV) : isPure tab 21 args = imm.immL args := rfl
theorem f22_p (args : List AV) : isPure tab 22 args = imm.immL args := rfl
theorem f23_p (args : List AV) : isPure tab 23 args = imm.immL args := rfl
theorem f24_p (args : List AV) : isPure tab 24 args = imm.immL args := rfl
theorem f26_p (args : List AV) : isPure tab 26 args = imm.immL args := rfl
theorem f28_p (args : List AV) : isPure tab 28 args = imm.immL args := rfl
theorem f29_p (args : List AV) : isPure tab 29 args = imm.immL args := rfl
theorem f31_p (args : List AV) : isPure tab 31 args = imm.immL args := rfl
theorem f32_p (args : List AV) : isPure tab 32 args = imm.immL args := rfl
theorem f33_p (args : List AV) : isPure tab 33 args = imm.immL args := rfl
theorem f34_p (args : List AV) : isPure tab 34 args = imm.immL args := rfl
theorem f35_p (args : List AV) : isPure tab 35 args = imm.immL args := rfl
theorem f36_p (args : List AV) : isPure tab 36 args = imm.immL args := rfl
theorem f37_p (args : List AV) : isPure tab 37 args = imm.immL args := rfl
theorem f38_p (args : List AV) : isPure tab 38 args = imm.immL args := rfl
theorem f39_p (args : List AV) : isPure tab 39 args = imm.immL args := rfl
theorem f40_p (args : List AV) : isPure tab 40 args = imm.immL args := rfl
theorem f41_p (args : List AV) : isPure tab 41 args = imm.immL args := rfl
theorem f42_p (args : List AV) : isPure tab 42 args = imm.immL args := rfl
theorem f43_p (args : List AV) : isPure tab 43 args = imm.immL args := rfl
theorem f44_p (args : List AV) : isPure tab 44 args = imm.immL args := rfl
theorem f45_p (args : List AV) : isPure tab 45 args = imm.immL args := rfl
theorem f46_p (args : List AV) : isPure tab 46 args = imm.immL args := rfl
theorem f47_p (args : List AV) : isPure tab 47 args = imm.immL args := rfl
theorem f48_p (args : List AV) : isPure tab 48 args = imm.immL args := rfl
theorem f49_p (args : List AV) : isPure tab 49 args = imm.immL args := rfl
theorem f50_p (args : List AV) : isPure tab 50 args = imm.immL args := rfl
theorem f51_p (args : List AV) : isPure tab 51 args = imm.immL args := rfl
theorem f56_p (args : List AV) : isPure tab 56 args = imm.immL args := rfl
theorem f57_p (args : List AV) : isPure tab 57 args = imm.immL args := rfl
theorem f60_p (args : List AV) : isPure tab 60 args = imm.immL args := rfl
theorem f61_p (args : List AV) : isPure tab 61 args = imm.immL args := rfl
theorem f62_p (args : List AV) : isPure tab 62 args = imm.immL args := rfl
theorem f63_p (args : List AV) : isPure tab 63 args = imm.immL args := rfl
theorem f64_p (args : List AV) : isPure tab 64 args = imm.immL args := rfl
theorem f65_p (args : List AV) : isPure tab 65 args = imm.immL args := rfl
theorem f66_p (args : List AV) : isPure tab 66 args = imm.immL args := rfl
theorem f67_p (args : List AV) : isPure tab 67 args = imm.immL args := rfl
theorem f68_p (args : List AV) : isPure tab 68 args = imm.immL args := rfl
theorem f69_p (args : List AV) : isPure tab 69 args = imm.immL args := rfl
theorem f71_p (args : List AV) : isPure tab 71 args = imm.immL args := rfl
theorem f83_p (args : List AV) : isPure tab 83 args = imm.immL args := rfl
theorem f84_p (args : List AV) : isPure tab 84 args = imm.immL args := rfl
theorem f3_eq : ∃ fn, Tryz.prog.funcs[3]? = some fn ∧ compF Tryz.prog G f3v f3k f3.mode fn = some f3 := ⟨Tryz.f3, Tryz.func3, by kernel_rfl⟩
theorem f4_eq : ∃ fn, Tryz.prog.funcs[4]? = some fn ∧ compF Tryz.prog G f4v f4k f4.mode fn = some f4 := ⟨Tryz.f4, Tryz.func4, by kernel_rfl⟩
theorem f5_eq : ∃ fn, Tryz.prog.funcs[5]? = some fn ∧ compF Tryz.prog G f5v f5k f5.mode fn = some f5 := ⟨Tryz.f5, Tryz.func5, by kernel_rfl⟩
theorem f6_eq : ∃ fn, Tryz.prog.funcs[6]? = some fn ∧ compF Tryz.prog G f6v f6k f6.mode fn = some f6 := ⟨Tryz.f6, Tryz.func6, by kernel_rfl⟩
theorem f7_eq : ∃ fn, Tryz.prog.funcs[7]? = some fn ∧ compF Tryz.prog G f7v f7k f7.mode fn = some f7 := ⟨Tryz.f7, Tryz.func7, by kernel_rfl⟩
theorem f8_eq : ∃ fn, Tryz.prog.funcs[8]? = some fn ∧ compF Tryz.prog G f8v f8k f8.mode fn = some f8 := ⟨Tryz.f8, Tryz.func8, by kernel_rfl⟩
theorem f9_eq : ∃ fn, Tryz.prog.funcs[9]? = some fn ∧ compF Tryz.prog G f9v f9k f9.mode fn = some f9 := ⟨Tryz.f9, Tryz.func9, by kernel_rfl⟩
theorem f10_eq : ∃ fn, Tryz.prog.funcs[10]? = some fn ∧ compF Tryz.prog G f10v f10k f10.mode fn = some f10 := ⟨Tryz.f10, Tryz.func10, by kernel_rfl⟩
theorem f11_eq : ∃ fn, Tryz.prog.funcs[11]? = some fn ∧ compF Tryz.prog G f11v f11k f11.mode fn = some f11 := ⟨Tryz.f11, Tryz.func11, by kernel_rfl⟩
theorem f12_eq : ∃ fn, Tryz.prog.funcs[12]? = some fn ∧ compF Tryz.prog G f12v f12k f12.mode fn = some f12 := ⟨Tryz.f12, Tryz.func12, by kernel_rfl⟩
theorem f13_eq : ∃ fn, Tryz.prog.funcs[13]? = some fn ∧ compF Tryz.prog G f13v f13k f13.mode fn = some f13 := ⟨Tryz.f13, Tryz.func13, by kernel_rfl⟩
theorem f14_eq : ∃ fn, Tryz.prog.funcs[14]? = some fn ∧ compF Tryz.prog G f14v f14k f14.mode fn = some f14 := ⟨Tryz.f14, Tryz.func14, by kernel_rfl⟩
theorem f15_eq : ∃ fn, Tryz.prog.funcs[15]? = some fn ∧ compF Tryz.prog G f15v f15k f15.mode fn = some f15 := ⟨Tryz.f15, Tryz.func15, by kernel_rfl⟩
theorem f16_eq : ∃ fn, Tryz.prog.funcs[16]? = some fn ∧ compF Tryz.prog G f16v f16k f16.mode fn = some f16 := ⟨Tryz.f16, Tryz.func16, by kernel_rfl⟩
theorem f17_eq : ∃ fn, Tryz.prog.funcs[17]? = some fn ∧ compF Tryz.prog G f17v f17k f17.mode fn = some f17 := ⟨Tryz.f17, Tryz.func17, by kernel_rfl⟩
theorem f18_eq : ∃ fn, Tryz.prog.funcs[18]? = some fn ∧ compF Tryz.prog G f18v f18k f18.mode fn = some f18 := ⟨Tryz.f18, Tryz.func18, by kernel_rfl⟩
theorem f19_eq : ∃ fn, Tryz.prog.funcs[19]? = some fn ∧ compF Tryz.prog G f19v f19k f19.mode fn = some f19 := ⟨Tryz.f19, Tryz.func19, by kernel_rfl⟩
theorem f20_eq : ∃ fn, Tryz.prog.funcs[20]? = some fn ∧ compF Tryz.prog G f20v f20k f20.mode fn = some f20 := ⟨Tryz.f20, Tryz.func20, by kernel_rfl⟩
theorem f21_eq : ∃ fn, Tryz.prog.funcs[21]? = some fn ∧ compF Tryz.prog G f21v f21k f21.mode fn = some f21 := ⟨Tryz.f21, Tryz.func21, by kernel_rfl⟩
theorem f22_eq : ∃ fn, Tryz.prog.funcs[22]? = some fn ∧ compF Tryz.prog G f22v f22k f22.mode fn = some f22 := ⟨Tryz.f22, Tryz.func22, by kernel_rfl⟩
theorem f23_eq : ∃ fn, Tryz.prog.funcs[23]? = some fn ∧ compF Tryz.prog G f23v f23k f23.mode fn = some f23 := ⟨Tryz.f23, Tryz.func23, by kernel_rfl⟩
theorem f24_eq : ∃ fn, Tryz.prog.funcs[24]? = some fn ∧ compF Tryz.prog G f24v f24k f24.mode fn = some f24 := ⟨Tryz.f24, Tryz.func24, by kernel_rfl⟩
theorem f26_eq : ∃ fn, Tryz.prog.funcs[26]? = some fn ∧ compF Tryz.prog G f26v f26k f26.mode fn = some f26 := ⟨Tryz.f26, Tryz.func26, by kernel_rfl⟩
theorem f28_eq : ∃ fn, Tryz.prog.funcs[28]? = some fn ∧ compF Tryz.prog G f28v f28k f28.mode fn = some f28 := ⟨Tryz.f28, Tryz.func28, by kernel_rfl⟩
theorem f29_eq : ∃ fn, Tryz.prog.funcs[29]? = some fn ∧ compF Tryz.prog G f29v f29k f29.mode fn = some f29 := ⟨Tryz.f29, Tryz.func29, by kernel_rfl⟩
theorem f31_eq : ∃ fn, Tryz.prog.funcs[31]? = some fn ∧ compF Tryz.prog G f31v f31k f31.mode fn = some f31 := ⟨Tryz.f31, Tryz.func31, by kernel_rfl⟩
theorem f32_eq : ∃ fn, Tryz.prog.funcs[32]? = some fn ∧ compF Tryz.prog G f32v f32k f32.mode fn = some f32 := ⟨Tryz.f32, Tryz.func32, by kernel_rfl⟩
theorem f33_eq : ∃ fn, Tryz.prog.funcs[33]? = some fn ∧ compF Tryz.prog G f33v f33k f33.mode fn = some f33 := ⟨Tryz.f33, Tryz.func33, by kernel_rfl⟩
theorem f34_eq : ∃ fn, Tryz.prog.funcs[34]? = some fn ∧ compF Tryz.prog G f34v f34k f34.mode fn = some f34 := ⟨Tryz.f34, Tryz.func34, by kernel_rfl⟩
theorem f35_eq : ∃ fn, Tryz.prog.funcs[35]? = some fn ∧ compF Tryz.prog G f35v f35k f35.mode fn = some f35 := ⟨Tryz.f35, Tryz.func35, by kernel_rfl⟩
theorem f36_eq : ∃ fn, Tryz.prog.funcs[36]? = some fn ∧ compF Tryz.prog G f36v f36k f36.mode fn = some f36 := ⟨Tryz.f36, Tryz.func36, by kernel_rfl⟩
theorem f37_eq : ∃ fn, Tryz.prog.funcs[37]? = some fn ∧ compF Tryz.prog G f37v f37k f37.mode fn = some f37 := ⟨Tryz.f37, Tryz.func37, by kernel_rfl⟩
theorem f38_eq : ∃ fn, Tryz.prog.funcs[38]? = some fn ∧ compF Tryz.prog G f38v f38k f38.mode fn = some f38 := ⟨Tryz.f38, Tryz.func38, by kernel_rfl⟩
theorem f39_eq : ∃ fn, Tryz.prog.funcs[39]? = some fn ∧ compF Tryz.prog G f39v f39k f39.mode fn = some f39 := ⟨Tryz.f39, Tryz.func39, by kernel_rfl⟩
theorem f40_eq : ∃ fn, Tryz.prog.funcs[40]? = some fn ∧ compF Tryz.prog G f40v f40k f40.mode fn = some f40 := ⟨Tryz.f40, Tryz.func40, by kernel_rfl⟩
theorem f41_eq : ∃ fn, Tryz.prog.funcs[41]? = some fn ∧ compF Tryz.prog G f41v f41k f41.mode fn = some f41 := ⟨Tryz.f41, Tryz.func41, by kernel_rfl⟩
theorem f42_eq : ∃ fn, Tryz.prog.funcs[42]? = some fn ∧ compF Tryz.prog G f42v f42k f42.mode fn = some f42 := ⟨Tryz.f42, Tryz.func42, by kernel_rfl⟩
theorem f43_eq : ∃ fn, Tryz.prog.funcs[43]? = some fn ∧ compF Tryz.prog G f43v f43k f43.mode fn = some f43 := ⟨Tryz.f43, Tryz.func43, by kernel_rfl⟩
theorem f44_eq : ∃ fn, Tryz.prog.funcs[44]? = some fn ∧ compF Tryz.prog G f44v f44k f44.mode fn = some f44 := ⟨Tryz.f44, Tryz.func44, by kernel_rfl⟩
theorem f45_eq : ∃ fn, Tryz.prog.funcs[45]? = some fn ∧ compF Tryz.prog G f45v f45k f45.mode fn = some f45 := ⟨Tryz.f45, Tryz.func45, by kernel_rfl⟩
theorem f46_eq : ∃ fn, Tryz.prog.funcs[46]? = some fn ∧ compF Tryz.prog G f46v f46k f46.mode fn = some f46 := ⟨Tryz.f46, Tryz.func46, by kernel_rfl⟩
theorem f47_eq : ∃ fn, Tryz.prog.funcs[47]? = some fn ∧ compF Tryz.prog G f47v f47k f47.mode fn = some f47 := ⟨Tryz.f47, Tryz.func47, by kernel_rfl⟩
theorem f48_eq : ∃ fn, Tryz.prog.funcs[48]? = some fn ∧ compF Tryz.prog G f48v f48k f48.mode fn = some f48 := ⟨Tryz.f48, Tryz.func48, by kernel_rfl⟩
theorem f49_eq : ∃ fn, Tryz.prog.funcs[49]? = some fn ∧ compF Tryz.prog G f49v f49k f49.mode fn = some f49 := ⟨Tryz.f49, Tryz.func49, by kernel_rfl⟩
theorem f50_eq : ∃ fn, Tryz.prog.funcs[50]? = some fn ∧ compF Tryz.prog G f50v f50k f50.mode fn = some f50 := ⟨Tryz.f50, Tryz.func50, by kernel_rfl⟩
theorem f51_eq : ∃ fn, Tryz.prog.funcs[51]? = some fn ∧ compF Tryz.prog G f51v f51k f51.mode fn = some f51 := ⟨Tryz.f51, Tryz.func51, by kernel_rfl⟩
theorem f56_eq : ∃ fn, Tryz.prog.funcs[56]? = some fn ∧ compF Tryz.prog G f56v f56k f56.mode fn = some f56 := ⟨Tryz.f56, Tryz.func56, by kernel_rfl⟩
theorem f57_eq : ∃ fn, Tryz.prog.funcs[57]? = some fn ∧ compF Tryz.prog G f57v f57k f57.mode fn = some f57 := ⟨Tryz.f57, Tryz.func57, by kernel_rfl⟩
theorem f60_eq : ∃ fn, Tryz.prog.funcs[60]? = some fn ∧ compF Tryz.prog G f60v f60k f60.mode fn = some f60 := ⟨Tryz.f60, Tryz.func60, by kernel_rfl⟩
theorem f61_eq : ∃ fn, Tryz.prog.funcs[61]? = some fn ∧ compF Tryz.prog G f61v f61k f61.mode fn = some f61 := ⟨Tryz.f61, Tryz.func61, by kernel_rfl⟩
theorem f62_eq : ∃ fn, Tryz.prog.funcs[62]? = some fn ∧ compF Tryz.prog G f62v f62k f62.mode fn = some f62 := ⟨Tryz.f62, Tryz.func62, by kernel_rfl⟩
theorem f63_eq : ∃ fn, Tryz.prog.funcs[63]? = some fn ∧ compF Tryz.prog G f63v f63k f63.mode fn = some f63 := ⟨Tryz.f63, Tryz.func63, by kernel_rfl⟩
theorem f64_eq : ∃ fn, Tryz.prog.funcs[64]? = some fn ∧ compF Tryz.prog G f64v f64k f64.mode fn = some f64 := ⟨Tryz.f64, Tryz.func64, by kernel_rfl⟩
theorem f65_eq : ∃ fn, Tryz.prog.funcs[65]? = some fn ∧ compF Tryz.prog G f65v f65k f65.mode fn = some f65 := ⟨Tryz.f65, Tryz.func65, by kernel_rfl⟩
theorem f66_eq : ∃ fn, Tryz.prog.funcs[66]? = some fn ∧ compF Tryz.prog G f66v f66k f66.mode fn = some f66 := ⟨Tryz.f66, Tryz.func66, by kernel_rfl⟩
theorem f67_eq : ∃ fn, Tryz.prog.funcs[67]? = some fn ∧ compF Tryz.prog G f67v f67k f67.mode fn = some f67 := ⟨Tryz.f67, Tryz.func67, by kernel_rfl⟩
theorem f68_eq : ∃ fn, Tryz.prog.funcs[68]? = some fn ∧ compF Tryz.prog G f68v f68k f68.mode fn = some f68 := ⟨Tryz.f68, Tryz.func68, by kernel_rfl⟩
theorem f69_eq : ∃ fn, Tryz.prog.funcs[69]? = some fn ∧ compF Tryz.prog G f69v f69k f69.mode fn = some f69 := ⟨Tryz.f69, Tryz.func69, by kernel_rfl⟩
theorem f71_eq : ∃ fn, Tryz.prog.funcs[71]? = some fn ∧ compF Tryz.prog G f71v f71k f71.mode fn = some f71 := ⟨Tryz.f71, Tryz.func71, by kernel_rfl⟩
theorem f83_eq : ∃ fn, Tryz.prog.funcs[83]? = some fn ∧ compF Tryz.prog G f83v f83k f83.mode fn = some f83 := ⟨Tryz.f83, Tryz.func83, by kernel_rfl⟩
theorem f84_eq : ∃ fn, Tryz.prog.funcs[84]? = some fn ∧ compF Tryz.prog G f84v f84k f84.mode fn = some f84 := ⟨Tryz.f84, Tryz.func84, by kernel_rfl⟩

theorem tab_ok : TabOK Tryz.prog G tab := by
  intro g f h
  unfold tab at h
  split at h
  · cases h; exact .inr ⟨libJoin, rfl, rfl, spec_27⟩
  · cases h; exact .inr ⟨libTrimRight, rfl, rfl, spec_59⟩
  · cases h; exact .inr ⟨libIndex, rfl, rfl, spec_30⟩
  · cases h; exact .inr ⟨libItoa, rfl, rfl, spec_25⟩
  · cases h; obtain ⟨fn, h1, h2⟩ := f3_eq; exact .inl ⟨fn, _, _, h1, h2⟩
  · cases h; obtain ⟨fn, h1, h2⟩ := f4_eq; exact .inl ⟨fn, _, _, h1, h2⟩
  · cases h; obtain ⟨fn, h1, h2⟩ := f5_eq; exact .inl ⟨fn, _, _, h1, h2⟩
  · cases h; obtain ⟨fn, h1, h2⟩ := f6_eq; exact .inl ⟨fn, _, _, h1, h2⟩
  · cases h; obtain ⟨fn, h1, h2⟩ := f7_eq; exact .inl ⟨fn, _, _, h1, h2⟩
  · cases h; obtain ⟨fn, h1, h2⟩ := f8_eq; exact .inl ⟨fn, _, _, h1, h2⟩
  · cases h; obtain ⟨fn, h1, h2⟩ := f9_eq; exact .inl ⟨fn, _, _, h1, h2⟩
  · cases h; obtain ⟨fn, h1, h2⟩ := f10_eq; exact .inl ⟨fn, _, _, h1, h2⟩
  · cases h; obtain ⟨fn, h1, h2⟩ := f11_eq; exact .inl ⟨fn, _, _, h1, h2⟩
  · cases h; obtain ⟨fn, h1, h2⟩ := f12_eq; exact .inl ⟨fn, _, _, h1, h2⟩
  · cases h; obtain ⟨fn, h1, h2⟩ := f13_eq; exact .inl ⟨fn, _, _, h1, h2⟩
  · cases h; obtain ⟨fn, h1, h2⟩ := f14_eq; exact .inl ⟨fn, _, _, h1, h2⟩
  · cases h; obtain ⟨fn, h1, h2⟩ := f15_eq; exact .inl ⟨fn, _, _, h1, h2⟩
  · cases h; obtain ⟨fn, h1, h2⟩ := f16_eq; exact .inl ⟨fn, _, _, h1, h2⟩
  · cases h; obtain ⟨fn, h1, h2⟩ := f17_eq; exact .inl ⟨fn, _, _, h1, h2⟩
  · cases h; obtain ⟨fn, h1, h2⟩ := f18_eq; exact .inl ⟨fn, _, _, h1, h2⟩
  · cases h; obtain ⟨fn, h1, h2⟩ := f19_eq; exact .inl ⟨fn, _, _, h1, h2⟩
  · cases h; obtain ⟨fn, h1, h2⟩ := f20_eq; exact .inl ⟨fn, _, _, h1, h2⟩
  · cases h; obtain ⟨fn, h1, h2⟩ := f21_eq; exact .inl ⟨fn, _, _, h1, h2⟩
  · cases h; obtain ⟨fn, h1, h2⟩ := f22_eq; exact .inl ⟨fn, _, _, h1, h2⟩
  · cases h; obtain ⟨fn, h1, h2⟩ := f23_eq; exact .inl ⟨fn, _, _, h1, h2⟩
  · cases h; obtain ⟨fn, h1, h2⟩ := f24_eq; exact .inl ⟨fn, _, _, h1, h2⟩
  · cases h; obtain ⟨fn, h1, h2⟩ := f26_eq; exact .inl ⟨fn, _, _, h1, h2⟩
  · cases h; obtain ⟨fn, h1, h2⟩ := f28_eq; exact .inl ⟨fn, _, _, h1, h2⟩
  · cases h; obtain ⟨fn, h1, h2⟩ := f29_eq; exact .inl ⟨fn, _, _, h1, h2⟩
  · cases h; obtain ⟨fn, h1, h2⟩ := f31_eq; exact .inl ⟨fn, _, _, h1, h2⟩
  · cases h; obtain ⟨fn, h1, h2⟩ := f32_eq; exact .inl ⟨fn, _, _, h1, h2⟩
  · cases h; obtain ⟨fn, h1, h2⟩ := f33_eq; exact .inl ⟨fn, _, _, h1, h2⟩
  · cases h; obtain ⟨fn, h1, h2⟩ := f34_eq; exact .inl ⟨fn, _, _, h1, h2⟩
  · cases h; obtain ⟨fn, h1, h2⟩ := f35_eq; exact .inl ⟨fn, _, _, h1, h2⟩
  · cases h; obtain ⟨fn, h1, h2⟩ := f36_eq; exact .inl ⟨fn, _, _, h1, h2⟩
  · cases h; obtain ⟨fn, h1, h2⟩ := f37_eq; exact .inl ⟨fn, _, _, h1, h2⟩
  · cases h; obtain ⟨fn, h1, h2⟩ := f38_eq; exact .inl ⟨fn, _, _, h1, h2⟩
  · cases h; obtain ⟨fn, h1, h2⟩ := f39_eq; exact .inl ⟨fn, _, _, h1, h2⟩
  · cases h; obtain ⟨fn, h1, h2⟩ := f40_eq; exact .inl ⟨fn, _, _, h1, h2⟩
  · cases h; obtain ⟨fn, h1, h2⟩ := f41_eq; exact .inl ⟨fn, _, _, h1, h2⟩
  · cases h; obtain ⟨fn, h1, h2⟩ := f42_eq; exact .inl ⟨fn, _, _, h1, h2⟩
  · cases h; obtain ⟨fn, h1, h2⟩ := f43_eq; exact .inl ⟨fn, _, _, h1, h2⟩
  · cases h; obtain ⟨fn, h1, h2⟩ := f44_eq; exact .inl ⟨fn, _, _, h1, h2⟩
  · cases h; obtain ⟨fn, h1, h2⟩ := f45_eq; exact .inl ⟨fn, _, _, h1, h2⟩
  · cases h; obtain ⟨fn, h1, h2⟩ := f46_eq; exact .inl ⟨fn, _, _, h1, h2⟩
  · cases h; obtain ⟨fn, h1, h2⟩ := f47_eq; exact .inl ⟨fn, _, _, h1, h2⟩
  · cases h; obtain ⟨fn, h1, h2⟩ := f48_eq; exact .inl ⟨fn, _, _, h1, h2⟩
  · cases h; obtain ⟨fn, h1, h2⟩ := f49_eq; exact .inl ⟨fn, _, _, h1, h2⟩
  · cases h; obtain ⟨fn, h1, h2⟩ := f50_eq; exact .inl ⟨fn, _, _, h1, h2⟩
  · cases h; obtain ⟨fn, h1, h2⟩ := f51_eq; exact .inl ⟨fn, _, _, h1, h2⟩
  · cases h; obtain ⟨fn, h1, h2⟩ := f56_eq; exact .inl ⟨fn, _, _, h1, h2⟩
  · cases h; obtain ⟨fn, h1, h2⟩ := f57_eq; exact .inl ⟨fn, _, _, h1, h2⟩
  · cases h; obtain ⟨fn, h1, h2⟩ := f60_eq; exact .inl ⟨fn, _, _, h1, h2⟩
  · cases h; obtain ⟨fn, h1, h2⟩ := f61_eq; exact .inl ⟨fn, _, _, h1, h2⟩
  · cases h; obtain ⟨fn, h1, h2⟩ := f62_eq; exact .inl ⟨fn, _, _, h1, h2⟩
  · cases h; obtain ⟨fn, h1, h2⟩ := f63_eq; exact .inl ⟨fn, _, _, h1, h2⟩
  · cases h; obtain ⟨fn, h1, h2⟩ := f64_eq; exact .inl ⟨fn, _, _, h1, h2⟩
  · cases h; obtain ⟨fn, h1, h2⟩ := f65_eq; exact .inl ⟨fn, _, _, h1, h2⟩
  · cases h; obtain ⟨fn, h1, h2⟩ := f66_eq; exact .inl ⟨fn, _, _, h1, h2⟩
  · cases h; obtain ⟨fn, h1, h2⟩ := f67_eq; exact .inl ⟨fn, _, _, h1, h2⟩
  · cases h; obtain ⟨fn, h1, h2⟩ := f68_eq; exact .inl ⟨fn, _, _, h1, h2⟩
  · cases h; obtain ⟨fn, h1, h2⟩ := f69_eq; exact .inl ⟨fn, _, _, h1, h2⟩
  · cases h; obtain ⟨fn, h1, h2⟩ := f71_eq; exact .inl ⟨fn, _, _, h1, h2⟩
  · cases h; obtain ⟨fn, h1, h2⟩ := f83_eq; exact .inl ⟨fn, _, _, h1, h2⟩
  · cases h; obtain ⟨fn, h1, h2⟩ := f84_eq; exact .inl ⟨fn, _, _, h1, h2⟩
  · cases h
theorem follows : Tryz.prog.follows .mixedOrders = true := by kernel_rfl
end Go.Proofs.YtmpdpjkblcdfkaaGreatDoor
