/- The seat's functions as the machine's: each is what the machine's own turning of the program's function gives. Printed by a program. -/
import Derived.Test.YtfhijkapcdmdnaaDoorFns1
import Derived.Test.YtfhijkapcdmdnaaDoorProg
import Derived.KernelRfl
import Derived.Shelf.Vars
namespace Go.Proofs.YtfhijkapcdmdnaaDoor
open Go.AM
set_option maxRecDepth 100000
def f6s : List Sh := [(.sl (.st [(.int .i64), (.int .i64), (.int .i64), .str, (.sl (.st [.str, (.int .i64), (.int .i64)])), .bool])), (.int .i64), (.sl (.st [.str, (.int .i64)])), (.sl (.st [.str, (.int .i64)]))]
def f75 : AFn := ⟨2, 0, [], .stuck, 1, some libTrim⟩
def tab : Tab := fun g => match g with
 | 75 => some f75
 | 6 => some f6
 | 9 => some f9
 | 10 => some f10
 | 11 => some f11
 | 12 => some f12
 | 13 => some f13
 | 14 => some f14
 | 15 => some f15
 | 16 => some f16
 | 18 => some f18
 | 19 => some f19
 | 21 => some f21
 | 22 => some f22
 | 23 => some f23
 | 26 => some f26
 | 27 => some f27
 | 28 => some f28
 | 29 => some f29
 | 30 => some f30
 | 31 => some f31
 | 32 => some f32
 | 33 => some f33
 | 34 => some f34
 | 35 => some f35
 | 36 => some f36
 | 37 => some f37
 | 38 => some f38
 | 39 => some f39
 | 40 => some f40
 | 41 => some f41
 | 42 => some f42
 | 43 => some f43
 | 45 => some f45
 | 46 => some f46
 | 47 => some f47
 | 48 => some f48
 | 49 => some f49
 | 50 => some f50
 | 51 => some f51
 | 54 => some f54
 | 58 => some f58
 | 59 => some f59
 | 60 => some f60
 | 61 => some f61
 | 62 => some f62
 | 63 => some f63
 | 64 => some f64
 | 65 => some f65
 | 66 => some f66
 | 67 => some f67
 | 68 => some f68
 | 69 => some f69
 | 70 => some f70
 | 71 => some f71
 | 74 => some f74
 | 76 => some f76
 | 77 => some f77
 | 78 => some f78
 | 79 => some f79
 | 80 => some f80
 | 82 => some f82
 | 90 => some f90
 | 91 => some f91
 | 93 => some f93
 | 98 => some f98
 | 99 => some f99
 | _ => none
theorem f39_p (args : List AV) : isPure tab 39 args = imm.immL args := rfl
theorem f77_p (args : List AV) : isPure tab 77 args = imm.immL args := rfl
theorem f6_eq : ∃ fn, Tryd.prog.funcs[6]? = some fn ∧ compF Tryd.prog G f6v f6k f6.mode fn = some f6 := ⟨Tryd.f6, Tryd.func6, by kernel_rfl⟩
theorem f9_eq : ∃ fn, Tryd.prog.funcs[9]? = some fn ∧ compF Tryd.prog G f9v f9k f9.mode fn = some f9 := ⟨Tryd.f9, Tryd.func9, by kernel_rfl⟩
theorem f10_eq : ∃ fn, Tryd.prog.funcs[10]? = some fn ∧ compF Tryd.prog G f10v f10k f10.mode fn = some f10 := ⟨Tryd.f10, Tryd.func10, by kernel_rfl⟩
theorem f11_eq : ∃ fn, Tryd.prog.funcs[11]? = some fn ∧ compF Tryd.prog G f11v f11k f11.mode fn = some f11 := ⟨Tryd.f11, Tryd.func11, by kernel_rfl⟩
theorem f12_eq : ∃ fn, Tryd.prog.funcs[12]? = some fn ∧ compF Tryd.prog G f12v f12k f12.mode fn = some f12 := ⟨Tryd.f12, Tryd.func12, by kernel_rfl⟩
theorem f13_eq : ∃ fn, Tryd.prog.funcs[13]? = some fn ∧ compF Tryd.prog G f13v f13k f13.mode fn = some f13 := ⟨Tryd.f13, Tryd.func13, by kernel_rfl⟩
theorem f14_eq : ∃ fn, Tryd.prog.funcs[14]? = some fn ∧ compF Tryd.prog G f14v f14k f14.mode fn = some f14 := ⟨Tryd.f14, Tryd.func14, by kernel_rfl⟩
theorem f15_eq : ∃ fn, Tryd.prog.funcs[15]? = some fn ∧ compF Tryd.prog G f15v f15k f15.mode fn = some f15 := ⟨Tryd.f15, Tryd.func15, by kernel_rfl⟩
theorem f16_eq : ∃ fn, Tryd.prog.funcs[16]? = some fn ∧ compF Tryd.prog G f16v f16k f16.mode fn = some f16 := ⟨Tryd.f16, Tryd.func16, by kernel_rfl⟩
theorem f18_eq : ∃ fn, Tryd.prog.funcs[18]? = some fn ∧ compF Tryd.prog G f18v f18k f18.mode fn = some f18 := ⟨Tryd.f18, Tryd.func18, by kernel_rfl⟩
theorem f19_eq : ∃ fn, Tryd.prog.funcs[19]? = some fn ∧ compF Tryd.prog G f19v f19k f19.mode fn = some f19 := ⟨Tryd.f19, Tryd.func19, by kernel_rfl⟩
theorem f21_eq : ∃ fn, Tryd.prog.funcs[21]? = some fn ∧ compF Tryd.prog G f21v f21k f21.mode fn = some f21 := ⟨Tryd.f21, Tryd.func21, by kernel_rfl⟩
theorem f22_eq : ∃ fn, Tryd.prog.funcs[22]? = some fn ∧ compF Tryd.prog G f22v f22k f22.mode fn = some f22 := ⟨Tryd.f22, Tryd.func22, by kernel_rfl⟩
theorem f23_eq : ∃ fn, Tryd.prog.funcs[23]? = some fn ∧ compF Tryd.prog G f23v f23k f23.mode fn = some f23 := ⟨Tryd.f23, Tryd.func23, by kernel_rfl⟩
theorem f26_eq : ∃ fn, Tryd.prog.funcs[26]? = some fn ∧ compF Tryd.prog G f26v f26k f26.mode fn = some f26 := ⟨Tryd.f26, Tryd.func26, by kernel_rfl⟩
theorem f27_eq : ∃ fn, Tryd.prog.funcs[27]? = some fn ∧ compF Tryd.prog G f27v f27k f27.mode fn = some f27 := ⟨Tryd.f27, Tryd.func27, by kernel_rfl⟩
theorem f28_eq : ∃ fn, Tryd.prog.funcs[28]? = some fn ∧ compF Tryd.prog G f28v f28k f28.mode fn = some f28 := ⟨Tryd.f28, Tryd.func28, by kernel_rfl⟩
theorem f29_eq : ∃ fn, Tryd.prog.funcs[29]? = some fn ∧ compF Tryd.prog G f29v f29k f29.mode fn = some f29 := ⟨Tryd.f29, Tryd.func29, by kernel_rfl⟩
theorem f30_eq : ∃ fn, Tryd.prog.funcs[30]? = some fn ∧ compF Tryd.prog G f30v f30k f30.mode fn = some f30 := ⟨Tryd.f30, Tryd.func30, by kernel_rfl⟩
theorem f31_eq : ∃ fn, Tryd.prog.funcs[31]? = some fn ∧ compF Tryd.prog G f31v f31k f31.mode fn = some f31 := ⟨Tryd.f31, Tryd.func31, by kernel_rfl⟩
theorem f32_eq : ∃ fn, Tryd.prog.funcs[32]? = some fn ∧ compF Tryd.prog G f32v f32k f32.mode fn = some f32 := ⟨Tryd.f32, Tryd.func32, by kernel_rfl⟩
theorem f33_eq : ∃ fn, Tryd.prog.funcs[33]? = some fn ∧ compF Tryd.prog G f33v f33k f33.mode fn = some f33 := ⟨Tryd.f33, Tryd.func33, by kernel_rfl⟩
theorem f34_eq : ∃ fn, Tryd.prog.funcs[34]? = some fn ∧ compF Tryd.prog G f34v f34k f34.mode fn = some f34 := ⟨Tryd.f34, Tryd.func34, by kernel_rfl⟩
theorem f35_eq : ∃ fn, Tryd.prog.funcs[35]? = some fn ∧ compF Tryd.prog G f35v f35k f35.mode fn = some f35 := ⟨Tryd.f35, Tryd.func35, by kernel_rfl⟩
theorem f36_eq : ∃ fn, Tryd.prog.funcs[36]? = some fn ∧ compF Tryd.prog G f36v f36k f36.mode fn = some f36 := ⟨Tryd.f36, Tryd.func36, by kernel_rfl⟩
theorem f37_eq : ∃ fn, Tryd.prog.funcs[37]? = some fn ∧ compF Tryd.prog G f37v f37k f37.mode fn = some f37 := ⟨Tryd.f37, Tryd.func37, by kernel_rfl⟩
theorem f38_eq : ∃ fn, Tryd.prog.funcs[38]? = some fn ∧ compF Tryd.prog G f38v f38k f38.mode fn = some f38 := ⟨Tryd.f38, Tryd.func38, by kernel_rfl⟩
theorem f39_eq : ∃ fn, Tryd.prog.funcs[39]? = some fn ∧ compF Tryd.prog G f39v f39k f39.mode fn = some f39 := ⟨Tryd.f39, Tryd.func39, by kernel_rfl⟩
theorem f40_eq : ∃ fn, Tryd.prog.funcs[40]? = some fn ∧ compF Tryd.prog G f40v f40k f40.mode fn = some f40 := ⟨Tryd.f40, Tryd.func40, by kernel_rfl⟩
theorem f41_eq : ∃ fn, Tryd.prog.funcs[41]? = some fn ∧ compF Tryd.prog G f41v f41k f41.mode fn = some f41 := ⟨Tryd.f41, Tryd.func41, by kernel_rfl⟩
theorem f42_eq : ∃ fn, Tryd.prog.funcs[42]? = some fn ∧ compF Tryd.prog G f42v f42k f42.mode fn = some f42 := ⟨Tryd.f42, Tryd.func42, by kernel_rfl⟩
theorem f43_eq : ∃ fn, Tryd.prog.funcs[43]? = some fn ∧ compF Tryd.prog G f43v f43k f43.mode fn = some f43 := ⟨Tryd.f43, Tryd.func43, by kernel_rfl⟩
theorem f45_eq : ∃ fn, Tryd.prog.funcs[45]? = some fn ∧ compF Tryd.prog G f45v f45k f45.mode fn = some f45 := ⟨Tryd.f45, Tryd.func45, by kernel_rfl⟩
theorem f46_eq : ∃ fn, Tryd.prog.funcs[46]? = some fn ∧ compF Tryd.prog G f46v f46k f46.mode fn = some f46 := ⟨Tryd.f46, Tryd.func46, by kernel_rfl⟩
theorem f47_eq : ∃ fn, Tryd.prog.funcs[47]? = some fn ∧ compF Tryd.prog G f47v f47k f47.mode fn = some f47 := ⟨Tryd.f47, Tryd.func47, by kernel_rfl⟩
theorem f48_eq : ∃ fn, Tryd.prog.funcs[48]? = some fn ∧ compF Tryd.prog G f48v f48k f48.mode fn = some f48 := ⟨Tryd.f48, Tryd.func48, by kernel_rfl⟩
theorem f49_eq : ∃ fn, Tryd.prog.funcs[49]? = some fn ∧ compF Tryd.prog G f49v f49k f49.mode fn = some f49 := ⟨Tryd.f49, Tryd.func49, by kernel_rfl⟩
theorem f50_eq : ∃ fn, Tryd.prog.funcs[50]? = some fn ∧ compF Tryd.prog G f50v f50k f50.mode fn = some f50 := ⟨Tryd.f50, Tryd.func50, by kernel_rfl⟩
theorem f51_eq : ∃ fn, Tryd.prog.funcs[51]? = some fn ∧ compF Tryd.prog G f51v f51k f51.mode fn = some f51 := ⟨Tryd.f51, Tryd.func51, by kernel_rfl⟩
theorem f54_eq : ∃ fn, Tryd.prog.funcs[54]? = some fn ∧ compF Tryd.prog G f54v f54k f54.mode fn = some f54 := ⟨Tryd.f54, Tryd.func54, by kernel_rfl⟩
theorem f58_eq : ∃ fn, Tryd.prog.funcs[58]? = some fn ∧ compF Tryd.prog G f58v f58k f58.mode fn = some f58 := ⟨Tryd.f58, Tryd.func58, by kernel_rfl⟩
theorem f59_eq : ∃ fn, Tryd.prog.funcs[59]? = some fn ∧ compF Tryd.prog G f59v f59k f59.mode fn = some f59 := ⟨Tryd.f59, Tryd.func59, by kernel_rfl⟩
theorem f60_eq : ∃ fn, Tryd.prog.funcs[60]? = some fn ∧ compF Tryd.prog G f60v f60k f60.mode fn = some f60 := ⟨Tryd.f60, Tryd.func60, by kernel_rfl⟩
theorem f61_eq : ∃ fn, Tryd.prog.funcs[61]? = some fn ∧ compF Tryd.prog G f61v f61k f61.mode fn = some f61 := ⟨Tryd.f61, Tryd.func61, by kernel_rfl⟩
theorem f62_eq : ∃ fn, Tryd.prog.funcs[62]? = some fn ∧ compF Tryd.prog G f62v f62k f62.mode fn = some f62 := ⟨Tryd.f62, Tryd.func62, by kernel_rfl⟩
theorem f63_eq : ∃ fn, Tryd.prog.funcs[63]? = some fn ∧ compF Tryd.prog G f63v f63k f63.mode fn = some f63 := ⟨Tryd.f63, Tryd.func63, by kernel_rfl⟩
theorem f64_eq : ∃ fn, Tryd.prog.funcs[64]? = some fn ∧ compF Tryd.prog G f64v f64k f64.mode fn = some f64 := ⟨Tryd.f64, Tryd.func64, by kernel_rfl⟩
theorem f65_eq : ∃ fn, Tryd.prog.funcs[65]? = some fn ∧ compF Tryd.prog G f65v f65k f65.mode fn = some f65 := ⟨Tryd.f65, Tryd.func65, by kernel_rfl⟩
theorem f66_eq : ∃ fn, Tryd.prog.funcs[66]? = some fn ∧ compF Tryd.prog G f66v f66k f66.mode fn = some f66 := ⟨Tryd.f66, Tryd.func66, by kernel_rfl⟩
theorem f67_eq : ∃ fn, Tryd.prog.funcs[67]? = some fn ∧ compF Tryd.prog G f67v f67k f67.mode fn = some f67 := ⟨Tryd.f67, Tryd.func67, by kernel_rfl⟩
theorem f68_eq : ∃ fn, Tryd.prog.funcs[68]? = some fn ∧ compF Tryd.prog G f68v f68k f68.mode fn = some f68 := ⟨Tryd.f68, Tryd.func68, by kernel_rfl⟩
theorem f69_eq : ∃ fn, Tryd.prog.funcs[69]? = some fn ∧ compF Tryd.prog G f69v f69k f69.mode fn = some f69 := ⟨Tryd.f69, Tryd.func69, by kernel_rfl⟩
theorem f70_eq : ∃ fn, Tryd.prog.funcs[70]? = some fn ∧ compF Tryd.prog G f70v f70k f70.mode fn = some f70 := ⟨Tryd.f70, Tryd.func70, by kernel_rfl⟩
theorem f71_eq : ∃ fn, Tryd.prog.funcs[71]? = some fn ∧ compF Tryd.prog G f71v f71k f71.mode fn = some f71 := ⟨Tryd.f71, Tryd.func71, by kernel_rfl⟩
theorem f74_eq : ∃ fn, Tryd.prog.funcs[74]? = some fn ∧ compF Tryd.prog G f74v f74k f74.mode fn = some f74 := ⟨Tryd.f74, Tryd.func74, by kernel_rfl⟩
theorem f76_eq : ∃ fn, Tryd.prog.funcs[76]? = some fn ∧ compF Tryd.prog G f76v f76k f76.mode fn = some f76 := ⟨Tryd.f76, Tryd.func76, by kernel_rfl⟩
theorem f77_eq : ∃ fn, Tryd.prog.funcs[77]? = some fn ∧ compF Tryd.prog G f77v f77k f77.mode fn = some f77 := ⟨Tryd.f77, Tryd.func77, by kernel_rfl⟩
theorem f78_eq : ∃ fn, Tryd.prog.funcs[78]? = some fn ∧ compF Tryd.prog G f78v f78k f78.mode fn = some f78 := ⟨Tryd.f78, Tryd.func78, by kernel_rfl⟩
theorem f79_eq : ∃ fn, Tryd.prog.funcs[79]? = some fn ∧ compF Tryd.prog G f79v f79k f79.mode fn = some f79 := ⟨Tryd.f79, Tryd.func79, by kernel_rfl⟩
theorem f80_eq : ∃ fn, Tryd.prog.funcs[80]? = some fn ∧ compF Tryd.prog G f80v f80k f80.mode fn = some f80 := ⟨Tryd.f80, Tryd.func80, by kernel_rfl⟩
theorem f82_eq : ∃ fn, Tryd.prog.funcs[82]? = some fn ∧ compF Tryd.prog G f82v f82k f82.mode fn = some f82 := ⟨Tryd.f82, Tryd.func82, by kernel_rfl⟩
theorem f90_eq : ∃ fn, Tryd.prog.funcs[90]? = some fn ∧ compF Tryd.prog G f90v f90k f90.mode fn = some f90 := ⟨Tryd.f90, Tryd.func90, by kernel_rfl⟩
theorem f91_eq : ∃ fn, Tryd.prog.funcs[91]? = some fn ∧ compF Tryd.prog G f91v f91k f91.mode fn = some f91 := ⟨Tryd.f91, Tryd.func91, by kernel_rfl⟩
theorem f93_eq : ∃ fn, Tryd.prog.funcs[93]? = some fn ∧ compF Tryd.prog G f93v f93k f93.mode fn = some f93 := ⟨Tryd.f93, Tryd.func93, by kernel_rfl⟩
theorem f98_eq : ∃ fn, Tryd.prog.funcs[98]? = some fn ∧ compF Tryd.prog G f98v f98k f98.mode fn = some f98 := ⟨Tryd.f98, Tryd.func98, by kernel_rfl⟩
theorem f99_eq : ∃ fn, Tryd.prog.funcs[99]? = some fn ∧ compF Tryd.prog G f99v f99k f99.mode fn = some f99 := ⟨Tryd.f99, Tryd.func99, by kernel_rfl⟩
theorem tab_ok : TabOK Tryd.prog G tab := by
 intro g f h
 unfold tab at h
 split at h
 ·cases h; exact .inr ⟨libTrim, rfl, rfl, spec_75⟩
 ·cases h; obtain ⟨fn, h1, h2⟩ := f6_eq; exact .inl ⟨fn, _, _, h1, h2⟩
 ·cases h; obtain ⟨fn, h1, h2⟩ := f9_eq; exact .inl ⟨fn, _, _, h1, h2⟩
 ·cases h; obtain ⟨fn, h1, h2⟩ := f10_eq; exact .inl ⟨fn, _, _, h1, h2⟩
 ·cases h; obtain ⟨fn, h1, h2⟩ := f11_eq; exact .inl ⟨fn, _, _, h1, h2⟩
 ·cases h; obtain ⟨fn, h1, h2⟩ := f12_eq; exact .inl ⟨fn, _, _, h1, h2⟩
 ·cases h; obtain ⟨fn, h1, h2⟩ := f13_eq; exact .inl ⟨fn, _, _, h1, h2⟩
 ·cases h; obtain ⟨fn, h1, h2⟩ := f14_eq; exact .inl ⟨fn, _, _, h1, h2⟩
 ·cases h; obtain ⟨fn, h1, h2⟩ := f15_eq; exact .inl ⟨fn, _, _, h1, h2⟩
 ·cases h; obtain ⟨fn, h1, h2⟩ := f16_eq; exact .inl ⟨fn, _, _, h1, h2⟩
 ·cases h; obtain ⟨fn, h1, h2⟩ := f18_eq; exact .inl ⟨fn, _, _, h1, h2⟩
 ·cases h; obtain ⟨fn, h1, h2⟩ := f19_eq; exact .inl ⟨fn, _, _, h1, h2⟩
 ·cases h; obtain ⟨fn, h1, h2⟩ := f21_eq; exact .inl ⟨fn, _, _, h1, h2⟩
 ·cases h; obtain ⟨fn, h1, h2⟩ := f22_eq; exact .inl ⟨fn, _, _, h1, h2⟩
 ·cases h; obtain ⟨fn, h1, h2⟩ := f23_eq; exact .inl ⟨fn, _, _, h1, h2⟩
 ·cases h; obtain ⟨fn, h1, h2⟩ := f26_eq; exact .inl ⟨fn, _, _, h1, h2⟩
 ·cases h; obtain ⟨fn, h1, h2⟩ := f27_eq; exact .inl ⟨fn, _, _, h1, h2⟩
 ·cases h; obtain ⟨fn, h1, h2⟩ := f28_eq; exact .inl ⟨fn, _, _, h1, h2⟩
 ·cases h; obtain ⟨fn, h1, h2⟩ := f29_eq; exact .inl ⟨fn, _, _, h1, h2⟩
 ·cases h; obtain ⟨fn, h1, h2⟩ := f30_eq; exact .inl ⟨fn, _, _, h1, h2⟩
 ·cases h; obtain ⟨fn, h1, h2⟩ := f31_eq; exact .inl ⟨fn, _, _, h1, h2⟩
 ·cases h; obtain ⟨fn, h1, h2⟩ := f32_eq; exact .inl ⟨fn, _, _, h1, h2⟩
 ·cases h; obtain ⟨fn, h1, h2⟩ := f33_eq; exact .inl ⟨fn, _, _, h1, h2⟩
 ·cases h; obtain ⟨fn, h1, h2⟩ := f34_eq; exact .inl ⟨fn, _, _, h1, h2⟩
 ·cases h; obtain ⟨fn, h1, h2⟩ := f35_eq; exact .inl ⟨fn, _, _, h1, h2⟩
 ·cases h; obtain ⟨fn, h1, h2⟩ := f36_eq; exact .inl ⟨fn, _, _, h1, h2⟩
 ·cases h; obtain ⟨fn, h1, h2⟩ := f37_eq; exact .inl ⟨fn, _, _, h1, h2⟩
 ·cases h; obtain ⟨fn, h1, h2⟩ := f38_eq; exact .inl ⟨fn, _, _, h1, h2⟩
 ·cases h; obtain ⟨fn, h1, h2⟩ := f39_eq; exact .inl ⟨fn, _, _, h1, h2⟩
 ·cases h; obtain ⟨fn, h1, h2⟩ := f40_eq; exact .inl ⟨fn, _, _, h1, h2⟩
 ·cases h; obtain ⟨fn, h1, h2⟩ := f41_eq; exact .inl ⟨fn, _, _, h1, h2⟩
 ·cases h; obtain ⟨fn, h1, h2⟩ := f42_eq; exact .inl ⟨fn, _, _, h1, h2⟩
 ·cases h; obtain ⟨fn, h1, h2⟩ := f43_eq; exact .inl ⟨fn, _, _, h1, h2⟩
 ·cases h; obtain ⟨fn, h1, h2⟩ := f45_eq; exact .inl ⟨fn, _, _, h1, h2⟩
 ·cases h; obtain ⟨fn, h1, h2⟩ := f46_eq; exact .inl ⟨fn, _, _, h1, h2⟩
 ·cases h; obtain ⟨fn, h1, h2⟩ := f47_eq; exact .inl ⟨fn, _, _, h1, h2⟩
 ·cases h; obtain ⟨fn, h1, h2⟩ := f48_eq; exact .inl ⟨fn, _, _, h1, h2⟩
 ·cases h; obtain ⟨fn, h1, h2⟩ := f49_eq; exact .inl ⟨fn, _, _, h1, h2⟩
 ·cases h; obtain ⟨fn, h1, h2⟩ := f50_eq; exact .inl ⟨fn, _, _, h1, h2⟩
 ·cases h; obtain ⟨fn, h1, h2⟩ := f51_eq; exact .inl ⟨fn, _, _, h1, h2⟩
 ·cases h; obtain ⟨fn, h1, h2⟩ := f54_eq; exact .inl ⟨fn, _, _, h1, h2⟩
 ·cases h; obtain ⟨fn, h1, h2⟩ := f58_eq; exact .inl ⟨fn, _, _, h1, h2⟩
 ·cases h; obtain ⟨fn, h1, h2⟩ := f59_eq; exact .inl ⟨fn, _, _, h1, h2⟩
 ·cases h; obtain ⟨fn, h1, h2⟩ := f60_eq; exact .inl ⟨fn, _, _, h1, h2⟩
 ·cases h; obtain ⟨fn, h1, h2⟩ := f61_eq; exact .inl ⟨fn, _, _, h1, h2⟩
 ·cases h; obtain ⟨fn, h1, h2⟩ := f62_eq; exact .inl ⟨fn, _, _, h1, h2⟩
 ·cases h; obtain ⟨fn, h1, h2⟩ := f63_eq; exact .inl ⟨fn, _, _, h1, h2⟩
 ·cases h; obtain ⟨fn, h1, h2⟩ := f64_eq; exact .inl ⟨fn, _, _, h1, h2⟩
 ·cases h; obtain ⟨fn, h1, h2⟩ := f65_eq; exact .inl ⟨fn, _, _, h1, h2⟩
 ·cases h; obtain ⟨fn, h1, h2⟩ := f66_eq; exact .inl ⟨fn, _, _, h1, h2⟩
 ·cases h; obtain ⟨fn, h1, h2⟩ := f67_eq; exact .inl ⟨fn, _, _, h1, h2⟩
 ·cases h; obtain ⟨fn, h1, h2⟩ := f68_eq; exact .inl ⟨fn, _, _, h1, h2⟩
 ·cases h; obtain ⟨fn, h1, h2⟩ := f69_eq; exact .inl ⟨fn, _, _, h1, h2⟩
 ·cases h; obtain ⟨fn, h1, h2⟩ := f70_eq; exact .inl ⟨fn, _, _, h1, h2⟩
 ·cases h; obtain ⟨fn, h1, h2⟩ := f71_eq; exact .inl ⟨fn, _, _, h1, h2⟩
 ·cases h; obtain ⟨fn, h1, h2⟩ := f74_eq; exact .inl ⟨fn, _, _, h1, h2⟩
 ·cases h; obtain ⟨fn, h1, h2⟩ := f76_eq; exact .inl ⟨fn, _, _, h1, h2⟩
 ·cases h; obtain ⟨fn, h1, h2⟩ := f77_eq; exact .inl ⟨fn, _, _, h1, h2⟩
 ·cases h; obtain ⟨fn, h1, h2⟩ := f78_eq; exact .inl ⟨fn, _, _, h1, h2⟩
 ·cases h; obtain ⟨fn, h1, h2⟩ := f79_eq; exact .inl ⟨fn, _, _, h1, h2⟩
 ·cases h; obtain ⟨fn, h1, h2⟩ := f80_eq; exact .inl ⟨fn, _, _, h1, h2⟩
 ·cases h; obtain ⟨fn, h1, h2⟩ := f82_eq; exact .inl ⟨fn, _, _, h1, h2⟩
 ·cases h; obtain ⟨fn, h1, h2⟩ := f90_eq; exact .inl ⟨fn, _, _, h1, h2⟩
 ·cases h; obtain ⟨fn, h1, h2⟩ := f91_eq; exact .inl ⟨fn, _, _, h1, h2⟩
 ·cases h; obtain ⟨fn, h1, h2⟩ := f93_eq; exact .inl ⟨fn, _, _, h1, h2⟩
 ·cases h; obtain ⟨fn, h1, h2⟩ := f98_eq; exact .inl ⟨fn, _, _, h1, h2⟩
 ·cases h; obtain ⟨fn, h1, h2⟩ := f99_eq; exact .inl ⟨fn, _, _, h1, h2⟩
 ·cases h
theorem follows : Tryd.prog.follows .mixedOrders = true := by kernel_rfl
end Go.Proofs.YtfhijkapcdmdnaaDoor
