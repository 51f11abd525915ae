/- The seat's functions as the machine's: each is what the machine's own turning of the program's function gives. Printed by a program. -/
import Derived.Test.YtfhijkapcdmdnaaDoorFns1
import Derived.Test.YtfhijkapcdmdnaaDoorProg
import Derived.KernelRfl
import Derived.Shelf.Vars
namespace Go.Proofs.YtfhijkapcdmdnaaDoor
open Go.AM
set_option maxRecDepth 100000
def f5s : List Sh := [(.sl (.st [(.int .i64),(.int .i64),(.int .i64),.str,(.sl (.st [.str,(.int .i64),(.int .i64)])),.bool])),(.int .i64)]
def f75 : AFn := ⟨2,0,[],.stuck,1,some libTrim⟩
def tab : Tab := fun g => match g with
 | 75 => some f75
 | 5 => some f5
 | 9 => some f9
 | 10 => some f10
 | 11 => some f11
 | 12 => some f12
 | 13 => some f13
 | 14 => some f14
 | 15 => some f15
 | 16 => some f16
 | 18 => some f18
 | 21 => some f21
 | 22 => some f22
 | 23 => some f23
 | 26 => some f26
 | 27 => some f27
 | 28 => some f28
 | 29 => some f29
 | 30 => some f30
 | 31 => some f31
 | 32 => some f32
 | 33 => some f33
 | 34 => some f34
 | 35 => some f35
 | 36 => some f36
 | 37 => some f37
 | 38 => some f38
 | 39 => some f39
 | 40 => some f40
 | 41 => some f41
 | 42 => some f42
 | 43 => some f43
 | 45 => some f45
 | 46 => some f46
 | 47 => some f47
 | 48 => some f48
 | 49 => some f49
 | 50 => some f50
 | 51 => some f51
 | 54 => some f54
 | 58 => some f58
 | 59 => some f59
 | 60 => some f60
 | 61 => some f61
 | 62 => some f62
 | 63 => some f63
 | 64 => some f64
 | 65 => some f65
 | 66 => some f66
 | 67 => some f67
 | 68 => some f68
 | 69 => some f69
 | 70 => some f70
 | 71 => some f71
 | 74 => some f74
 | 76 => some f76
 | 77 => some f77
 | 78 => some f78
 | 79 => some f79
 | 80 => some f80
 | 82 => some f82
 | 90 => some f90
 | 91 => some f91
 | 93 => some f93
 | 98 => some f98
 | 99 => some f99
 | _ => none
theorem f77_p (args : List AV) : isPure tab 77 args = imm.immL args := rfl
theorem f5_eq : ∃ fn,Tryd.prog.funcs[5]? = some fn ∧ compF Tryd.prog G f5v f5k f5.mode fn = some f5 := ⟨Tryd.f5,Tryd.func5,by kernel_rfl⟩
theorem f9_eq : ∃ fn,Tryd.prog.funcs[9]? = some fn ∧ compF Tryd.prog G f9v f9k f9.mode fn = some f9 := ⟨Tryd.f9,Tryd.func9,by kernel_rfl⟩
theorem f10_eq : ∃ fn,Tryd.prog.funcs[10]? = some fn ∧ compF Tryd.prog G f10v f10k f10.mode fn = some f10 := ⟨Tryd.f10,Tryd.func10,by kernel_rfl⟩
theorem f11_eq : ∃ fn,Tryd.prog.funcs[11]? = some fn ∧ compF Tryd.prog G f11v f11k f11.mode fn = some f11 := ⟨Tryd.f11,Tryd.func11,by kernel_rfl⟩
theorem f12_eq : ∃ fn,Tryd.prog.funcs[12]? = some fn ∧ compF Tryd.prog G f12v f12k f12.mode fn = some f12 := ⟨Tryd.f12,Tryd.func12,by kernel_rfl⟩
theorem f13_eq : ∃ fn,Tryd.prog.funcs[13]? = some fn ∧ compF Tryd.prog G f13v f13k f13.mode fn = some f13 := ⟨Tryd.f13,Tryd.func13,by kernel_rfl⟩
theorem f14_eq : ∃ fn,Tryd.prog.funcs[14]? = some fn ∧ compF Tryd.prog G f14v f14k f14.mode fn = some f14 := ⟨Tryd.f14,Tryd.func14,by kernel_rfl⟩
theorem f15_eq : ∃ fn,Tryd.prog.funcs[15]? = some fn ∧ compF Tryd.prog G f15v f15k f15.mode fn = some f15 := ⟨Tryd.f15,Tryd.func15,by kernel_rfl⟩
theorem f16_eq : ∃ fn,Tryd.prog.funcs[16]? = some fn ∧ compF Tryd.prog G f16v f16k f16.mode fn = some f16 := ⟨Tryd.f16,Tryd.func16,by kernel_rfl⟩
theorem f18_eq : ∃ fn,Tryd.prog.funcs[18]? = some fn ∧ compF Tryd.prog G f18v f18k f18.mode fn = some f18 := ⟨Tryd.f18,Tryd.func18,by kernel_rfl⟩
theorem f21_eq : ∃ fn,Tryd.prog.funcs[21]? = some fn ∧ compF Tryd.prog G f21v f21k f21.mode fn = some f21 := ⟨Tryd.f21,Tryd.func21,by kernel_rfl⟩
theorem f22_eq : ∃ fn,Tryd.prog.funcs[22]? = some fn ∧ compF Tryd.prog G f22v f22k f22.mode fn = some f22 := ⟨Tryd.f22,Tryd.func22,by kernel_rfl⟩
theorem f23_eq : ∃ fn,Tryd.prog.funcs[23]? = some fn ∧ compF Tryd.prog G f23v f23k f23.mode fn = some f23 := ⟨Tryd.f23,Tryd.func23,by kernel_rfl⟩
theorem f26_eq : ∃ fn,Tryd.prog.funcs[26]? = some fn ∧ compF Tryd.prog G f26v f26k f26.mode fn = some f26 := ⟨Tryd.f26,Tryd.func26,by kernel_rfl⟩
theorem f27_eq : ∃ fn,Tryd.prog.funcs[27]? = some fn ∧ compF Tryd.prog G f27v f27k f27.mode fn = some f27 := ⟨Tryd.f27,Tryd.func27,by kernel_rfl⟩
theorem f28_eq : ∃ fn,Tryd.prog.funcs[28]? = some fn ∧ compF Tryd.prog G f28v f28k f28.mode fn = some f28 := ⟨Tryd.f28,Tryd.func28,by kernel_rfl⟩
theorem f29_eq : ∃ fn,Tryd.prog.funcs[29]? = some fn ∧ compF Tryd.prog G f29v f29k f29.mode fn = some f29 := ⟨Tryd.f29,Tryd.func29,by kernel_rfl⟩
theorem f30_eq : ∃ fn,Tryd.prog.funcs[30]? = some fn ∧ compF Tryd.prog G f30v f30k f30.mode fn = some f30 := ⟨Tryd.f30,Tryd.func30,by kernel_rfl⟩
theorem f31_eq : ∃ fn,Tryd.prog.funcs[31]? = some fn ∧ compF Tryd.prog G f31v f31k f31.mode fn = some f31 := ⟨Tryd.f31,Tryd.func31,by kernel_rfl⟩
theorem f32_eq : ∃ fn,Tryd.prog.funcs[32]? = some fn ∧ compF Tryd.prog G f32v f32k f32.mode fn = some f32 := ⟨Tryd.f32,Tryd.func32,by kernel_rfl⟩
theorem f33_eq : ∃ fn,Tryd.prog.funcs[33]? = some fn ∧ compF Tryd.prog G f33v f33k f33.mode fn = some f33 := ⟨Tryd.f33,Tryd.func33,by kernel_rfl⟩
theorem f34_eq : ∃ fn,Tryd.prog.funcs[34]? = some fn ∧ compF Tryd.prog G f34v f34k f34.mode fn = some f34 := ⟨Tryd.f34,Tryd.func34,by kernel_rfl⟩
theorem f35_eq : ∃ fn,Tryd.prog.funcs[35]? = some fn ∧ compF Tryd.prog G f35v f35k f35.mode fn = some f35 := ⟨Tryd.f35,Tryd.func35,by kernel_rfl⟩
theorem f36_eq : ∃ fn,Tryd.prog.funcs[36]? = some fn ∧ compF Tryd.prog G f36v f36k f36.mode fn = some f36 := ⟨Tryd.f36,Tryd.func36,by kernel_rfl⟩
theorem f37_eq : ∃ fn,Tryd.prog.funcs[37]? = some fn ∧ compF Tryd.prog G f37v f37k f37.mode fn = some f37 := ⟨Tryd.f37,Tryd.func37,by kernel_rfl⟩
theorem f38_eq : ∃ fn,Tryd.prog.funcs[38]? = some fn ∧ compF Tryd.prog G f38v f38k f38.mode fn = some f38 := ⟨Tryd.f38,Tryd.func38,by kernel_rfl⟩
theorem f39_eq : ∃ fn,Tryd.prog.funcs[39]? = some fn ∧ compF Tryd.prog G f39v f39k f39.mode fn = some f39 := ⟨Tryd.f39,Tryd.func39,by kernel_rfl⟩
theorem f40_eq : ∃ fn,Tryd.prog.funcs[40]? = some fn ∧ compF Tryd.prog G f40v f40k f40.mode fn = some f40 := ⟨Tryd.f40,Tryd.func40,by kernel_rfl⟩
theorem f41_eq : ∃ fn,Tryd.prog.funcs[41]? = some fn ∧ compF Tryd.prog G f41v f41k f41.mode fn = some f41 := ⟨Tryd.f41,Tryd.func41,by kernel_rfl⟩
theorem f42_eq : ∃ fn,Tryd.prog.funcs[42]? = some fn ∧ compF Tryd.prog G f42v f42k f42.mode fn = some f42 := ⟨Tryd.f42,Tryd.func42,by kernel_rfl⟩
theorem f43_eq : ∃ fn,Tryd.prog.funcs[43]? = some fn ∧ compF Tryd.prog G f43v f43k f43.mode fn = some f43 := ⟨Tryd.f43,Tryd.func43,by kernel_rfl⟩
theorem f45_eq : ∃ fn,Tryd.prog.funcs[45]? = some fn ∧ compF Tryd.prog G f45v f45k f45.mode fn = some f45 := ⟨Tryd.f45,Tryd.func45,by kernel_rfl⟩
theorem f46_eq : ∃ fn,Tryd.prog.funcs[46]? = some fn ∧ compF Tryd.prog G f46v f46k f46.mode fn = some f46 := ⟨Tryd.f46,Tryd.func46,by kernel_rfl⟩
theorem f47_eq : ∃ fn,Tryd.prog.funcs[47]? = some fn ∧ compF Tryd.prog G f47v f47k f47.mode fn = some f47 := ⟨Tryd.f47,Tryd.func47,by kernel_rfl⟩
theorem f48_eq : ∃ fn,Tryd.prog.funcs[48]? = some fn ∧ compF Tryd.prog G f48v f48k f48.mode fn = some f48 := ⟨Tryd.f48,Tryd.func48,by kernel_rfl⟩
theorem f49_eq : ∃ fn,Tryd.prog.funcs[49]? = some fn ∧ compF Tryd.prog G f49v f49k f49.mode fn = some f49 := ⟨Tryd.f49,Tryd.func49,by kernel_rfl⟩
theorem f50_eq : ∃ fn,Tryd.prog.funcs[50]? = some fn ∧ compF Tryd.prog G f50v f50k f50.mode fn = some f50 := ⟨Tryd.f50,Tryd.func50,by kernel_rfl⟩
theorem f51_eq : ∃ fn,Tryd.prog.funcs[51]? = some fn ∧ compF Tryd.prog G f51v f51k f51.mode fn = some f51 := ⟨Tryd.f51,Tryd.func51,by kernel_rfl⟩
theorem f54_eq : ∃ fn,Tryd.prog.funcs[54]? = some fn ∧ compF Tryd.prog G f54v f54k f54.mode fn = some f54 := ⟨Tryd.f54,Tryd.func54,by kernel_rfl⟩
theorem f58_eq : ∃ fn,Tryd.prog.funcs[58]? = some fn ∧ compF Tryd.prog G f58v f58k f58.mode fn = some f58 := ⟨Tryd.f58,Tryd.func58,by kernel_rfl⟩
theorem f59_eq : ∃ fn,Tryd.prog.funcs[59]? = some fn ∧ compF Tryd.prog G f59v f59k f59.mode fn = some f59 := ⟨Tryd.f59,Tryd.func59,by kernel_rfl⟩
theorem f60_eq : ∃ fn,Tryd.prog.funcs[60]? = some fn ∧ compF Tryd.prog G f60v f60k f60.mode fn = some f60 := ⟨Tryd.f60,Tryd.func60,by kernel_rfl⟩
theorem f61_eq : ∃ fn,Tryd.prog.funcs[61]? = some fn ∧ compF Tryd.prog G f61v f61k f61.mode fn = some f61 := ⟨Tryd.f61,Tryd.func61,by kernel_rfl⟩
theorem f62_eq : ∃ fn,Tryd.prog.funcs[62]? = some fn ∧ compF Tryd.prog G f62v f62k f62.mode fn = some f62 := ⟨Tryd.f62,Tryd.func62,by kernel_rfl⟩
theorem f63_eq : ∃ fn,Tryd.prog.funcs[63]? = some fn ∧ compF Tryd.prog G f63v f63k f63.mode fn = some f63 := ⟨Tryd.f63,Tryd.func63,by kernel_rfl⟩
theorem f64_eq : ∃ fn,Tryd.prog.funcs[64]? = some fn ∧ compF Tryd.prog G f64v f64k f64.mode fn = some f64 := ⟨Tryd.f64,Tryd.func64,by kernel_rfl⟩
theorem f65_eq : ∃ fn,Tryd.prog.funcs[65]? = some fn ∧ compF Tryd.prog G f65v f65k f65.mode fn = some f65 := ⟨Tryd.f65,Tryd.func65,by kernel_rfl⟩
theorem f66_eq : ∃ fn,Tryd.prog.funcs[66]? = some fn ∧ compF Tryd.prog G f66v f66k f66.mode fn = some f66 := ⟨Tryd.f66,Tryd.func66,by kernel_rfl⟩
theorem f67_eq : ∃ fn,Tryd.prog.funcs[67]? = some fn ∧ compF Tryd.prog G f67v f67k f67.mode fn = some f67 := ⟨Tryd.f67,Tryd.func67,by kernel_rfl⟩
theorem f68_eq : ∃ fn,Tryd.prog.funcs[68]? = some fn ∧ compF Tryd.prog G f68v f68k f68.mode fn = some f68 := ⟨Tryd.f68,Tryd.func68,by kernel_rfl⟩
theorem f69_eq : ∃ fn,Tryd.prog.funcs[69]? = some fn ∧ compF Tryd.prog G f69v f69k f69.mode fn = some f69 := ⟨Tryd.f69,Tryd.func69,by kernel_rfl⟩
theorem f70_eq : ∃ fn,Tryd.prog.funcs[70]? = some fn ∧ compF Tryd.prog G f70v f70k f70.mode fn = some f70 := ⟨Tryd.f70,Tryd.func70,by kernel_rfl⟩
theorem f71_eq : ∃ fn,Tryd.prog.funcs[71]? = some fn ∧ compF Tryd.prog G f71v f71k f71.mode fn = some f71 := ⟨Tryd.f71,Tryd.func71,by kernel_rfl⟩
theorem f74_eq : ∃ fn,Tryd.prog.funcs[74]? = some fn ∧ compF Tryd.prog G f74v f74k f74.mode fn = some f74 := ⟨Tryd.f74,Tryd.func74,by kernel_rfl⟩
theorem f76_eq : ∃ fn,Tryd.prog.funcs[76]? = some fn ∧ compF Tryd.prog G f76v f76k f76.mode fn = some f76 := ⟨Tryd.f76,Tryd.func76,by kernel_rfl⟩
theorem f77_eq : ∃ fn,Tryd.prog.funcs[77]? = some fn ∧ compF Tryd.prog G f77v f77k f77.mode fn = some f77 := ⟨Tryd.f77,Tryd.func77,by kernel_rfl⟩
theorem f78_eq : ∃ fn,Tryd.prog.funcs[78]? = some fn ∧ compF Tryd.prog G f78v f78k f78.mode fn = some f78 := ⟨Tryd.f78,Tryd.func78,by kernel_rfl⟩
theorem f79_eq : ∃ fn,Tryd.prog.funcs[79]? = some fn ∧ compF Tryd.prog G f79v f79k f79.mode fn = some f79 := ⟨Tryd.f79,Tryd.func79,by kernel_rfl⟩
theorem f80_eq : ∃ fn,Tryd.prog.funcs[80]? = some fn ∧ compF Tryd.prog G f80v f80k f80.mode fn = some f80 := ⟨Tryd.f80,Tryd.func80,by kernel_rfl⟩
theorem f82_eq : ∃ fn,Tryd.prog.funcs[82]? = some fn ∧ compF Tryd.prog G f82v f82k f82.mode fn = some f82 := ⟨Tryd.f82,Tryd.func82,by kernel_rfl⟩
theorem f90_eq : ∃ fn,Tryd.prog.funcs[90]? = some fn ∧ compF Tryd.prog G f90v f90k f90.mode fn = some f90 := ⟨Tryd.f90,Tryd.func90,by kernel_rfl⟩
theorem f91_eq : ∃ fn,Tryd.prog.funcs[91]? = some fn ∧ compF Tryd.prog G f91v f91k f91.mode fn = some f91 := ⟨Tryd.f91,Tryd.func91,by kernel_rfl⟩
theorem f93_eq : ∃ fn,Tryd.prog.funcs[93]? = some fn ∧ compF Tryd.prog G f93v f93k f93.mode fn = some f93 := ⟨Tryd.f93,Tryd.func93,by kernel_rfl⟩
theorem f98_eq : ∃ fn,Tryd.prog.funcs[98]? = some fn ∧ compF Tryd.prog G f98v f98k f98.mode fn = some f98 := ⟨Tryd.f98,Tryd.func98,by kernel_rfl⟩
theorem f99_eq : ∃ fn,Tryd.prog.funcs[99]? = some fn ∧ compF Tryd.prog G f99v f99k f99.mode fn = some f99 := ⟨Tryd.f99,Tryd.func99,by kernel_rfl⟩
theorem tab_ok : TabOK Tryd.prog G tab := by
 intro g f h
 unfold tab at h
 split at h
 ·cases h; exact .inr ⟨libTrim,rfl,rfl,spec_75⟩
 ·cases h; obtain ⟨fn,h1,h2⟩ := f5_eq; exact .inl ⟨fn,_,_,h1,h2⟩
 ·cases h; obtain ⟨fn,h1,h2⟩ := f9_eq; exact .inl ⟨fn,_,_,h1,h2⟩
 ·cases h; obtain ⟨fn,h1,h2⟩ := f10_eq; exact .inl ⟨fn,_,_,h1,h2⟩
 ·cases h; obtain ⟨fn,h1,h2⟩ := f11_eq; exact .inl ⟨fn,_,_,h1,h2⟩
 ·cases h; obtain ⟨fn,h1,h2⟩ := f12_eq; exact .inl ⟨fn,_,_,h1,h2⟩
 ·cases h; obtain ⟨fn,h1,h2⟩ := f13_eq; exact .inl ⟨fn,_,_,h1,h2⟩
 ·cases h; obtain ⟨fn,h1,h2⟩ := f14_eq; exact .inl ⟨fn,_,_,h1,h2⟩
 ·cases h; obtain ⟨fn,h1,h2⟩ := f15_eq; exact .inl ⟨fn,_,_,h1,h2⟩
 ·cases h; obtain ⟨fn,h1,h2⟩ := f16_eq; exact .inl ⟨fn,_,_,h1,h2⟩
 ·cases h; obtain ⟨fn,h1,h2⟩ := f18_eq; exact .inl ⟨fn,_,_,h1,h2⟩
 ·cases h; obtain ⟨fn,h1,h2⟩ := f21_eq; exact .inl ⟨fn,_,_,h1,h2⟩
 ·cases h; obtain ⟨fn,h1,h2⟩ := f22_eq; exact .inl ⟨fn,_,_,h1,h2⟩
 ·cases h; obtain ⟨fn,h1,h2⟩ := f23_eq; exact .inl ⟨fn,_,_,h1,h2⟩
 ·cases h; obtain ⟨fn,h1,h2⟩ := f26_eq; exact .inl ⟨fn,_,_,h1,h2⟩
 ·cases h; obtain ⟨fn,h1,h2⟩ := f27_eq; exact .inl ⟨fn,_,_,h1,h2⟩
 ·cases h; obtain ⟨fn,h1,h2⟩ := f28_eq; exact .inl ⟨fn,_,_,h1,h2⟩
 ·cases h; obtain ⟨fn,h1,h2⟩ := f29_eq; exact .inl ⟨fn,_,_,h1,h2⟩
 ·cases h; obtain ⟨fn,h1,h2⟩ := f30_eq; exact .inl ⟨fn,_,_,h1,h2⟩
 ·cases h; obtain ⟨fn,h1,h2⟩ := f31_eq; exact .inl ⟨fn,_,_,h1,h2⟩
 ·cases h; obtain ⟨fn,h1,h2⟩ := f32_eq; exact .inl ⟨fn,_,_,h1,h2⟩
 ·cases h; obtain ⟨fn,h1,h2⟩ := f33_eq; exact .inl ⟨fn,_,_,h1,h2⟩
 ·cases h; obtain ⟨fn,h1,h2⟩ := f34_eq; exact .inl ⟨fn,_,_,h1,h2⟩
 ·cases h; obtain ⟨fn,h1,h2⟩ := f35_eq; exact .inl ⟨fn,_,_,h1,h2⟩
 ·cases h; obtain ⟨fn,h1,h2⟩ := f36_eq; exact .inl ⟨fn,_,_,h1,h2⟩
 ·cases h; obtain ⟨fn,h1,h2⟩ := f37_eq; exact .inl ⟨fn,_,_,h1,h2⟩
 ·cases h; obtain ⟨fn,h1,h2⟩ := f38_eq; exact .inl ⟨fn,_,_,h1,h2⟩
 ·cases h; obtain ⟨fn,h1,h2⟩ := f39_eq; exact .inl ⟨fn,_,_,h1,h2⟩
 ·cases h; obtain ⟨fn,h1,h2⟩ := f40_eq; exact .inl ⟨fn,_,_,h1,h2⟩
 ·cases h; obtain ⟨fn,h1,h2⟩ := f41_eq; exact .inl ⟨fn,_,_,h1,h2⟩
 ·cases h; obtain ⟨fn,h1,h2⟩ := f42_eq; exact .inl ⟨fn,_,_,h1,h2⟩
 ·cases h; obtain ⟨fn,h1,h2⟩ := f43_eq; exact .inl ⟨fn,_,_,h1,h2⟩
 ·cases h; obtain ⟨fn,h1,h2⟩ := f45_eq; exact .inl ⟨fn,_,_,h1,h2⟩
 ·cases h; obtain ⟨fn,h1,h2⟩ := f46_eq; exact .inl ⟨fn,_,_,h1,h2⟩
 ·cases h; obtain ⟨fn,h1,h2⟩ := f47_eq; exact .inl ⟨fn,_,_,h1,h2⟩
 ·cases h; obtain ⟨fn,h1,h2⟩ := f48_eq; exact .inl ⟨fn,_,_,h1,h2⟩
 ·cases h; obtain ⟨fn,h1,h2⟩ := f49_eq; exact .inl ⟨fn,_,_,h1,h2⟩
 ·cases h; obtain ⟨fn,h1,h2⟩ := f50_eq; exact .inl ⟨fn,_,_,h1,h2⟩
 ·cases h; obtain ⟨fn,h1,h2⟩ := f51_eq; exact .inl ⟨fn,_,_,h1,h2⟩
 ·cases h; obtain ⟨fn,h1,h2⟩ := f54_eq; exact .inl ⟨fn,_,_,h1,h2⟩
 ·cases h; obtain ⟨fn,h1,h2⟩ := f58_eq; exact .inl ⟨fn,_,_,h1,h2⟩
 ·cases h; obtain ⟨fn,h1,h2⟩ := f59_eq; exact .inl ⟨fn,_,_,h1,h2⟩
 ·cases h; obtain ⟨fn,h1,h2⟩ := f60_eq; exact .inl ⟨fn,_,_,h1,h2⟩
 ·cases h; obtain ⟨fn,h1,h2⟩ := f61_eq; exact .inl ⟨fn,_,_,h1,h2⟩
 ·cases h; obtain ⟨fn,h1,h2⟩ := f62_eq; exact .inl ⟨fn,_,_,h1,h2⟩
 ·cases h; obtain ⟨fn,h1,h2⟩ := f63_eq; exact .inl ⟨fn,_,_,h1,h2⟩
 ·cases h; obtain ⟨fn,h1,h2⟩ := f64_eq; exact .inl ⟨fn,_,_,h1,h2⟩
 ·cases h; obtain ⟨fn,h1,h2⟩ := f65_eq; exact .inl ⟨fn,_,_,h1,h2⟩
 ·cases h; obtain ⟨fn,h1,h2⟩ := f66_eq; exact .inl ⟨fn,_,_,h1,h2⟩
 ·cases h; obtain ⟨fn,h1,h2⟩ := f67_eq; exact .inl ⟨fn,_,_,h1,h2⟩
 ·cases h; obtain ⟨fn,h1,h2⟩ := f68_eq; exact .inl ⟨fn,_,_,h1,h2⟩
 ·cases h; obtain ⟨fn,h1,h2⟩ := f69_eq; exact .inl ⟨fn,_,_,h1,h2⟩
 ·cases h; obtain ⟨fn,h1,h2⟩ := f70_eq; exact .inl ⟨fn,_,_,h1,h2⟩
 ·cases h; obtain ⟨fn,h1,h2⟩ := f71_eq; exact .inl ⟨fn,_,_,h1,h2⟩
 ·cases h; obtain ⟨fn,h1,h2⟩ := f74_eq; exact .inl ⟨fn,_,_,h1,h2⟩
 ·cases h; obtain ⟨fn,h1,h2⟩ := f76_eq; exact .inl ⟨fn,_,_,h1,h2⟩
 ·cases h; obtain ⟨fn,h1,h2⟩ := f77_eq; exact .inl ⟨fn,_,_,h1,h2⟩
 ·cases h; obtain ⟨fn,h1,h2⟩ := f78_eq; exact .inl ⟨fn,_,_,h1,h2⟩
 ·cases h; obtain ⟨fn,h1,h2⟩ := f79_eq; exact .inl ⟨fn,_,_,h1,h2⟩
 ·cases h; obtain ⟨fn,h1,h2⟩ := f80_eq; exact .inl ⟨fn,_,_,h1,h2⟩
 ·cases h; obtain ⟨fn,h1,h2⟩ := f82_eq; exact .inl ⟨fn,_,_,h1,h2⟩
 ·cases h; obtain ⟨fn,h1,h2⟩ := f90_eq; exact .inl ⟨fn,_,_,h1,h2⟩
 ·cases h; obtain ⟨fn,h1,h2⟩ := f91_eq; exact .inl ⟨fn,_,_,h1,h2⟩
 ·cases h; obtain ⟨fn,h1,h2⟩ := f93_eq; exact .inl ⟨fn,_,_,h1,h2⟩
 ·cases h; obtain ⟨fn,h1,h2⟩ := f98_eq; exact .inl ⟨fn,_,_,h1,h2⟩
 ·cases h; obtain ⟨fn,h1,h2⟩ := f99_eq; exact .inl ⟨fn,_,_,h1,h2⟩
 ·cases h
theorem follows : Tryd.prog.follows .mixedOrders = true := by kernel_rfl
attribute [simp] f62c f62m4 f62r0 f62r1 f62r2 f62r3 f62r4 f62r5 f62r6 f62r7 f62r8 f62r9 f62r10 f62l4_b f93c f93r0 f93r1 f82c f82r0 f82r1 f82r2 f82r3 f74c f74r0 f74r1 f43c f43r0 f43r1 f66c f66r0 f66r1 f66r2 f66r3 f66r4 f66r5 f66r6 f66r7 f66r8 f66r9 f66r10 f66r11 f66r12 f66r13 f66r14 f66r15 f66r16 f66r17 f58c f58r0 f58r1 f58r2 f58r3 f58r4 f29c f29r0 f29r1 f41c f41r0 f41r1 f60c f60r0 f60r1 f60r2 f60r3 f42c f42r0 f42r1 f42r2 f42r3 f42r4 f42r5 f42r6 f42r7 f42r8 f42r9 f42r10 f42r11 f61c f61r0 f61r1 f61r2 f61r3 f61r4 f61r5 f61r6 f32c f32r0 f32r1 f32r2 f32r3 f46c f46r0 f46r1 f46r2 f47c f47r0 f47r1 f47r2 f47r3 f47r4 f47r5 f47r6 f47r7 f47r8 f47r10 f47r11 f47r12 f47r13 f47r15 f47r16 f47r17 f47r18 f47r19 f47r20 f47r21 f47r22 f47r23 f31c f31m5 f31r0 f31r1 f31r2 f31r3 f31r4 f31r5 f31r6 f31r7 f31r8 f31r9 f31r10 f31r11 f31r12 f31r13 f31r14 f31r15 f31r16 f31r17 f31r18 f31l5_b f26c f26m3 f26r0 f26r1 f26r2 f26r3 f26r4 f26r5 f26r6 f26l3_b f48c f48r0 f48r1 f48r2 f48r3 f48r4 f48r5 f48r6 f48r7 f48r8 f48r9 f48m11 f48r10 f48r11 f48r12 f48r13 f48r14 f48r15 f48r16 f48r17 f48l11_b f22c f22m6 f22r0 f22r1 f22r2 f22r3 f22r4 f22r5 f22r6 f22r7 f22r8 f22m23 f22m29 f22r10 f22r12 f22r13 f22r14 f22r15 f22r17 f22r18 f22r20 f22r21 f22r22 f22r23 f22r24 f22r25 f22r26 f22r27 f22r28 f22r29 f22r30 f22r31 f22r32 f22r33 f22r34 f22l6_b f22r9_u f22r9_w f22l23_b f22l29_b f22r16_u f22r16_w f22r19_u f22r19_w f90c f90r0 f90r1 f79c f79r0 f79r1 f70c f70r0 f70r1 f98c f98r0 f98r1 f98r2 f98r3 f98r4 f98r5 f98r6 f98r7 f98r8 f98r9 f98r10 f98r11 f98r12 f98r13 f98r14 f98r15 f98r16 f98r17 f78c f78m4 f78r0 f78r1 f78r2 f78r3 f78r4 f78r5 f78r6 f78r7 f78r8 f78l4_b f68c f68m4 f68r0 f68r1 f68r2 f68r3 f68r4 f68r5 f68r6 f68r7 f68r8 f68l4_b f63c f63r0 f63r1 f35c f35r0 f35r1 f35r2 f35r3 f99c f99r0 f99r1 f99r2 f14c f14r0 f14r1 f71c f71r0 f71r1 f71r2 f71r3 f71r4 f71r5 f71r6 f91c f91r0 f91r1 f91r2 f91r3 f91r4 f91r5 f91r6 f80c f80r0 f80r1 f80r2 f80r3 f80r4 f80r5 f80r6 f80r7 f80r8 f80r9 f80m15 f80r10 f80r11 f80r12 f80r13 f80r14 f80r15 f80r17 f80r18 f80r19 f80l15_b f80r16_u f80r16_w f69c f69m4 f69r0 f69r1 f69r2 f69r3 f69r4 f69r5 f69r6 f69r7 f69r8 f69r9 f69l4_b f67c f67m4 f67r0 f67r1 f67r2 f67r3 f67r4 f67r6 f67r7 f67r8 f67l4_b f67r5_u f67r5_w f49c f49r0 f49r1 f49r2 f49r3 f49r4 f49r5 f49r6 f49r7 f49r8 f49r9 f49r10 f49r11 f49r12 f49r13 f49r14 f49r15 f50c f50m5 f50r0 f50r1 f50r2 f50r3 f50r4 f50r5 f50r7 f50r8 f50r9 f50l5_b f50r6_u f50r6_w f51c f51m3 f51m6 f51r0 f51r1 f51r2 f51r3 f51r4 f51r5 f51r6 f51r7 f51r8 f51r9 f51m12 f51r10 f51r11 f51r12 f51r13 f51r14 f51r15 f51r16 f51r17 f51r18 f51r19 f51l3_b f51l6_b f51l12_b f45c f45r0 f45r1 f45r2 f45r3 f45r4 f21c f21m3 f21r0 f21r1 f21r2 f21r3 f21r5 f21r6 f21l3_b f23c f23m5 f23r0 f23r1 f23r2 f23r3 f23r4 f23r5 f23r6 f23r7 f23r8 f23r9 f23m11 f23r10 f23r11 f23r12 f23r13 f23r14 f23r15 f23l5_b f23l11_b f9c f9r0 f9r1 f9r2 f9r3 f9r4 f9r5 f77c f77r0 f77r1 f76c f76r0 f76r1 f54c f54r0 f54r1 f54r2 f54r3 f38c f38r0 f38r1 f38r2 f38r3 f64c f64m5 f64r0 f64r1 f64r2 f64r3 f64r4 f64r5 f64r6 f64r7 f64r8 f64r9 f77_p f64r10 f64r11 f64r12 f64r13 f64r14 f64r15 f64r17 f64r19 f64r20 f64r21 f64r22 f64r24 f64l5_b f64r16_u f64r16_w f64r18_u f64r18_w f64r23_u f64r23_w f65c f65m3 f65r0 f65r1 f65r2 f65r3 f65r4 f65r5 f65r6 f65r7 f65r9 f65r10 f65r12 f65r13 f65r14 f65r15 f65r16 f65l3_b f65r11_u f65r11_w f39c f39r0 f39r1 f39r2 f39r3 f39r4 f39r5 f39r6 f39r7 f39r8 f39r9 f39r10 f39r11 f39r12 f39r13 f39r14 f39r15 f39r16 f39r17 f39r18 f39r20 f39r19_u f39r19_w f33c f33r0 f33r1 f33r2 f33r3 f33r4 f33r5 f33r6 f33r7 f33r8 f33r9 f33r10 f33r11_u f33r11_w f15c f15r0 f15r1 f15r2 f16c f16r0 f16r1 f16r2 f34c f34r0 f34r1 f34r2 f13c f13r0 f13r1 f13r2 f13r3 f13r4 f13r5 f13r6 f37c f37m1 f37r0 f37r1 f37r2 f37r3 f37r4 f37l1_b f36c f36m6 f36r0 f36r1 f36r2 f36r3 f36r4 f36r5 f36r6 f36r7 f36r8 f36r9 f36m13 f36r10 f36r11 f36r12 f36r13 f36r14 f36r15 f36r16 f36r17 f36r18 f36r19 f36r20 f36r21 f36l6_b f36l13_b f18c f18r0 f18r1 f18r2 f18r3 f18r4 f18r5 f18r6 f18r7 f18r8 f18r9 f18m10 f18r10 f18r11 f18r12 f18r13 f18r14 f18r15 f18r16 f18r17 f18r18 f18l10_b f5c f5r0 f5r1 f5r2 f5r3 f5r4 f5r5 f5r6 f5r7 f5r8 f5r9 f5m12 f5m16 f5m23 f5m27 f5m36 f5m38 f5m43 f5m48 f5r10 f5r11 f5r12 f5r14 f5r15 f5r16 f5r17 f5r18 f5r20 f5r21 f5r22 f5r23 f5r24 f5r25 f5r26 f5r28 f5r29 f5r30 f5r31 f5r32 f5r33 f5r34 f5r35 f5r36 f5r37 f5r38 f5r39 f5r40 f5r41 f5r42 f5r43 f5r45 f5r46 f5r47 f5r48 f5r50 f5r51 f5r52 f5l12_b f5l16_b f5l23_b f5l27_b f5l36_b f5l38_b f5l43_b f5l48_b f5r13_u f5r13_w f5r19_u f5r19_w f5r27_u f5r27_w f5r44_u f5r44_w f5r49_u f5r49_w
end Go.Proofs.YtfhijkapcdmdnaaDoor
