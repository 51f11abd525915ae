/- The seat's functions as the machine's: each is what the machine's own turning of the program's function gives. Printed by a program. -/
import Derived.Test.YtfhijkapcdmdnaaGreatDoorFns1
import Derived.Test.YtfhijkapcdmdnaaGreatDoorProg
import Derived.KernelRfl
import Derived.Shelf.Vars
namespace Go.Proofs.YtfhijkapcdmdnaaGreatDoor
open Go.AM
set_option maxRecDepth 100000
def f3s : List Sh := [(.sl (.st [(.int .i64), (.int .i64), (.int .i64), .str, (.sl (.st [.str, (.int .i64), (.int .i64)])), .bool])), (.int .i64), (.int .i64)]
def f94s : List Sh := [(.int .i64), (.int .u32), (.int .u32)]
def f136 : AFn := ⟨2, 0, [], .stuck, 1, some libTrim⟩
theorem f136_p (A : Tab) (args : List AV) (h : A 136 = some f136) : isPure A 136 args = imm.immL args := by simp [isPure, h, f136]
def tab : Tab := fun g => match g with
 | 136 => some f136
 | 3 => some f3
 | 6 => some f6
 | 7 => some f7
 | 8 => some f8
 | 9 => some f9
 | 10 => some f10
 | 11 => some f11
 | 12 => some f12
 | 13 => some f13
 | 14 => some f14
 | 15 => some f15
 | 16 => some f16
 | 17 => some f17
 | 19 => some f19
 | 21 => some f21
 | 32 => some f32
 | 33 => some f33
 | 34 => some f34
 | 35 => some f35
 | 36 => some f36
 | 37 => some f37
 | 38 => some f38
 | 39 => some f39
 | 40 => some f40
 | 41 => some f41
 | 42 => some f42
 | 43 => some f43
 | 44 => some f44
 | 45 => some f45
 | 46 => some f46
 | 47 => some f47
 | 48 => some f48
 | 49 => some f49
 | 56 => some f56
 | 57 => some f57
 | 59 => some f59
 | 63 => some f63
 | 66 => some f66
 | 70 => some f70
 | 71 => some f71
 | 72 => some f72
 | 81 => some f81
 | 82 => some f82
 | 83 => some f83
 | 84 => some f84
 | 85 => some f85
 | 86 => some f86
 | 87 => some f87
 | 88 => some f88
 | 89 => some f89
 | 90 => some f90
 | 91 => some f91
 | 92 => some f92
 | 93 => some f93
 | 94 => some f94
 | 95 => some f95
 | 96 => some f96
 | 97 => some f97
 | 100 => some f100
 | 102 => some f102
 | 103 => some f103
 | 106 => some f106
 | 107 => some f107
 | 108 => some f108
 | 109 => some f109
 | 110 => some f110
 | 114 => some f114
 | 115 => some f115
 | 116 => some f116
 | 117 => some f117
 | 118 => some f118
 | 119 => some f119
 | 120 => some f120
 | 121 => some f121
 | 122 => some f122
 | 123 => some f123
 | 124 => some f124
 | 125 => some f125
 | 127 => some f127
 | 128 => some f128
 | 132 => some f132
 | 133 => some f133
 | 134 => some f134
 | 135 => some f135
 | 139 => some f139
 | 140 => some f140
 | 141 => some f141
 | 150 => some f150
 | _ => none
theorem f3_p (args : List AV) : isPure tab 3 args = imm.immL args := rfl
theorem f7_p (args : List AV) : isPure tab 7 args = imm.immL args := rfl
theorem f8_p (args : List AV) : isPure tab 8 args = imm.immL args := rfl
theorem f9_p (args : List AV) : isPure tab 9 args = imm.immL args := rfl
theorem f10_p (args : List AV) : isPure tab 10 args = imm.immL args := rfl
theorem f11_p (args : List AV) : isPure tab 11 args = imm.immL args := rfl
theorem f12_p (args : List AV) : isPure tab 12 args = imm.immL args := rfl
theorem f13_p (args : List AV) : isPure tab 13 args = imm.immL args := rfl
theorem f14_p (args : List AV) : isPure tab 14 args = imm.immL args := rfl
theorem f15_p (args : List AV) : isPure tab 15 args = imm.immL args := rfl
theorem f16_p (args : List AV) : isPure tab 16 args = imm.immL args := rfl
theorem f17_p (args : List AV) : isPure tab 17 args = imm.immL args := rfl
theorem f19_p (args : List AV) : isPure tab 19 args = imm.immL args := rfl
theorem f21_p (args : List AV) : isPure tab 21 args = imm.immL args := rfl
theorem f36_p (args : List AV) : isPure tab 36 args = imm.immL args := rfl
theorem f37_p (args : List AV) : isPure tab 37 args = imm.immL args := rfl
theorem f38_p (args : List AV) : isPure tab 38 args = imm.immL args := rfl
theorem f39_p (args : List AV) : isPure tab 39 args = imm.immL args := rfl
theorem f40_p (args : List AV) : isPure tab 40 args = imm.immL args := rfl
theorem f41_p (args : List AV) : isPure tab 41 args = imm.immL args := rfl
theorem f42_p (args : List AV) : isPure tab 42 args = imm.immL args := rfl
theorem f43_p (args : List AV) : isPure tab 43 args = imm.immL args := rfl
theorem f44_p (args : List AV) : isPure tab 44 args = imm.immL args := rfl
theorem f45_p (args : List AV) : isPure tab 45 args = imm.immL args := rfl
theorem f46_p (args : List AV) : isPure tab 46 args = imm.immL args := rfl
theorem f47_p (args : List AV) : isPure tab 47 args = imm.immL args := rfl
theorem f48_p (args : List AV) : isPure tab 48 args = imm.immL args := rfl
theorem f49_p (args : List AV) : isPure tab 49 args = imm.immL args := rfl
theorem f56_p (args : List AV) : isPure tab 56 args = imm.immL args := rfl
theorem f57_p (args : List AV) : isPure tab 57 args = imm.immL args := rfl
theorem f59_p (args : List AV) : isPure tab 59 args = imm.immL args := rfl
theorem f63_p (args : List AV) : isPure tab 63 args = imm.immL args := rfl
theorem f66_p (args : List AV) : isPure tab 66 args = imm.immL args := rfl
theorem f71_p (args : List AV) : isPure tab 71 args = imm.immL args := rfl
theorem f72_p (args : List AV) : isPure tab 72 args = imm.immL args := rfl
theorem f81_p (args : List AV) : isPure tab 81 args = imm.immL args := rfl
theorem f82_p (args : List AV) : isPure tab 82 args = imm.immL args := rfl
theorem f83_p (args : List AV) : isPure tab 83 args = imm.immL args := rfl
theorem f84_p (args : List AV) : isPure tab 84 args = imm.immL args := rfl
theorem f85_p (args : List AV) : isPure tab 85 args = imm.immL args := rfl
theorem f86_p (args : List AV) : isPure tab 86 args = imm.immL args := rfl
theorem f87_p (args : List AV) : isPure tab 87 args = imm.immL args := rfl
theorem f88_p (args : List AV) : isPure tab 88 args = imm.immL args := rfl
theorem f89_p (args : List AV) : isPure tab 89 args = imm.immL args := rfl
theorem f90_p (args : List AV) : isPure tab 90 args = imm.immL args := rfl
theorem f91_p (args : List AV) : isPure tab 91 args = imm.immL args := rfl
theorem f92_p (args : List AV) : isPure tab 92 args = imm.immL args := rfl
theorem f93_p (args : List AV) : isPure tab 93 args = imm.immL args := rfl
theorem f94_p (args : List AV) : isPure tab 94 args = imm.immL args := rfl
theorem f95_p (args : List AV) : isPure tab 95 args = imm.immL args := rfl
theorem f96_p (args : List AV) : isPure tab 96 args = imm.immL args := rfl
theorem f97_p (args : List AV) : isPure tab 97 args = imm.immL args := rfl
theorem f100_p (args : List AV) : isPure tab 100 args = imm.immL args := rfl
theorem f102_p (args : List AV) : isPure tab 102 args = imm.immL args := rfl
theorem f103_p (args : List AV) : isPure tab 103 args = imm.immL args := rfl
theorem f106_p (args : List AV) : isPure tab 106 args = imm.immL args := rfl
theorem f107_p (args : List AV) : isPure tab 107 args = imm.immL args := rfl
theorem f108_p (args : List AV) : isPure tab 108 args = imm.immL args := rfl
theorem f109_p (args : List AV) : isPure tab 109 args = imm.immL args := rfl
theorem f110_p (args : List AV) : isPure tab 110 args = imm.immL args := rfl
theorem f114_p (args : List AV) : isPure tab 114 args = imm.immL args := rfl
theorem f115_p (args : List AV) : isPure tab 115 args = imm.immL args := rfl
theorem f116_p (args : List AV) : isPure tab 116 args = imm.immL args := rfl
theorem f117_p (args : List AV) : isPure tab 117 args = imm.immL args := rfl
theorem f118_p (args : List AV) : isPure tab 118 args = imm.immL args := rfl
theorem f119_p (args : List AV) : isPure tab 119 args = imm.immL args := rfl
theorem f120_p (args : List AV) : isPure tab 120 args = imm.immL args := rfl
theorem f121_p (args : List AV) : isPure tab 121 args = imm.immL args := rfl
theorem f122_p (args : List AV) : isPure tab 122 args = imm.immL args := rfl
theorem f123_p (args : List AV) : isPure tab 123 args = imm.immL args := rfl
theorem f124_p (args : List AV) : isPure tab 124 args = imm.immL args := rfl
theorem f125_p (args : List AV) : isPure tab 125 args = imm.immL args := rfl
theorem f127_p (args : List AV) : isPure tab 127 args = imm.immL args := rfl
theorem f128_p (args : List AV) : isPure tab 128 args = imm.immL args := rfl
theorem f132_p (args : List AV) : isPure tab 132 args = imm.immL args := rfl
theorem f133_p (args : List AV) : isPure tab 133 args = imm.immL args := rfl
theorem f134_p (args : List AV) : isPure tab 134 args = imm.immL args := rfl
theorem f135_p (args : List AV) : isPure tab 135 args = imm.immL args := rfl
theorem f139_p (args : List AV) : isPure tab 139 args = imm.immL args := rfl
theorem f140_p (args : List AV) : isPure tab 140 args = imm.immL args := rfl
theorem f141_p (args : List AV) : isPure tab 141 args = imm.immL args := rfl
theorem f150_p (args : List AV) : isPure tab 150 args = imm.immL args := rfl
theorem f3_eq : ∃ fn, Tryz.prog.funcs[3]? = some fn ∧ compF Tryz.prog G f3v f3k f3.mode fn = some f3 := ⟨Tryz.f3, Tryz.func3, by kernel_rfl⟩
theorem f6_eq : ∃ fn, Tryz.prog.funcs[6]? = some fn ∧ compF Tryz.prog G f6v f6k f6.mode fn = some f6 := ⟨Tryz.f6, Tryz.func6, by kernel_rfl⟩
theorem f7_eq : ∃ fn, Tryz.prog.funcs[7]? = some fn ∧ compF Tryz.prog G f7v f7k f7.mode fn = some f7 := ⟨Tryz.f7, Tryz.func7, by kernel_rfl⟩
theorem f8_eq : ∃ fn, Tryz.prog.funcs[8]? = some fn ∧ compF Tryz.prog G f8v f8k f8.mode fn = some f8 := ⟨Tryz.f8, Tryz.func8, by kernel_rfl⟩
theorem f9_eq : ∃ fn, Tryz.prog.funcs[9]? = some fn ∧ compF Tryz.prog G f9v f9k f9.mode fn = some f9 := ⟨Tryz.f9, Tryz.func9, by kernel_rfl⟩
theorem f10_eq : ∃ fn, Tryz.prog.funcs[10]? = some fn ∧ compF Tryz.prog G f10v f10k f10.mode fn = some f10 := ⟨Tryz.f10, Tryz.func10, by kernel_rfl⟩
theorem f11_eq : ∃ fn, Tryz.prog.funcs[11]? = some fn ∧ compF Tryz.prog G f11v f11k f11.mode fn = some f11 := ⟨Tryz.f11, Tryz.func11, by kernel_rfl⟩
theorem f12_eq : ∃ fn, Tryz.prog.funcs[12]? = some fn ∧ compF Tryz.prog G f12v f12k f12.mode fn = some f12 := ⟨Tryz.f12, Tryz.func12, by kernel_rfl⟩
theorem f13_eq : ∃ fn, Tryz.prog.funcs[13]? = some fn ∧ compF Tryz.prog G f13v f13k f13.mode fn = some f13 := ⟨Tryz.f13, Tryz.func13, by kernel_rfl⟩
theorem f14_eq : ∃ fn, Tryz.prog.funcs[14]? = some fn ∧ compF Tryz.prog G f14v f14k f14.mode fn = some f14 := ⟨Tryz.f14, Tryz.func14, by kernel_rfl⟩
theorem f15_eq : ∃ fn, Tryz.prog.funcs[15]? = some fn ∧ compF Tryz.prog G f15v f15k f15.mode fn = some f15 := ⟨Tryz.f15, Tryz.func15, by kernel_rfl⟩
theorem f16_eq : ∃ fn, Tryz.prog.funcs[16]? = some fn ∧ compF Tryz.prog G f16v f16k f16.mode fn = some f16 := ⟨Tryz.f16, Tryz.func16, by kernel_rfl⟩
theorem f17_eq : ∃ fn, Tryz.prog.funcs[17]? = some fn ∧ compF Tryz.prog G f17v f17k f17.mode fn = some f17 := ⟨Tryz.f17, Tryz.func17, by kernel_rfl⟩
theorem f19_eq : ∃ fn, Tryz.prog.funcs[19]? = some fn ∧ compF Tryz.prog G f19v f19k f19.mode fn = some f19 := ⟨Tryz.f19, Tryz.func19, by kernel_rfl⟩
theorem f21_eq : ∃ fn, Tryz.prog.funcs[21]? = some fn ∧ compF Tryz.prog G f21v f21k f21.mode fn = some f21 := ⟨Tryz.f21, Tryz.func21, by kernel_rfl⟩
theorem f32_eq : ∃ fn, Tryz.prog.funcs[32]? = some fn ∧ compF Tryz.prog G f32v f32k f32.mode fn = some f32 := ⟨Tryz.f32, Tryz.func32, by kernel_rfl⟩
theorem f33_eq : ∃ fn, Tryz.prog.funcs[33]? = some fn ∧ compF Tryz.prog G f33v f33k f33.mode fn = some f33 := ⟨Tryz.f33, Tryz.func33, by kernel_rfl⟩
theorem f34_eq : ∃ fn, Tryz.prog.funcs[34]? = some fn ∧ compF Tryz.prog G f34v f34k f34.mode fn = some f34 := ⟨Tryz.f34, Tryz.func34, by kernel_rfl⟩
theorem f35_eq : ∃ fn, Tryz.prog.funcs[35]? = some fn ∧ compF Tryz.prog G f35v f35k f35.mode fn = some f35 := ⟨Tryz.f35, Tryz.func35, by kernel_rfl⟩
theorem f36_eq : ∃ fn, Tryz.prog.funcs[36]? = some fn ∧ compF Tryz.prog G f36v f36k f36.mode fn = some f36 := ⟨Tryz.f36, Tryz.func36, by kernel_rfl⟩
theorem f37_eq : ∃ fn, Tryz.prog.funcs[37]? = some fn ∧ compF Tryz.prog G f37v f37k f37.mode fn = some f37 := ⟨Tryz.f37, Tryz.func37, by kernel_rfl⟩
theorem f38_eq : ∃ fn, Tryz.prog.funcs[38]? = some fn ∧ compF Tryz.prog G f38v f38k f38.mode fn = some f38 := ⟨Tryz.f38, Tryz.func38, by kernel_rfl⟩
theorem f39_eq : ∃ fn, Tryz.prog.funcs[39]? = some fn ∧ compF Tryz.prog G f39v f39k f39.mode fn = some f39 := ⟨Tryz.f39, Tryz.func39, by kernel_rfl⟩
theorem f40_eq : ∃ fn, Tryz.prog.funcs[40]? = some fn ∧ compF Tryz.prog G f40v f40k f40.mode fn = some f40 := ⟨Tryz.f40, Tryz.func40, by kernel_rfl⟩
theorem f41_eq : ∃ fn, Tryz.prog.funcs[41]? = some fn ∧ compF Tryz.prog G f41v f41k f41.mode fn = some f41 := ⟨Tryz.f41, Tryz.func41, by kernel_rfl⟩
theorem f42_eq : ∃ fn, Tryz.prog.funcs[42]? = some fn ∧ compF Tryz.prog G f42v f42k f42.mode fn = some f42 := ⟨Tryz.f42, Tryz.func42, by kernel_rfl⟩
theorem f43_eq : ∃ fn, Tryz.prog.funcs[43]? = some fn ∧ compF Tryz.prog G f43v f43k f43.mode fn = some f43 := ⟨Tryz.f43, Tryz.func43, by kernel_rfl⟩
theorem f44_eq : ∃ fn, Tryz.prog.funcs[44]? = some fn ∧ compF Tryz.prog G f44v f44k f44.mode fn = some f44 := ⟨Tryz.f44, Tryz.func44, by kernel_rfl⟩
theorem f45_eq : ∃ fn, Tryz.prog.funcs[45]? = some fn ∧ compF Tryz.prog G f45v f45k f45.mode fn = some f45 := ⟨Tryz.f45, Tryz.func45, by kernel_rfl⟩
theorem f46_eq : ∃ fn, Tryz.prog.funcs[46]? = some fn ∧ compF Tryz.prog G f46v f46k f46.mode fn = some f46 := ⟨Tryz.f46, Tryz.func46, by kernel_rfl⟩
theorem f47_eq : ∃ fn, Tryz.prog.funcs[47]? = some fn ∧ compF Tryz.prog G f47v f47k f47.mode fn = some f47 := ⟨Tryz.f47, Tryz.func47, by kernel_rfl⟩
theorem f48_eq : ∃ fn, Tryz.prog.funcs[48]? = some fn ∧ compF Tryz.prog G f48v f48k f48.mode fn = some f48 := ⟨Tryz.f48, Tryz.func48, by kernel_rfl⟩
theorem f49_eq : ∃ fn, Tryz.prog.funcs[49]? = some fn ∧ compF Tryz.prog G f49v f49k f49.mode fn = some f49 := ⟨Tryz.f49, Tryz.func49, by kernel_rfl⟩
theorem f56_eq : ∃ fn, Tryz.prog.funcs[56]? = some fn ∧ compF Tryz.prog G f56v f56k f56.mode fn = some f56 := ⟨Tryz.f56, Tryz.func56, by kernel_rfl⟩
theorem f57_eq : ∃ fn, Tryz.prog.funcs[57]? = some fn ∧ compF Tryz.prog G f57v f57k f57.mode fn = some f57 := ⟨Tryz.f57, Tryz.func57, by kernel_rfl⟩
theorem f59_eq : ∃ fn, Tryz.prog.funcs[59]? = some fn ∧ compF Tryz.prog G f59v f59k f59.mode fn = some f59 := ⟨Tryz.f59, Tryz.func59, by kernel_rfl⟩
theorem f63_eq : ∃ fn, Tryz.prog.funcs[63]? = some fn ∧ compF Tryz.prog G f63v f63k f63.mode fn = some f63 := ⟨Tryz.f63, Tryz.func63, by kernel_rfl⟩
theorem f66_eq : ∃ fn, Tryz.prog.funcs[66]? = some fn ∧ compF Tryz.prog G f66v f66k f66.mode fn = some f66 := ⟨Tryz.f66, Tryz.func66, by kernel_rfl⟩
theorem f70_eq : ∃ fn, Tryz.prog.funcs[70]? = some fn ∧ compF Tryz.prog G f70v f70k f70.mode fn = some f70 := ⟨Tryz.f70, Tryz.func70, by kernel_rfl⟩
theorem f71_eq : ∃ fn, Tryz.prog.funcs[71]? = some fn ∧ compF Tryz.prog G f71v f71k f71.mode fn = some f71 := ⟨Tryz.f71, Tryz.func71, by kernel_rfl⟩
theorem f72_eq : ∃ fn, Tryz.prog.funcs[72]? = some fn ∧ compF Tryz.prog G f72v f72k f72.mode fn = some f72 := ⟨Tryz.f72, Tryz.func72, by kernel_rfl⟩
theorem f81_eq : ∃ fn, Tryz.prog.funcs[81]? = some fn ∧ compF Tryz.prog G f81v f81k f81.mode fn = some f81 := ⟨Tryz.f81, Tryz.func81, by kernel_rfl⟩
theorem f82_eq : ∃ fn, Tryz.prog.funcs[82]? = some fn ∧ compF Tryz.prog G f82v f82k f82.mode fn = some f82 := ⟨Tryz.f82, Tryz.func82, by kernel_rfl⟩
theorem f83_eq : ∃ fn, Tryz.prog.funcs[83]? = some fn ∧ compF Tryz.prog G f83v f83k f83.mode fn = some f83 := ⟨Tryz.f83, Tryz.func83, by kernel_rfl⟩
theorem f84_eq : ∃ fn, Tryz.prog.funcs[84]? = some fn ∧ compF Tryz.prog G f84v f84k f84.mode fn = some f84 := ⟨Tryz.f84, Tryz.func84, by kernel_rfl⟩
theorem f85_eq : ∃ fn, Tryz.prog.funcs[85]? = some fn ∧ compF Tryz.prog G f85v f85k f85.mode fn = some f85 := ⟨Tryz.f85, Tryz.func85, by kernel_rfl⟩
theorem f86_eq : ∃ fn, Tryz.prog.funcs[86]? = some fn ∧ compF Tryz.prog G f86v f86k f86.mode fn = some f86 := ⟨Tryz.f86, Tryz.func86, by kernel_rfl⟩
theorem f87_eq : ∃ fn, Tryz.prog.funcs[87]? = some fn ∧ compF Tryz.prog G f87v f87k f87.mode fn = some f87 := ⟨Tryz.f87, Tryz.func87, by kernel_rfl⟩
theorem f88_eq : ∃ fn, Tryz.prog.funcs[88]? = some fn ∧ compF Tryz.prog G f88v f88k f88.mode fn = some f88 := ⟨Tryz.f88, Tryz.func88, by kernel_rfl⟩
theorem f89_eq : ∃ fn, Tryz.prog.funcs[89]? = some fn ∧ compF Tryz.prog G f89v f89k f89.mode fn = some f89 := ⟨Tryz.f89, Tryz.func89, by kernel_rfl⟩
theorem f90_eq : ∃ fn, Tryz.prog.funcs[90]? = some fn ∧ compF Tryz.prog G f90v f90k f90.mode fn = some f90 := ⟨Tryz.f90, Tryz.func90, by kernel_rfl⟩
theorem f91_eq : ∃ fn, Tryz.prog.funcs[91]? = some fn ∧ compF Tryz.prog G f91v f91k f91.mode fn = some f91 := ⟨Tryz.f91, Tryz.func91, by kernel_rfl⟩
theorem f92_eq : ∃ fn, Tryz.prog.funcs[92]? = some fn ∧ compF Tryz.prog G f92v f92k f92.mode fn = some f92 := ⟨Tryz.f92, Tryz.func92, by kernel_rfl⟩
theorem f93_eq : ∃ fn, Tryz.prog.funcs[93]? = some fn ∧ compF Tryz.prog G f93v f93k f93.mode fn = some f93 := ⟨Tryz.f93, Tryz.func93, by kernel_rfl⟩
theorem f94_eq : ∃ fn, Tryz.prog.funcs[94]? = some fn ∧ compF Tryz.prog G f94v f94k f94.mode fn = some f94 := ⟨Tryz.f94, Tryz.func94, by kernel_rfl⟩
theorem f95_eq : ∃ fn, Tryz.prog.funcs[95]? = some fn ∧ compF Tryz.prog G f95v f95k f95.mode fn = some f95 := ⟨Tryz.f95, Tryz.func95, by kernel_rfl⟩
theorem f96_eq : ∃ fn, Tryz.prog.funcs[96]? = some fn ∧ compF Tryz.prog G f96v f96k f96.mode fn = some f96 := ⟨Tryz.f96, Tryz.func96, by kernel_rfl⟩
theorem f97_eq : ∃ fn, Tryz.prog.funcs[97]? = some fn ∧ compF Tryz.prog G f97v f97k f97.mode fn = some f97 := ⟨Tryz.f97, Tryz.func97, by kernel_rfl⟩
theorem f100_eq : ∃ fn, Tryz.prog.funcs[100]? = some fn ∧ compF Tryz.prog G f100v f100k f100.mode fn = some f100 := ⟨Tryz.f100, Tryz.func100, by kernel_rfl⟩
theorem f102_eq : ∃ fn, Tryz.prog.funcs[102]? = some fn ∧ compF Tryz.prog G f102v f102k f102.mode fn = some f102 := ⟨Tryz.f102, Tryz.func102, by kernel_rfl⟩
theorem f103_eq : ∃ fn, Tryz.prog.funcs[103]? = some fn ∧ compF Tryz.prog G f103v f103k f103.mode fn = some f103 := ⟨Tryz.f103, Tryz.func103, by kernel_rfl⟩
theorem f106_eq : ∃ fn, Tryz.prog.funcs[106]? = some fn ∧ compF Tryz.prog G f106v f106k f106.mode fn = some f106 := ⟨Tryz.f106, Tryz.func106, by kernel_rfl⟩
theorem f107_eq : ∃ fn, Tryz.prog.funcs[107]? = some fn ∧ compF Tryz.prog G f107v f107k f107.mode fn = some f107 := ⟨Tryz.f107, Tryz.func107, by kernel_rfl⟩
theorem f108_eq : ∃ fn, Tryz.prog.funcs[108]? = some fn ∧ compF Tryz.prog G f108v f108k f108.mode fn = some f108 := ⟨Tryz.f108, Tryz.func108, by kernel_rfl⟩
theorem f109_eq : ∃ fn, Tryz.prog.funcs[109]? = some fn ∧ compF Tryz.prog G f109v f109k f109.mode fn = some f109 := ⟨Tryz.f109, Tryz.func109, by kernel_rfl⟩
theorem f110_eq : ∃ fn, Tryz.prog.funcs[110]? = some fn ∧ compF Tryz.prog G f110v f110k f110.mode fn = some f110 := ⟨Tryz.f110, Tryz.func110, by kernel_rfl⟩
theorem f114_eq : ∃ fn, Tryz.prog.funcs[114]? = some fn ∧ compF Tryz.prog G f114v f114k f114.mode fn = some f114 := ⟨Tryz.f114, Tryz.func114, by kernel_rfl⟩
theorem f115_eq : ∃ fn, Tryz.prog.funcs[115]? = some fn ∧ compF Tryz.prog G f115v f115k f115.mode fn = some f115 := ⟨Tryz.f115, Tryz.func115, by kernel_rfl⟩
theorem f116_eq : ∃ fn, Tryz.prog.funcs[116]? = some fn ∧ compF Tryz.prog G f116v f116k f116.mode fn = some f116 := ⟨Tryz.f116, Tryz.func116, by kernel_rfl⟩
theorem f117_eq : ∃ fn, Tryz.prog.funcs[117]? = some fn ∧ compF Tryz.prog G f117v f117k f117.mode fn = some f117 := ⟨Tryz.f117, Tryz.func117, by kernel_rfl⟩
theorem f118_eq : ∃ fn, Tryz.prog.funcs[118]? = some fn ∧ compF Tryz.prog G f118v f118k f118.mode fn = some f118 := ⟨Tryz.f118, Tryz.func118, by kernel_rfl⟩
theorem f119_eq : ∃ fn, Tryz.prog.funcs[119]? = some fn ∧ compF Tryz.prog G f119v f119k f119.mode fn = some f119 := ⟨Tryz.f119, Tryz.func119, by kernel_rfl⟩
theorem f120_eq : ∃ fn, Tryz.prog.funcs[120]? = some fn ∧ compF Tryz.prog G f120v f120k f120.mode fn = some f120 := ⟨Tryz.f120, Tryz.func120, by kernel_rfl⟩
theorem f121_eq : ∃ fn, Tryz.prog.funcs[121]? = some fn ∧ compF Tryz.prog G f121v f121k f121.mode fn = some f121 := ⟨Tryz.f121, Tryz.func121, by kernel_rfl⟩
theorem f122_eq : ∃ fn, Tryz.prog.funcs[122]? = some fn ∧ compF Tryz.prog G f122v f122k f122.mode fn = some f122 := ⟨Tryz.f122, Tryz.func122, by kernel_rfl⟩
theorem f123_eq : ∃ fn, Tryz.prog.funcs[123]? = some fn ∧ compF Tryz.prog G f123v f123k f123.mode fn = some f123 := ⟨Tryz.f123, Tryz.func123, by kernel_rfl⟩
theorem f124_eq : ∃ fn, Tryz.prog.funcs[124]? = some fn ∧ compF Tryz.prog G f124v f124k f124.mode fn = some f124 := ⟨Tryz.f124, Tryz.func124, by kernel_rfl⟩
theorem f125_eq : ∃ fn, Tryz.prog.funcs[125]? = some fn ∧ compF Tryz.prog G f125v f125k f125.mode fn = some f125 := ⟨Tryz.f125, Tryz.func125, by kernel_rfl⟩
theorem f127_eq : ∃ fn, Tryz.prog.funcs[127]? = some fn ∧ compF Tryz.prog G f127v f127k f127.mode fn = some f127 := ⟨Tryz.f127, Tryz.func127, by kernel_rfl⟩
theorem f128_eq : ∃ fn, Tryz.prog.funcs[128]? = some fn ∧ compF Tryz.prog G f128v f128k f128.mode fn = some f128 := ⟨Tryz.f128, Tryz.func128, by kernel_rfl⟩
theorem f132_eq : ∃ fn, Tryz.prog.funcs[132]? = some fn ∧ compF Tryz.prog G f132v f132k f132.mode fn = some f132 := ⟨Tryz.f132, Tryz.func132, by kernel_rfl⟩
theorem f133_eq : ∃ fn, Tryz.prog.funcs[133]? = some fn ∧ compF Tryz.prog G f133v f133k f133.mode fn = some f133 := ⟨Tryz.f133, Tryz.func133, by kernel_rfl⟩
theorem f134_eq : ∃ fn, Tryz.prog.funcs[134]? = some fn ∧ compF Tryz.prog G f134v f134k f134.mode fn = some f134 := ⟨Tryz.f134, Tryz.func134, by kernel_rfl⟩
theorem f135_eq : ∃ fn, Tryz.prog.funcs[135]? = some fn ∧ compF Tryz.prog G f135v f135k f135.mode fn = some f135 := ⟨Tryz.f135, Tryz.func135, by kernel_rfl⟩
theorem f139_eq : ∃ fn, Tryz.prog.funcs[139]? = some fn ∧ compF Tryz.prog G f139v f139k f139.mode fn = some f139 := ⟨Tryz.f139, Tryz.func139, by kernel_rfl⟩
theorem f140_eq : ∃ fn, Tryz.prog.funcs[140]? = some fn ∧ compF Tryz.prog G f140v f140k f140.mode fn = some f140 := ⟨Tryz.f140, Tryz.func140, by kernel_rfl⟩
theorem f141_eq : ∃ fn, Tryz.prog.funcs[141]? = some fn ∧ compF Tryz.prog G f141v f141k f141.mode fn = some f141 := ⟨Tryz.f141, Tryz.func141, by kernel_rfl⟩
theorem f150_eq : ∃ fn, Tryz.prog.funcs[150]? = some fn ∧ compF Tryz.prog G f150v f150k f150.mode fn = some f150 := ⟨Tryz.f150, Tryz.func150, by kernel_rfl⟩
theorem tab_ok : TabOK Tryz.prog G tab := by
 intro g f h
 unfold tab at h
 split at h
 ·cases h; exact .inr ⟨libTrim, rfl, rfl, spec_136⟩
 ·cases h; obtain ⟨fn, h1, h2⟩ := f3_eq; exact .inl ⟨fn, _, _, h1, h2⟩
 ·cases h; obtain ⟨fn, h1, h2⟩ := f6_eq; exact .inl ⟨fn, _, _, h1, h2⟩
 ·cases h; obtain ⟨fn, h1, h2⟩ := f7_eq; exact .inl ⟨fn, _, _, h1, h2⟩
 ·cases h; obtain ⟨fn, h1, h2⟩ := f8_eq; exact .inl ⟨fn, _, _, h1, h2⟩
 ·cases h; obtain ⟨fn, h1, h2⟩ := f9_eq; exact .inl ⟨fn, _, _, h1, h2⟩
 ·cases h; obtain ⟨fn, h1, h2⟩ := f10_eq; exact .inl ⟨fn, _, _, h1, h2⟩
 ·cases h; obtain ⟨fn, h1, h2⟩ := f11_eq; exact .inl ⟨fn, _, _, h1, h2⟩
 ·cases h; obtain ⟨fn, h1, h2⟩ := f12_eq; exact .inl ⟨fn, _, _, h1, h2⟩
 ·cases h; obtain ⟨fn, h1, h2⟩ := f13_eq; exact .inl ⟨fn, _, _, h1, h2⟩
 ·cases h; obtain ⟨fn, h1, h2⟩ := f14_eq; exact .inl ⟨fn, _, _, h1, h2⟩
 ·cases h; obtain ⟨fn, h1, h2⟩ := f15_eq; exact .inl ⟨fn, _, _, h1, h2⟩
 ·cases h; obtain ⟨fn, h1, h2⟩ := f16_eq; exact .inl ⟨fn, _, _, h1, h2⟩
 ·cases h; obtain ⟨fn, h1, h2⟩ := f17_eq; exact .inl ⟨fn, _, _, h1, h2⟩
 ·cases h; obtain ⟨fn, h1, h2⟩ := f19_eq; exact .inl ⟨fn, _, _, h1, h2⟩
 ·cases h; obtain ⟨fn, h1, h2⟩ := f21_eq; exact .inl ⟨fn, _, _, h1, h2⟩
 ·cases h; obtain ⟨fn, h1, h2⟩ := f32_eq; exact .inl ⟨fn, _, _, h1, h2⟩
 ·cases h; obtain ⟨fn, h1, h2⟩ := f33_eq; exact .inl ⟨fn, _, _, h1, h2⟩
 ·cases h; obtain ⟨fn, h1, h2⟩ := f34_eq; exact .inl ⟨fn, _, _, h1, h2⟩
 ·cases h; obtain ⟨fn, h1, h2⟩ := f35_eq; exact .inl ⟨fn, _, _, h1, h2⟩
 ·cases h; obtain ⟨fn, h1, h2⟩ := f36_eq; exact .inl ⟨fn, _, _, h1, h2⟩
 ·cases h; obtain ⟨fn, h1, h2⟩ := f37_eq; exact .inl ⟨fn, _, _, h1, h2⟩
 ·cases h; obtain ⟨fn, h1, h2⟩ := f38_eq; exact .inl ⟨fn, _, _, h1, h2⟩
 ·cases h; obtain ⟨fn, h1, h2⟩ := f39_eq; exact .inl ⟨fn, _, _, h1, h2⟩
 ·cases h; obtain ⟨fn, h1, h2⟩ := f40_eq; exact .inl ⟨fn, _, _, h1, h2⟩
 ·cases h; obtain ⟨fn, h1, h2⟩ := f41_eq; exact .inl ⟨fn, _, _, h1, h2⟩
 ·cases h; obtain ⟨fn, h1, h2⟩ := f42_eq; exact .inl ⟨fn, _, _, h1, h2⟩
 ·cases h; obtain ⟨fn, h1, h2⟩ := f43_eq; exact .inl ⟨fn, _, _, h1, h2⟩
 ·cases h; obtain ⟨fn, h1, h2⟩ := f44_eq; exact .inl ⟨fn, _, _, h1, h2⟩
 ·cases h; obtain ⟨fn, h1, h2⟩ := f45_eq; exact .inl ⟨fn, _, _, h1, h2⟩
 ·cases h; obtain ⟨fn, h1, h2⟩ := f46_eq; exact .inl ⟨fn, _, _, h1, h2⟩
 ·cases h; obtain ⟨fn, h1, h2⟩ := f47_eq; exact .inl ⟨fn, _, _, h1, h2⟩
 ·cases h; obtain ⟨fn, h1, h2⟩ := f48_eq; exact .inl ⟨fn, _, _, h1, h2⟩
 ·cases h; obtain ⟨fn, h1, h2⟩ := f49_eq; exact .inl ⟨fn, _, _, h1, h2⟩
 ·cases h; obtain ⟨fn, h1, h2⟩ := f56_eq; exact .inl ⟨fn, _, _, h1, h2⟩
 ·cases h; obtain ⟨fn, h1, h2⟩ := f57_eq; exact .inl ⟨fn, _, _, h1, h2⟩
 ·cases h; obtain ⟨fn, h1, h2⟩ := f59_eq; exact .inl ⟨fn, _, _, h1, h2⟩
 ·cases h; obtain ⟨fn, h1, h2⟩ := f63_eq; exact .inl ⟨fn, _, _, h1, h2⟩
 ·cases h; obtain ⟨fn, h1, h2⟩ := f66_eq; exact .inl ⟨fn, _, _, h1, h2⟩
 ·cases h; obtain ⟨fn, h1, h2⟩ := f70_eq; exact .inl ⟨fn, _, _, h1, h2⟩
 ·cases h; obtain ⟨fn, h1, h2⟩ := f71_eq; exact .inl ⟨fn, _, _, h1, h2⟩
 ·cases h; obtain ⟨fn, h1, h2⟩ := f72_eq; exact .inl ⟨fn, _, _, h1, h2⟩
 ·cases h; obtain ⟨fn, h1, h2⟩ := f81_eq; exact .inl ⟨fn, _, _, h1, h2⟩
 ·cases h; obtain ⟨fn, h1, h2⟩ := f82_eq; exact .inl ⟨fn, _, _, h1, h2⟩
 ·cases h; obtain ⟨fn, h1, h2⟩ := f83_eq; exact .inl ⟨fn, _, _, h1, h2⟩
 ·cases h; obtain ⟨fn, h1, h2⟩ := f84_eq; exact .inl ⟨fn, _, _, h1, h2⟩
 ·cases h; obtain ⟨fn, h1, h2⟩ := f85_eq; exact .inl ⟨fn, _, _, h1, h2⟩
 ·cases h; obtain ⟨fn, h1, h2⟩ := f86_eq; exact .inl ⟨fn, _, _, h1, h2⟩
 ·cases h; obtain ⟨fn, h1, h2⟩ := f87_eq; exact .inl ⟨fn, _, _, h1, h2⟩
 ·cases h; obtain ⟨fn, h1, h2⟩ := f88_eq; exact .inl ⟨fn, _, _, h1, h2⟩
 ·cases h; obtain ⟨fn, h1, h2⟩ := f89_eq; exact .inl ⟨fn, _, _, h1, h2⟩
 ·cases h; obtain ⟨fn, h1, h2⟩ := f90_eq; exact .inl ⟨fn, _, _, h1, h2⟩
 ·cases h; obtain ⟨fn, h1, h2⟩ := f91_eq; exact .inl ⟨fn, _, _, h1, h2⟩
 ·cases h; obtain ⟨fn, h1, h2⟩ := f92_eq; exact .inl ⟨fn, _, _, h1, h2⟩
 ·cases h; obtain ⟨fn, h1, h2⟩ := f93_eq; exact .inl ⟨fn, _, _, h1, h2⟩
 ·cases h; obtain ⟨fn, h1, h2⟩ := f94_eq; exact .inl ⟨fn, _, _, h1, h2⟩
 ·cases h; obtain ⟨fn, h1, h2⟩ := f95_eq; exact .inl ⟨fn, _, _, h1, h2⟩
 ·cases h; obtain ⟨fn, h1, h2⟩ := f96_eq; exact .inl ⟨fn, _, _, h1, h2⟩
 ·cases h; obtain ⟨fn, h1, h2⟩ := f97_eq; exact .inl ⟨fn, _, _, h1, h2⟩
 ·cases h; obtain ⟨fn, h1, h2⟩ := f100_eq; exact .inl ⟨fn, _, _, h1, h2⟩
 ·cases h; obtain ⟨fn, h1, h2⟩ := f102_eq; exact .inl ⟨fn, _, _, h1, h2⟩
 ·cases h; obtain ⟨fn, h1, h2⟩ := f103_eq; exact .inl ⟨fn, _, _, h1, h2⟩
 ·cases h; obtain ⟨fn, h1, h2⟩ := f106_eq; exact .inl ⟨fn, _, _, h1, h2⟩
 ·cases h; obtain ⟨fn, h1, h2⟩ := f107_eq; exact .inl ⟨fn, _, _, h1, h2⟩
 ·cases h; obtain ⟨fn, h1, h2⟩ := f108_eq; exact .inl ⟨fn, _, _, h1, h2⟩
 ·cases h; obtain ⟨fn, h1, h2⟩ := f109_eq; exact .inl ⟨fn, _, _, h1, h2⟩
 ·cases h; obtain ⟨fn, h1, h2⟩ := f110_eq; exact .inl ⟨fn, _, _, h1, h2⟩
 ·cases h; obtain ⟨fn, h1, h2⟩ := f114_eq; exact .inl ⟨fn, _, _, h1, h2⟩
 ·cases h; obtain ⟨fn, h1, h2⟩ := f115_eq; exact .inl ⟨fn, _, _, h1, h2⟩
 ·cases h; obtain ⟨fn, h1, h2⟩ := f116_eq; exact .inl ⟨fn, _, _, h1, h2⟩
 ·cases h; obtain ⟨fn, h1, h2⟩ := f117_eq; exact .inl ⟨fn, _, _, h1, h2⟩
 ·cases h; obtain ⟨fn, h1, h2⟩ := f118_eq; exact .inl ⟨fn, _, _, h1, h2⟩
 ·cases h; obtain ⟨fn, h1, h2⟩ := f119_eq; exact .inl ⟨fn, _, _, h1, h2⟩
 ·cases h; obtain ⟨fn, h1, h2⟩ := f120_eq; exact .inl ⟨fn, _, _, h1, h2⟩
 ·cases h; obtain ⟨fn, h1, h2⟩ := f121_eq; exact .inl ⟨fn, _, _, h1, h2⟩
 ·cases h; obtain ⟨fn, h1, h2⟩ := f122_eq; exact .inl ⟨fn, _, _, h1, h2⟩
 ·cases h; obtain ⟨fn, h1, h2⟩ := f123_eq; exact .inl ⟨fn, _, _, h1, h2⟩
 ·cases h; obtain ⟨fn, h1, h2⟩ := f124_eq; exact .inl ⟨fn, _, _, h1, h2⟩
 ·cases h; obtain ⟨fn, h1, h2⟩ := f125_eq; exact .inl ⟨fn, _, _, h1, h2⟩
 ·cases h; obtain ⟨fn, h1, h2⟩ := f127_eq; exact .inl ⟨fn, _, _, h1, h2⟩
 ·cases h; obtain ⟨fn, h1, h2⟩ := f128_eq; exact .inl ⟨fn, _, _, h1, h2⟩
 ·cases h; obtain ⟨fn, h1, h2⟩ := f132_eq; exact .inl ⟨fn, _, _, h1, h2⟩
 ·cases h; obtain ⟨fn, h1, h2⟩ := f133_eq; exact .inl ⟨fn, _, _, h1, h2⟩
 ·cases h; obtain ⟨fn, h1, h2⟩ := f134_eq; exact .inl ⟨fn, _, _, h1, h2⟩
 ·cases h; obtain ⟨fn, h1, h2⟩ := f135_eq; exact .inl ⟨fn, _, _, h1, h2⟩
 ·cases h; obtain ⟨fn, h1, h2⟩ := f139_eq; exact .inl ⟨fn, _, _, h1, h2⟩
 ·cases h; obtain ⟨fn, h1, h2⟩ := f140_eq; exact .inl ⟨fn, _, _, h1, h2⟩
 ·cases h; obtain ⟨fn, h1, h2⟩ := f141_eq; exact .inl ⟨fn, _, _, h1, h2⟩
 ·cases h; obtain ⟨fn, h1, h2⟩ := f150_eq; exact .inl ⟨fn, _, _, h1, h2⟩
 ·cases h
theorem follows : Tryz.prog.follows .mixedOrders = true := by kernel_rfl
end Go.Proofs.YtfhijkapcdmdnaaGreatDoor
