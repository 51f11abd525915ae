/- The seat's functions as the machine's, part 1. Printed by a program. -/
import Derived.Test.YtfhijkapcdmdnaaGreatDoorFns0
namespace Go.Proofs.YtfhijkapcdmdnaaGreatDoor
open Go.AM
set_option maxRecDepth 100000
def f70r0:LO:=[zo 4 (.move (.c .nilp)) 0,zo 5 (.alloc false [(.int .i64 0),(.int .i64 0),(.is [] .nil)]) 0,⟨some 6,.move (.c (.int .i64 0)),none,1,1⟩]
def f70r1:LO:=[zm 10 0 0,zo 11 (.call (.c (.fn 63 [] [])) [(.t 10)]) 1,zo 12 (.bin .eql (.t 11) (.c (.int .i64 0))) 3,zm 9 12 7]
def f70r2:LO:=[zo 13 (.build [(.int .i64 0),(.int .i64 0),(.is [] .nil)] []) 0,zo 4 (.move (.c .nilp)) 0,zn (.store 3 (.t 5) (.t 13)) 3,zo 6 (.move (.c (.int .i64 1))) 7]
def f70r3:LO:=[zm 15 1 0,zo 16 (.bin .lss (.t 15) (.c (.int .i64 0))) 1,zm 17 16 3,zg 18 1 17 false 7,zg 19 0 17 false 7,zh 20 (.call (.c (.fn 63 [] [])) [(.t 19)]) 17 false 23,zh 21 (.bin .geq (.t 18) (.t 20)) 17 false 63,zq 22 17 21 127,zm 14 22 255]
def f70r4:LO:=[zo 23 (.build [(.int .i64 0),(.int .i64 0),(.is [] .nil)] []) 0,zo 4 (.move (.c .nilp)) 0,zn (.store 3 (.t 5) (.t 23)) 3,zo 6 (.move (.c (.int .i64 30))) 7]
def f70r5:LO:=[zm 25 0 0,zm 26 1 0,zo 27 (.call (.c (.fn 86 [] [])) [(.t 25),(.t 26)]) 3,zo 28 (.un .not (.t 27)) 7,zm 24 28 15]
def f70r6:LO:=[zo 29 (.build [(.int .i64 0),(.int .i64 0),(.is [] .nil)] []) 0,zo 4 (.move (.c .nilp)) 0,zn (.store 3 (.t 5) (.t 29)) 3,zo 6 (.move (.c (.int .i64 50))) 7]
def f70r7:LO:=[zm 30 0 0,zo 31 (.mkMap) 0,⟨some 32,.build [.nilp,.nilm,(.bool false)] [(0,1,(.t 30)),(1,1,(.t 31))],none,1,3⟩,⟨some 33,.box false (.t 32),none,1,7⟩,⟨some 7,.move (.t 33),none,2,15⟩]
def f70r8:LO:=[zm 34 7 0,zm 35 1 0,zo 36 (.call (.c (.fn 72 [] [])) [(.t 34),(.t 35)]) 3,zo 8 (.alloc false [(.int .i64 0),(.int .i64 0),(.is [] .nil)]) 0,⟨none,.store 3 (.t 8) (.t 36),none,1,15⟩]
def f70r9:LO:=[zm 37 7 0,zo 38 (.nilCheck (.t 37)) 1,zf 39 2 38 3,zl 40 39 7]
def f70r10:LO:=[zo 41 (.build [(.int .i64 0),(.int .i64 0),(.is [] .nil)] []) 0,zo 4 (.move (.c .nilp)) 0,zn (.store 3 (.t 5) (.t 41)) 3,zo 6 (.move (.c (.int .i64 51))) 7]
def f70q11:LO:=[zm 42 7 0,zo 43 (.load true 3 (.t 8)) 0,zm 4 42 1,zn (.store 3 (.t 5) (.t 43)) 7,zo 6 (.move (.c (.int .i64 0))) 15]
def f70r11:LO:=f70q11
theorem f70r11_s:staticOK 0 f70r11=true:=by rfl
theorem f70r11_w:DW f70r11:=fun hr=>Brun_drawnS f70r11_s hr
theorem f70r11_u:DU f70r11 f70q11:=fun _ _ _ _ _=>rfl
def f70c:ACode :=
 .seq (zr f70r0 [0,1,5] 1)
 (.seq (.block 0 (.seq (zr f70r1 [0,1,5,9] 0)
  (.cond (.t 9)
   (.seq (zr f70r2 [4,5,6] 0)
   (.ret))
   (.seq (zr f70r3 [0,1,5,14] 0)
   (.cond (.t 14)
    (.seq (zr f70r4 [4,5,6] 0)
    (.ret))
    (.seq (zr f70r5 [0,1,5,24] 0)
    (.cond (.t 24)
     (.seq (zr f70r6 [4,5,6] 0)
     (.ret))
     (.skip))))))))
 (.seq (zr f70r7 [1,5,7] 2)
 (.seq (zr f70r8 [5,7,8] 1)
 (.seq (.seq (zr f70r9 [5,7,8,40] 0)
 (.cond (.t 40)
  (.seq (zr f70r10 [4,5,6] 0)
  (.ret))
  (.skip)))
 (.seq (.region true f70r11 [4,5,6] 0)
 (.ret))))))
def f70:AFn:=⟨2,44,[.tmp 4,.cell 5 true 3,.tmp 6],f70c,0,none⟩
def f70k:=kI [0,1,6,3,4,5,2,7,8,9,10,11] f70c
def f70v:List Nat:=[]
def f71r0:LO:=[zo 4 (.alloc false [(.int .i64 0),(.int .i64 0),(.int .i64 0),(.str []),(.is [] .nil),(.bool false)]) 0,⟨some 5,.move (.c (.bool false)),none,1,0⟩]
def f71r1:LO:=[zm 6 0 0,zm 7 1 0,zo 8 (.call (.c (.fn 91 [] [])) [(.t 6),(.t 7)]) 3,zo 9 (.un .not (.t 8)) 7]
def f71r2:LO:=[zo 10 (.build [(.int .i64 0),(.int .i64 0),(.int .i64 0),(.str []),(.is [] .nil),(.bool false)] []) 0,zn (.store 6 (.t 4) (.t 10)) 1,zo 5 (.move (.c (.bool false))) 3]
def f71r3:LO:=[zm 11 0 0,zo 12 (.nilCheck (.t 11)) 1,zf 13 0 12 3,zl 14 13 7,zm 15 1 0,zo 16 (.idxAddr 6 (.t 14) (.t 15)) 31,zo 17 (.load true 6 (.t 16)) 63,zo 18 (.call (.c (.fn 84 [] [])) [(.t 17)]) 127,zn (.store 6 (.t 4) (.t 18)) 255,zo 5 (.move (.c (.bool true))) 511]
def f71c:ACode :=
 .seq (zr f71r0 [0,1,4] 1)
 (.seq (.seq (zr f71r1 [0,1,4,9] 0)
 (.cond (.t 9)
  (.seq (zr f71r2 [4,5] 0)
  (.ret))
  (.skip)))
 (.seq (zr f71r3 [4,5] 0)
 (.ret)))
def f71:AFn:=⟨2,19,[.cell 4 true 6,.tmp 5],f71c,1,none⟩
def f71k:=kA f71c
def f71v:List Nat:=[]
def f72r0:LO:=[zo 4 (.alloc false [(.int .i64 0),(.int .i64 0),(.is [] .nil)]) 0]
def f72r1:LO:=[zm 13 0 0,zo 14 (.nilCheck (.t 13)) 1,zf 15 1 14 3,zl 16 15 7,zm 17 1 0,zo 18 (.lookup false [.int .i64] (.agg [(.int .i64 0),(.int .i64 0),(.is [] .nil)]) true (.t 16) (.t 17)) 31,zm 12 18 63,ze 19 12 0 127,ze 20 12 1 127,zo 5 (.alloc false [(.int .i64 0),(.int .i64 0),(.is [] .nil)]) 0,⟨none,.store 3 (.t 5) (.t 19),none,1,767⟩,⟨some 6,.move (.t 20),none,1,2047⟩]
def f72r2:LO:=[zm 21 6 0]
def f72r3:LO:=[zo 22 (.load true 3 (.t 5)) 0,zn (.store 3 (.t 4) (.t 22)) 1]
def f72r4:LO:=[zm 24 0 0,zo 25 (.nilCheck (.t 24)) 1,zf 26 0 25 3,zl 27 26 7,zm 28 1 0,zo 29 (.call (.c (.fn 71 [] [])) [(.t 27),(.t 28)]) 31,zm 23 29 63,ze 30 23 0 127,ze 31 23 1 127,zo 7 (.alloc false [(.int .i64 0),(.int .i64 0),(.int .i64 0),(.str []),(.is [] .nil),(.bool false)]) 0,⟨none,.store 6 (.t 7) (.t 30),none,1,767⟩,⟨some 8,.move (.t 31),none,1,2047⟩]
def f72r5:LO:=[zo 9 (.alloc false [(.int .i64 0),(.int .i64 0),(.is [] .nil)]) 0]
def f72r6:LO:=[zf 32 0 7 0,zl 33 32 1]
def f72r7:LO:=[zo 41 (.bin .eql (.t 33) (.c (.int .i64 14))) 0,zm 40 41 1]
def f72r8:LO:=[zm 42 0 0,zf 43 1 7 0,zl 44 43 2,zo 45 (.call (.c (.fn 72 [] [])) [(.t 42),(.t 44)]) 7,zo 10 (.alloc false [(.int .i64 0),(.int .i64 0),(.is [] .nil)]) 0,⟨none,.store 3 (.t 10) (.t 45),none,1,31⟩]
def f72r9:LO:=[zf 46 2 7 0,zl 47 46 1,zf 48 0 10 0,zl 49 48 4,zo 50 (.bin .mul (.t 47) (.t 49)) 15,zf 51 1 10 0,zl 52 51 32,zo 53 (.build [(.int .i64 0),(.int .i64 0),(.is [] .nil)] [(0,1,(.t 50)),(1,1,(.t 52))]) 127,zn (.store 3 (.t 9) (.t 53)) 255]
def f72r10:LO:=[zo 55 (.bin .eql (.t 33) (.c (.int .i64 15))) 0,zm 54 55 1]
def f72r11:LO:=[zm 56 0 0,zo 57 (.load true 6 (.t 7)) 0,zo 58 (.call (.c (.fn 107 [] [])) [(.t 56),(.t 57)]) 3,zn (.store 3 (.t 9) (.t 58)) 7]
def f72r12:LO:=[zo 60 (.bin .eql (.t 33) (.c (.int .i64 16))) 0,zm 59 60 1]
def f72r13:LO:=[zm 61 0 0,zo 62 (.load true 6 (.t 7)) 0,zo 63 (.call (.c (.fn 108 [] [])) [(.t 61),(.t 62)]) 3,zn (.store 3 (.t 9) (.t 63)) 7]
def f72r14:LO:=[zf 34 0 7 0,zl 35 34 1,zo 36 (.call (.c (.fn 109 [] [])) [(.t 35)]) 3,zm 11 36 7]
def f72r15:LO:=[zm 37 11 0,zm 38 11 0,zo 39 (.build [(.int .i64 0),(.int .i64 0),(.is [] .nil)] [(0,1,(.t 37)),(1,1,(.t 38))]) 3,zn (.store 3 (.t 9) (.t 39)) 7]
def f72r16:LO:=[zf 64 0 9 0,zl 65 64 1,zo 66 (.bin .gtr (.t 65) (.c (.int .i64 16384))) 3]
def f72r17:LO:=[zm 67 0 0,zo 68 (.nilCheck (.t 67)) 1,zf 69 2 68 3,zn (.store 1 (.t 69) (.c (.bool true))) 7]
def f72r18:LO:=[zf 70 0 9 0,zn (.store 1 (.t 70) (.c (.int .i64 16385))) 1]
def f72q19:LO:=[zm 71 0 0,zo 72 (.nilCheck (.t 71)) 1,zf 73 1 72 3,zl 74 73 7,zm 75 1 0,zo 76 (.load true 3 (.t 9)) 0,zn (.mapUpdate false [.int .i64] (.t 74) (.t 75) (.t 76)) 63]
def f72r19:LO:=f72q19
def f72r20:LO:=[zo 77 (.load true 3 (.t 9)) 0,zn (.store 3 (.t 4) (.t 77)) 1]
theorem f72r19_s:staticOK 0 f72r19=true:=by rfl
theorem f72r19_w:DW f72r19:=fun hr=>Brun_drawnS f72r19_s hr
theorem f72r19_u:DU f72r19 f72q19:=fun _ _ _ _ _=>rfl
def f72c:ACode :=
 .seq (zr f72r0 [0,1,4] 1)
 (.seq (.seq (zr f72r1 [0,1,4,5,6] 1)
 (.seq (zr f72r2 [0,1,4,5,21] 0)
 (.cond (.t 21)
  (.seq (zr f72r3 [4] 0)
  (.ret))
  (.skip))))
 (.seq (zr f72r4 [0,1,4,7] 1)
 (.seq (zr f72r5 [0,1,4,7,9] 1)
 (.seq (.seq (zr f72r6 [0,1,4,7,9,33] 0)
 (.block 0 (.seq (zr f72r7 [0,1,4,7,9,33,40] 0)
  (.cond (.t 40)
   (.seq (zr f72r8 [0,1,4,7,9,10] 1)
   (zr f72r9 [0,1,4,9] 0))
   (.seq (zr f72r10 [0,1,4,7,9,33,54] 0)
   (.cond (.t 54)
    (zr f72r11 [0,1,4,9] 0)
    (.seq (zr f72r12 [0,1,4,7,9,59] 0)
    (.cond (.t 59)
     (zr f72r13 [0,1,4,9] 0)
     (.seq (zr f72r14 [0,1,4,9,11] 0)
     (zr f72r15 [0,1,4,9] 0))))))))))
 (.seq (.seq (zr f72r16 [0,1,4,9,66] 0)
 (.cond (.t 66)
  (.seq (zr f72r17 [0,1,4,9] 0)
  (zr f72r18 [0,1,4,9] 0))
  (.skip)))
 (.seq (.region true f72r19 [4,9] 0)
 (.seq (zr f72r20 [4] 0)
 (.ret))))))))
def f72:AFn:=⟨2,78,[.cell 4 true 3],f72c,1,none⟩
def f72k:=kI [0,1,2,3,4,5,6,9,10,8,12,15,14,13,7,11,16,17,18,19,20] f72c
def f72v:List Nat:=[]
def f75r0:LO:=[zo 4 (.alloc false [(.int .i64 0),(.int .i64 0),(.is [] .nil),(.bool false)]) 0,⟨some 5,.move (.c (.int .i64 0)),none,1,0⟩]
def f75r1:LO:=[zm 7 0 0,zm 8 1 0,zo 9 (.call (.c (.fn 7 [] [])) [(.t 7),(.t 8)]) 3,zo 10 (.un .not (.t 9)) 7]
def f75r2:LO:=[zo 11 (.build [(.int .i64 0),(.int .i64 0),(.is [] .nil),(.bool false)] []) 0,zn (.store 4 (.t 4) (.t 11)) 1,zo 5 (.move (.c (.int .i64 30))) 3]
def f75r3:LO:=[zm 12 0 0,zm 13 1 0,zo 14 (.call (.c (.fn 110 [] [])) [(.t 12),(.t 13)]) 3,zo 15 (.un .not (.t 14)) 7]
def f75r4:LO:=[zo 16 (.build [(.int .i64 0),(.int .i64 0),(.is [] .nil),(.bool false)] []) 0,zn (.store 4 (.t 4) (.t 16)) 1,zo 5 (.move (.c (.int .i64 50))) 3]
def f75r5:LO:=[zm 17 0 0,zo 18 (.call (.c (.fn 111 [] [])) [(.t 17)]) 1,zm 19 1 0,zo 20 (.idxAddr 4 (.t 18) (.t 19)) 7,zo 21 (.load true 4 (.t 20)) 15,zo 6 (.alloc false [(.int .i64 0),(.int .i64 0),(.is [] .nil),(.bool false)]) 0,⟨none,.store 4 (.t 6) (.t 21),none,1,63⟩]
def f75r6:LO:=[zf 22 3 6 0,zl 23 22 1,zo 24 (.un .not (.t 23)) 3]
def f75r7:LO:=[zo 25 (.build [(.int .i64 0),(.int .i64 0),(.is [] .nil),(.bool false)] []) 0,zn (.store 4 (.t 4) (.t 25)) 1,zo 5 (.move (.c (.int .i64 51))) 3]
def f75r8:LO:=[zo 26 (.load true 4 (.t 6)) 0,zn (.store 4 (.t 4) (.t 26)) 1,zo 5 (.move (.c (.int .i64 0))) 3]
def f75c:ACode :=
 .seq (zr f75r0 [0,1,4] 1)
 (.seq (.seq (zr f75r1 [0,1,4,10] 0)
 (.cond (.t 10)
  (.seq (zr f75r2 [4,5] 0)
  (.ret))
  (.skip)))
 (.seq (.seq (zr f75r3 [0,1,4,15] 0)
 (.cond (.t 15)
  (.seq (zr f75r4 [4,5] 0)
  (.ret))
  (.skip)))
 (.seq (zr f75r5 [4,6] 1)
 (.seq (.seq (zr f75r6 [4,6,24] 0)
 (.cond (.t 24)
  (.seq (zr f75r7 [4,5] 0)
  (.ret))
  (.skip)))
 (.seq (zr f75r8 [4,5] 0)
 (.ret))))))
def f75:AFn:=⟨2,27,[.cell 4 true 4,.tmp 5],f75c,1,none⟩
def f75k:=kA f75c
def f75v:List Nat:=[]
def f76r0:LO:=[zo 4 (.move (.c (.int .i64 0))) 0,zo 5 (.move (.c (.int .i64 0))) 1]
def f76r1:LO:=[zm 9 0 0,zm 10 1 0,zo 11 (.call (.c (.fn 75 [] [])) [(.t 9),(.t 10)]) 3,zm 8 11 7,ze 12 8 0 15,ze 13 8 1 15,zo 6 (.alloc false [(.int .i64 0),(.int .i64 0),(.is [] .nil),(.bool false)]) 0,⟨none,.store 4 (.t 6) (.t 12),none,1,95⟩,⟨some 7,.move (.t 13),none,1,255⟩]
def f76r2:LO:=[zf 14 0 6 0,zl 15 14 1,zm 16 7 0,zm 4 15 3,zm 5 16 15]
def f76c:ACode :=
 .seq (zr f76r0 [0,1] 0)
 (.seq (zr f76r1 [6,7] 1)
 (.seq (zr f76r2 [4,5] 0)
 (.ret)))
def f76:AFn:=⟨2,17,[.tmp 4,.tmp 5],f76c,1,none⟩
def f76k:=kA f76c
def f76v:List Nat:=[]
def f81r0:LO:=[zo 4 (.move (.c (.bool false))) 0]
def f81r1:LO:=[zm 7 0 0,zo 8 (.nilCheck (.t 7)) 1,zf 9 0 8 3,zl 10 9 7,zm 11 1 0,zo 12 (.idxAddr 6 (.t 10) (.t 11)) 31,zo 13 (.load true 6 (.t 12)) 63,zo 5 (.alloc false [(.int .i64 0),(.int .i64 0),(.int .i64 0),(.str []),(.is [] .nil),(.bool false)]) 0,⟨none,.store 6 (.t 5) (.t 13),none,1,255⟩]
def f81r2:LO:=[zm 14 1 0,zo 15 (.bin .lss (.t 14) (.c (.int .i64 11))) 1]
def f81r3:LO:=[zo 16 (.load true 6 (.t 5)) 0,zm 17 1 0,zo 18 (.bin .add (.t 17) (.c (.int .i64 1))) 2,zo 19 (.build [(.int .i64 0),(.int .i64 0),(.int .i64 0),(.str []),(.is [] .nil),(.bool false)] [(0,1,(.t 18))]) 6,zo 20 (.call (.c (.fn 103 [] [])) [(.t 16),(.t 19)]) 15,zm 4 20 31]
def f81r4:LO:=[zf 21 4 5 0,zl 22 21 1,zo 23 (.len 1 (.t 22)) 3,zo 24 (.bin .eql (.t 23) (.c (.int .i64 0))) 7,zm 25 24 15,zh 26 (.fieldAddr 5 (.t 5)) 25 true 31,zh 27 (.load false 1 (.t 26)) 25 true 63,zh 28 (.un .not (.t 27)) 25 true 127,za 29 25 28 255,zm 6 29 511]
def f81r5:LO:=[zf 30 0 5 0,zl 31 30 1]
def f81r6:LO:=[zo 33 (.bin .eql (.t 31) (.c (.int .i64 12))) 0,zm 32 33 1]
def f81r7:LO:=[zf 34 1 5 0,zl 35 34 1,zo 36 (.bin .eql (.t 35) (.c (.int .i64 0))) 3,zm 37 36 7,zh 38 (.fieldAddr 2 (.t 5)) 37 true 15,zh 39 (.load false 1 (.t 38)) 37 true 31,zh 40 (.bin .eql (.t 39) (.c (.int .i64 0))) 37 true 63,za 41 37 40 127,zm 42 41 255,zh 43 (.fieldAddr 3 (.t 5)) 42 true 511,zh 44 (.load false 1 (.t 43)) 42 true 1023,zh 45 (.call (.c (.fn 114 [] [])) [(.t 44)]) 42 true 2047,za 46 42 45 4095,zm 47 46 8191,zg 48 6 47 true 16383,za 49 47 48 32767,zm 4 49 65535]
def f81r8:LO:=[zo 51 (.bin .eql (.t 31) (.c (.int .i64 15))) 0,zm 50 51 1]
def f81r9:LO:=[zo 52 (.bin .eql (.t 31) (.c (.int .i64 16))) 0,zm 50 52 1]
def f81r10:LO:=[zf 53 1 5 0,zl 54 53 1,zo 55 (.bin .eql (.t 54) (.c (.int .i64 0))) 3,zm 56 55 7,zh 57 (.fieldAddr 2 (.t 5)) 56 true 15,zh 58 (.load false 1 (.t 57)) 56 true 31,zh 59 (.bin .eql (.t 58) (.c (.int .i64 0))) 56 true 63,za 60 56 59 127,zm 61 60 255,zh 62 (.fieldAddr 3 (.t 5)) 61 true 511,zh 63 (.load false 1 (.t 62)) 61 true 1023,zh 64 (.call (.c (.fn 114 [] [])) [(.t 63)]) 61 true 2047,za 65 61 64 4095,zm 66 65 8191,zg 67 6 66 true 16383,zg 68 67 66 true 32767,zh 69 (.fieldAddr 5 (.t 5)) 68 false 65535,zh 70 (.load false 1 (.t 69)) 68 false 131071,zg 71 70 68 false 262143,zg 72 0 71 true 524287,zh 73 (.fieldAddr 4 (.t 5)) 71 true 524287,zh 74 (.load false 1 (.t 73)) 71 true 1572863,zh 75 (.call (.c (.fn 115 [] [])) [(.t 72),(.t 74)]) 71 true 4194303,zh 76 (.bin .eql (.t 75) (.c (.int .i64 0))) 71 true 8388607,zh 77 (.pick (.t 71) (.t 76) (.c (.bool false))) 68 false 16777215,zh 78 (.pick (.t 68) (.c (.bool true)) (.t 77)) 66 true 33554431,za 79 66 78 67108863,zm 4 79 134217727]
def f81r11:LO:=[zo 81 (.bin .eql (.t 31) (.c (.int .i64 13))) 0,zm 80 81 1]
def f81r12:LO:=[zf 82 1 5 0,zl 83 82 1,zo 84 (.bin .geq (.t 83) (.c (.int .i64 0))) 3,zm 85 84 7,zh 86 (.fieldAddr 1 (.t 5)) 85 true 15,zh 87 (.load false 1 (.t 86)) 85 true 31,zg 88 1 85 true 15,zh 89 (.bin .lss (.t 87) (.t 88)) 85 true 127,za 90 85 89 255,zm 91 90 511,zh 92 (.fieldAddr 2 (.t 5)) 91 true 1023,zh 93 (.load false 1 (.t 92)) 91 true 2047,zh 94 (.bin .eql (.t 93) (.c (.int .i64 0))) 91 true 4095,za 95 91 94 8191,zm 96 95 16383,zh 97 (.fieldAddr 3 (.t 5)) 96 true 32767,zh 98 (.load false 1 (.t 97)) 96 true 65535,zh 99 (.bin .eql (.t 98) (.c (.str []))) 96 true 131071,za 100 96 99 262143,zm 101 100 524287,zg 102 6 101 true 1048575,za 103 101 102 2097151,zm 4 103 4194303]
def f81r13:LO:=[zo 105 (.bin .eql (.t 31) (.c (.int .i64 14))) 0,zm 104 105 1]
def f81r14:LO:=[zf 106 1 5 0,zl 107 106 1,zo 108 (.bin .geq (.t 107) (.c (.int .i64 0))) 3,zm 109 108 7,zh 110 (.fieldAddr 1 (.t 5)) 109 true 15,zh 111 (.load false 1 (.t 110)) 109 true 31,zg 112 1 109 true 15,zh 113 (.bin .lss (.t 111) (.t 112)) 109 true 127,za 114 109 113 255,zm 115 114 511,zh 116 (.fieldAddr 2 (.t 5)) 115 true 1023,zh 117 (.load false 1 (.t 116)) 115 true 2047,zh 118 (.call (.c (.fn 116 [] [])) [(.t 117)]) 115 true 4095,za 119 115 118 8191,zm 120 119 16383,zh 121 (.fieldAddr 3 (.t 5)) 120 true 32767,zh 122 (.load false 1 (.t 121)) 120 true 65535,zh 123 (.bin .eql (.t 122) (.c (.str []))) 120 true 131071,za 124 120 123 262143,zm 125 124 524287,zg 126 6 125 true 1048575,za 127 125 126 2097151,zm 128 127 4194303,zg 129 0 128 true 8388607,zh 130 (.fieldAddr 1 (.t 5)) 128 true 8388607,zh 131 (.load false 1 (.t 130)) 128 true 25165823,zh 132 (.call (.c (.fn 110 [] [])) [(.t 129),(.t 131)]) 128 true 67108863,za 133 128 132 134217727,zm 4 133 268435455]
def f81r15:LO:=[zo 4 (.move (.c (.bool false))) 0]
def f81c:ACode :=
 .seq (zr f81r0 [0,1] 0)
 (.seq (zr f81r1 [0,1,5] 1)
 (.seq (.seq (zr f81r2 [0,1,5,15] 0)
 (.cond (.t 15)
  (.seq (zr f81r3 [4] 0)
  (.ret))
  (.skip)))
 (.seq (zr f81r4 [0,1,5,6] 0)
 (.seq (.seq (zr f81r5 [0,1,5,6,31] 0)
 (.block 0 (.seq (zr f81r6 [0,1,5,6,31,32] 0)
  (.cond (.t 32)
   (.seq (zr f81r7 [4] 0)
   (.ret))
   (.seq (.seq (zr f81r8 [0,1,5,6,31,50] 0)
   (.cond (.t 50)
    (.skip)
    (zr f81r9 [0,1,5,6,31,50] 0)))
   (.cond (.t 50)
    (.seq (zr f81r10 [4] 0)
    (.ret))
    (.seq (zr f81r11 [0,1,5,6,31,80] 0)
    (.cond (.t 80)
     (.seq (zr f81r12 [4] 0)
     (.ret))
     (.seq (zr f81r13 [0,1,5,6,104] 0)
     (.cond (.t 104)
      (.seq (zr f81r14 [4] 0)
      (.ret))
      (.skip)))))))))))
 (.seq (zr f81r15 [4] 0)
 (.ret))))))
def f81:AFn:=⟨2,134,[.tmp 4],f81c,1,none⟩
def f81k:=kI [0,1,2,3,4,5,6,14,8,9,12,11,10,13,7,15] f81c
def f81v:List Nat:=[]
def f82r0:LO:=[zo 4 (.move (.c (.bool false))) 0]
def f82r1:LO:=[zm 7 0 0,zo 8 (.nilCheck (.t 7)) 1,zf 9 0 8 3,zl 10 9 7,zm 11 1 0,zo 12 (.idxAddr 6 (.t 10) (.t 11)) 31,zo 13 (.load true 6 (.t 12)) 63,zo 5 (.alloc false [(.int .i64 0),(.int .i64 0),(.int .i64 0),(.str []),(.is [] .nil),(.bool false)]) 0,⟨none,.store 6 (.t 5) (.t 13),none,1,255⟩]
def f82r2:LO:=[zf 14 0 5 0,zl 15 14 1,zo 16 (.bin .neq (.t 15) (.c (.int .i64 13))) 3,zm 17 16 7,zh 18 (.fieldAddr 0 (.t 5)) 17 true 15,zh 19 (.load false 1 (.t 18)) 17 true 31,zh 20 (.bin .neq (.t 19) (.c (.int .i64 14))) 17 true 63,za 21 17 20 127]
def f82r3:LO:=[zo 4 (.move (.c (.bool false))) 0]
def f82r4:LO:=[zo 6 (.move (.c (.int .i64 0))) 0]
def f82r5:LO:=[zm 22 6 0,zm 23 1 0,zo 24 (.bin .lss (.t 22) (.t 23)) 3]
def f82q6:LO:=[zm 27 0 0,zo 28 (.nilCheck (.t 27)) 1,zf 29 0 28 3,zl 30 29 7,zm 31 6 0,zo 32 (.idxAddr 6 (.t 30) (.t 31)) 31,zf 33 0 32 63,zl 34 33 127,zf 35 0 5 0,zl 36 35 256,zo 37 (.bin .eql (.t 34) (.t 36)) 1023,zm 38 37 2047,zg 39 0 38 true 4095,zh 40 (.nilCheck (.t 39)) 38 true 8191,zh 41 (.fieldAddr 0 (.t 40)) 38 true 16383,zh 42 (.load false 1 (.t 41)) 38 true 32767,zg 43 6 38 true 4095,zh 44 (.idxAddr 6 (.t 42) (.t 43)) 38 true 131071,zh 45 (.fieldAddr 1 (.t 44)) 38 true 262143,zh 46 (.load false 1 (.t 45)) 38 true 524287,zh 47 (.fieldAddr 1 (.t 5)) 38 true 4095,zh 48 (.load false 1 (.t 47)) 38 true 1052671,zh 49 (.bin .eql (.t 46) (.t 48)) 38 true 4194303,za 50 38 49 8388607,zm 51 50 16777215,zg 52 0 51 true 33554431,zh 53 (.nilCheck (.t 52)) 51 true 67108863,zh 54 (.fieldAddr 0 (.t 53)) 51 true 134217727,zh 55 (.load false 1 (.t 54)) 51 true 268435455,zg 56 6 51 true 33554431,zh 57 (.idxAddr 6 (.t 55) (.t 56)) 51 true 1073741823,zh 58 (.fieldAddr 2 (.t 57)) 51 true 2147483647,zh 59 (.load false 1 (.t 58)) 51 true 4294967295,zh 60 (.fieldAddr 2 (.t 5)) 51 true 33554431,zh 61 (.load false 1 (.t 60)) 51 true 8623489023,zh 62 (.bin .eql (.t 59) (.t 61)) 51 true 34359738367,za 63 51 62 68719476735]
def f82r6:LO:=f82q6
def f82r7:LO:=[zo 4 (.move (.c (.bool true))) 0]
def f82r8:LO:=[zm 25 6 0,zo 26 (.bin .add (.t 25) (.c (.int .i64 1))) 1,zm 6 26 3]
def f82m5:ACode :=
 .seq (.seq (zr f82r5 [0,1,5,6,24] 0)
 (.cond (.t 24)
  (.skip)
  (.exit 0)))
 (.seq (.block 1 (.seq (.region true f82r6 [0,1,5,6,63] 0)
  (.cond (.t 63)
   (.seq (zr f82r7 [4] 0)
   (.ret))
   (.skip))))
 (zr f82r8 [0,1,5,6] 0))
def f82l5:ACode:=f82m5
theorem f82l5_b:DB f82l5 f82m5:=rfl
def f82r9:LO:=[zo 4 (.move (.c (.bool false))) 0]
theorem f82r6_s:staticOK 0 f82r6=true:=by rfl
theorem f82r6_w:DW f82r6:=fun hr=>Brun_drawnS f82r6_s hr
theorem f82r6_u:DU f82r6 f82q6:=fun _ _ _ _ _=>rfl
def f82c:ACode :=
 .seq (zr f82r0 [0,1] 0)
 (.seq (zr f82r1 [0,1,5] 1)
 (.seq (.seq (zr f82r2 [0,1,5,21] 0)
 (.cond (.t 21)
  (.seq (zr f82r3 [4] 0)
  (.ret))
  (.skip)))
 (.seq (.seq (zr f82r4 [0,1,5,6] 0)
 (.block 0 (.loop f82l5)))
 (.seq (zr f82r9 [4] 0)
 (.ret)))))
def f82:AFn:=⟨2,64,[.tmp 4],f82c,1,none⟩
def f82k:=kI [0,1,2,3,4,5,7,8,6,9] f82c
def f82v:List Nat:=[]
def f83r0:LO:=[zo 2 (.move (.c (.is [] .nil))) 0]
def f83r1:LO:=[zm 9 0 0,zo 10 (.nilCheck (.t 9)) 1,zf 11 0 10 3,zl 12 11 7,zo 13 (.len 1 (.t 12)) 15,zo 14 (.mkSlice false 1 1 [(.bool false)] (.t 13) (.t 13)) 31,⟨some 3,.move (.t 14),none,1,63⟩]
def f83r2:LO:=[zo 4 (.move (.c (.bool true))) 0]
def f83r3:LO:=[zm 15 4 0]
def f83r4:LO:=[zo 4 (.move (.c (.bool false))) 0]
def f83r5:LO:=[zo 5 (.move (.c (.int .i64 0))) 0]
def f83r6:LO:=[zm 16 5 0,zm 17 0 0,zo 18 (.nilCheck (.t 17)) 2,zf 19 0 18 6,zl 20 19 14,zo 21 (.len 1 (.t 20)) 30,zo 22 (.bin .lss (.t 16) (.t 21)) 63]
def f83r7:LO:=[zo 6 (.move (.c (.bool true))) 0]
def f83r8:LO:=[zm 25 0 0,zo 26 (.nilCheck (.t 25)) 1,zf 27 0 26 3,zl 28 27 7,zm 29 5 0,zo 30 (.idxAddr 6 (.t 28) (.t 29)) 31,zo 31 (.load true 6 (.t 30)) 63,zo 7 (.alloc false [(.int .i64 0),(.int .i64 0),(.int .i64 0),(.str []),(.is [] .nil),(.bool false)]) 0,⟨none,.store 6 (.t 7) (.t 31),none,1,255⟩]
def f83r9:LO:=[zf 32 0 7 0,zl 33 32 1,zo 34 (.bin .eql (.t 33) (.c (.int .i64 14))) 3]
def f83r10:LO:=[zm 35 3 0,zf 36 1 7 0,zl 37 36 2,zo 38 (.idxAddr 1 (.t 35) (.t 37)) 7,zl 39 38 15,zm 6 39 31]
def f83r11:LO:=[zo 8 (.move (.c (.int .i64 0))) 0]
def f83r12:LO:=[zm 40 8 0,zf 41 4 7 0,zl 42 41 2,zo 43 (.len 1 (.t 42)) 6,zo 44 (.bin .lss (.t 40) (.t 43)) 15]
def f83r13:LO:=[zm 47 6 0,zm 48 47 1,zg 49 3 48 true 3,zh 50 (.fieldAddr 4 (.t 7)) 48 true 3,zh 51 (.load false 1 (.t 50)) 48 true 11,zg 52 8 48 true 3,zh 53 (.idxAddr 3 (.t 51) (.t 52)) 48 true 59,zh 54 (.fieldAddr 1 (.t 53)) 48 true 123,zh 55 (.load false 1 (.t 54)) 48 true 251,zh 56 (.idxAddr 1 (.t 49) (.t 55)) 48 true 511,zh 57 (.load false 1 (.t 56)) 48 true 1023,za 58 48 57 2047,zm 6 58 4095]
def f83r14:LO:=[zm 45 8 0,zo 46 (.bin .add (.t 45) (.c (.int .i64 1))) 1,zm 8 46 3]
def f83m12:ACode :=
 .seq (.seq (zr f83r12 [0,3,4,5,6,7,8,44] 0)
 (.cond (.t 44)
  (.skip)
  (.exit 4)))
 (.seq (.block 5 (zr f83r13 [0,3,4,5,6,7,8] 0))
 (zr f83r14 [0,3,4,5,6,7,8] 0))
def f83l12:ACode:=f83m12
theorem f83l12_b:DB f83l12 f83m12:=rfl
def f83r15:LO:=[zm 59 6 0,zm 60 59 1,zg 61 3 60 true 3,zg 62 5 60 true 3,zh 63 (.idxAddr 1 (.t 61) (.t 62)) 60 true 15,zh 64 (.load false 1 (.t 63)) 60 true 31,zh 65 (.un .not (.t 64)) 60 true 63,za 66 60 65 127]
def f83r16:LO:=[zm 67 3 0,zm 68 5 0,zo 69 (.idxAddr 1 (.t 67) (.t 68)) 3,zn (.store 1 (.t 69) (.c (.bool true))) 7]
def f83r17:LO:=[zo 4 (.move (.c (.bool true))) 0]
def f83r18:LO:=[zm 23 5 0,zo 24 (.bin .add (.t 23) (.c (.int .i64 1))) 1,zm 5 24 3]
def f83m6:ACode :=
 .seq (.seq (zr f83r6 [0,3,4,5,22] 0)
 (.cond (.t 22)
  (.skip)
  (.exit 2)))
 (.seq (.block 3 (.seq (zr f83r7 [0,3,4,5,6] 0)
  (.seq (zr f83r8 [0,3,4,5,6,7] 1)
  (.seq (.seq (zr f83r9 [0,3,4,5,6,7,34] 0)
  (.cond (.t 34)
   (zr f83r10 [0,3,4,5,6,7] 0)
   (.skip)))
  (.seq (.seq (zr f83r11 [0,3,4,5,6,7,8] 0)
  (.block 4 (.loop f83l12)))
  (.seq (zr f83r15 [0,3,4,5,66] 0)
  (.cond (.t 66)
   (.seq (zr f83r16 [0,3,5] 0)
   (zr f83r17 [0,3,4,5] 0))
   (.skip))))))))
 (zr f83r18 [0,3,4,5] 0))
def f83l6:ACode:=f83m6
theorem f83l6_b:DB f83l6 f83m6:=rfl
def f83m3:ACode :=
 .seq (.seq (zr f83r3 [0,3,15] 0)
 (.cond (.t 15)
  (.skip)
  (.exit 0)))
 (.block 1 (.seq (zr f83r4 [0,3,4] 0)
  (.seq (zr f83r5 [0,3,4,5] 0)
  (.block 2 (.loop f83l6)))))
def f83l3:ACode:=f83m3
theorem f83l3_b:DB f83l3 f83m3:=rfl
def f83r19:LO:=[zm 70 3 0,zm 2 70 1]
def f83c:ACode :=
 .seq (zr f83r0 [0] 0)
 (.seq (zr f83r1 [0,3] 1)
 (.seq (zr f83r2 [0,3,4] 0)
 (.seq (.block 0 (.loop f83l3))
 (.seq (zr f83r19 [2] 0)
 (.ret)))))
def f83:AFn:=⟨1,71,[.tmp 2],f83c,1,none⟩
def f83k:=kI [0,1,2,3,4,5,6,8,9,10,11,12,13,15,14,16,17,18,7,19] f83c
def f83v:List Nat:=[]
def f84r0:LO:=[zo 1 (.box false (.t 0)) 0,⟨some 2,.alloc false [(.int .i64 0),(.int .i64 0),(.int .i64 0),(.str []),(.is [] .nil),(.bool false)],none,1,0⟩]
def f84r1:LO:=[zf 3 4 1 0,zl 4 3 1,zo 5 (.call (.c (.fn 106 [] [])) [(.t 4)]) 3,zf 6 4 1 7,zn (.store 1 (.t 6) (.t 5)) 15]
def f84r2:LO:=[zo 7 (.load true 6 (.t 1)) 0,zn (.store 6 (.t 2) (.t 7)) 1]
def f84c:ACode :=
 .seq (zr f84r0 [1,2] 2)
 (.seq (zr f84r1 [1,2] 0)
 (.seq (zr f84r2 [2] 0)
 (.ret)))
def f84:AFn:=⟨1,8,[.cell 2 true 6],f84c,1,none⟩
def f84k:=kA f84c
def f84v:List Nat:=[]
def f85r0:LO:=[zo 4 (.move (.c (.bool false))) 0]
def f85r1:LO:=[zm 9 0 0,zo 10 (.nilCheck (.t 9)) 1,zf 11 0 10 3,zl 12 11 7,zm 13 1 0,zo 14 (.idxAddr 6 (.t 12) (.t 13)) 31,zo 15 (.load true 6 (.t 14)) 63,zo 5 (.alloc false [(.int .i64 0),(.int .i64 0),(.int .i64 0),(.str []),(.is [] .nil),(.bool false)]) 0,⟨none,.store 6 (.t 5) (.t 15),none,1,255⟩]
def f85r2:LO:=[zo 16 (.load true 6 (.t 5)) 0,zo 6 (.alloc false [(.int .i64 0),(.int .i64 0),(.int .i64 0),(.str []),(.is [] .nil),(.bool false)]) 0,⟨none,.store 6 (.t 6) (.t 16),none,1,3⟩]
def f85r3:LO:=[zf 17 4 6 0,zn (.store 1 (.t 17) (.c (.is [] .nil))) 1]
def f85r4:LO:=[zf 18 0 5 0,zl 19 18 1,zo 20 (.build [(.int .i64 0),(.int .i64 0),(.int .i64 0),(.str []),(.is [] .nil),(.bool false)] [(0,1,(.t 19))]) 3,zo 7 (.alloc false [(.int .i64 0),(.int .i64 0),(.int .i64 0),(.str []),(.is [] .nil),(.bool false)]) 0,⟨none,.store 6 (.t 7) (.t 20),none,1,15⟩]
def f85r5:LO:=[zf 21 0 5 0,zl 22 21 1]
def f85r6:LO:=[zo 24 (.bin .eql (.t 22) (.c (.int .i64 13))) 0,zm 23 24 1]
def f85r7:LO:=[zf 25 1 5 0,zl 26 25 1,zf 27 1 7 3,zn (.store 1 (.t 27) (.t 26)) 7]
def f85r8:LO:=[zo 29 (.bin .eql (.t 22) (.c (.int .i64 14))) 0,zm 28 29 1]
def f85r9:LO:=[zf 30 1 5 0,zl 31 30 1,zf 32 2 5 0,zl 33 32 4,zf 34 1 7 3,zn (.store 1 (.t 34) (.t 31)) 19,zf 35 2 7 63,zn (.store 1 (.t 35) (.t 33)) 127]
def f85r10:LO:=[zo 37 (.bin .eql (.t 22) (.c (.int .i64 12))) 0,zm 36 37 1]
def f85r11:LO:=[zf 38 3 5 0,zl 39 38 1,zf 40 3 7 3,zn (.store 1 (.t 40) (.t 39)) 7]
def f85r12:LO:=[zo 42 (.bin .eql (.t 22) (.c (.int .i64 15))) 0,zm 41 42 1]
def f85r13:LO:=[zo 43 (.bin .eql (.t 22) (.c (.int .i64 16))) 0,zm 41 43 1]
def f85r14:LO:=[zf 44 3 5 0,zl 45 44 1,zf 46 5 5 0,zl 47 46 4,zf 48 3 7 3,zn (.store 1 (.t 48) (.t 45)) 19,zf 49 5 7 63,zn (.store 1 (.t 49) (.t 47)) 127]
def f85r15:LO:=[zo 4 (.move (.c (.bool false))) 0]
def f85r16:LO:=[zf 50 0 6 0,zl 51 50 1,zf 52 0 7 0,zl 53 52 4,zo 54 (.bin .eql (.t 51) (.t 53)) 15,zm 55 54 31,zh 56 (.fieldAddr 1 (.t 6)) 55 true 63,zh 57 (.load false 1 (.t 56)) 55 true 127,zh 58 (.fieldAddr 1 (.t 7)) 55 true 63,zh 59 (.load false 1 (.t 58)) 55 true 319,zh 60 (.bin .eql (.t 57) (.t 59)) 55 true 1023,za 61 55 60 2047,zm 62 61 4095,zh 63 (.fieldAddr 2 (.t 6)) 62 true 8191,zh 64 (.load false 1 (.t 63)) 62 true 16383,zh 65 (.fieldAddr 2 (.t 7)) 62 true 8191,zh 66 (.load false 1 (.t 65)) 62 true 40959,zh 67 (.bin .eql (.t 64) (.t 66)) 62 true 131071,za 68 62 67 262143,zm 69 68 524287,zh 70 (.fieldAddr 3 (.t 6)) 69 true 1048575,zh 71 (.load false 1 (.t 70)) 69 true 2097151,zh 72 (.fieldAddr 3 (.t 7)) 69 true 1048575,zh 73 (.load false 1 (.t 72)) 69 true 5242879,zh 74 (.bin .eql (.t 71) (.t 73)) 69 true 16777215,za 75 69 74 33554431,zm 76 75 67108863,zh 77 (.fieldAddr 5 (.t 6)) 76 true 134217727,zh 78 (.load false 1 (.t 77)) 76 true 268435455,zh 79 (.fieldAddr 5 (.t 7)) 76 true 134217727,zh 80 (.load false 1 (.t 79)) 76 true 671088639,zh 81 (.eq false .bool (.t 78) (.t 80)) 76 true 2147483647,za 82 76 81 4294967295,zm 8 82 8589934591]
def f85r17:LO:=[zm 83 8 0,zo 84 (.un .not (.t 83)) 1,zm 85 84 3,zh 86 (.fieldAddr 5 (.t 5)) 85 false 7,zh 87 (.load false 1 (.t 86)) 85 false 15,zh 88 (.un .not (.t 87)) 85 false 31,zg 89 88 85 false 63,zh 90 (.fieldAddr 4 (.t 5)) 89 true 127,zh 91 (.load false 1 (.t 90)) 89 true 255,zh 92 (.len 1 (.t 91)) 89 true 511,zh 93 (.bin .gtr (.t 92) (.c (.int .i64 0))) 89 true 1023,zh 94 (.pick (.t 89) (.t 93) (.c (.bool false))) 85 false 2047,zq 95 85 94 4095]
def f85r18:LO:=[zo 4 (.move (.c (.bool false))) 0]
def f85r19:LO:=[zf 96 0 5 0,zl 97 96 1]
def f85r20:LO:=[zo 99 (.bin .eql (.t 97) (.c (.int .i64 13))) 0,zm 98 99 1]
def f85r21:LO:=[zo 100 (.bin .eql (.t 97) (.c (.int .i64 14))) 0,zm 98 100 1]
def f85r22:LO:=[zf 101 1 5 0,zl 102 101 1,zo 103 (.bin .geq (.t 102) (.c (.int .i64 0))) 3,zm 104 103 7,zh 105 (.fieldAddr 1 (.t 5)) 104 true 15,zh 106 (.load false 1 (.t 105)) 104 true 31,zg 107 1 104 true 15,zh 108 (.bin .lss (.t 106) (.t 107)) 104 true 127,za 109 104 108 255,zm 110 109 511,zh 111 (.fieldAddr 0 (.t 5)) 110 true 1023,zh 112 (.load false 1 (.t 111)) 110 true 2047,zh 113 (.bin .eql (.t 112) (.c (.int .i64 13))) 110 true 4095,zg 114 113 110 true 8191,zh 115 (.fieldAddr 2 (.t 5)) 114 false 16383,zh 116 (.load false 1 (.t 115)) 114 false 32767,zh 117 (.call (.c (.fn 117 [] [])) [(.t 116)]) 114 false 65535,zh 118 (.pick (.t 114) (.c (.bool true)) (.t 117)) 110 true 131071,za 119 110 118 262143,zm 4 119 524287]
def f85r23:LO:=[zf 120 3 5 0,zl 121 120 1,zo 122 (.call (.c (.fn 118 [] [])) [(.t 121)]) 3,zm 4 122 7]
def f85c:ACode :=
 .seq (zr f85r0 [0,1] 0)
 (.seq (zr f85r1 [1,5] 1)
 (.seq (zr f85r2 [1,5,6] 1)
 (.seq (zr f85r3 [1,5,6] 0)
 (.seq (zr f85r4 [1,5,6,7] 1)
 (.seq (.seq (zr f85r5 [1,5,6,7,22] 0)
 (.block 0 (.seq (zr f85r6 [1,5,6,7,22,23] 0)
  (.cond (.t 23)
   (zr f85r7 [1,5,6,7] 0)
   (.seq (zr f85r8 [1,5,6,7,22,28] 0)
   (.cond (.t 28)
    (.region true f85r9 [1,5,6,7] 0)
    (.seq (zr f85r10 [1,5,6,7,22,36] 0)
    (.cond (.t 36)
     (zr f85r11 [1,5,6,7] 0)
     (.seq (.seq (zr f85r12 [1,5,6,7,22,41] 0)
     (.cond (.t 41)
      (.skip)
      (zr f85r13 [1,5,6,7,41] 0)))
     (.cond (.t 41)
      (.region true f85r14 [1,5,6,7] 0)
      (.seq (zr f85r15 [4] 0)
      (.ret))))))))))))
 (.seq (zr f85r16 [1,5,8] 0)
 (.seq (.seq (zr f85r17 [1,5,95] 0)
 (.cond (.t 95)
  (.seq (zr f85r18 [4] 0)
  (.ret))
  (.skip)))
 (.seq (.seq (zr f85r19 [1,5,97] 0)
 (.block 1 (.seq (.seq (zr f85r20 [1,5,97,98] 0)
  (.cond (.t 98)
   (.skip)
   (zr f85r21 [1,5,98] 0)))
  (.cond (.t 98)
   (.seq (zr f85r22 [4] 0)
   (.ret))
   (.skip)))))
 (.seq (zr f85r23 [4] 0)
 (.ret))))))))))
def f85:AFn:=⟨2,123,[.tmp 4],f85c,1,none⟩
def f85k:=kI [0,1,2,3,4,5,7,15,9,12,11,10,13,14,8,6,16,17,18,19,20,21,22,23] f85c
def f85v:List Nat:=[]
def f86r0:LO:=[zo 4 (.move (.c (.bool false))) 0]
def f86r1:LO:=[zm 6 0 0,zm 7 1 0,zo 8 (.call (.c (.fn 100 [] [])) [(.t 6),(.t 7)]) 3,zm 5 8 7]
def f86r2:LO:=[zm 9 5 0]
def f86r3:LO:=[zo 11 (.bin .eql (.t 9) (.c (.int .i64 0))) 0,zm 10 11 1]
def f86r4:LO:=[zo 12 (.bin .eql (.t 9) (.c (.int .i64 1))) 0,zm 10 12 1]
def f86r5:LO:=[zo 4 (.move (.c (.bool false))) 0]
def f86r6:LO:=[zo 14 (.bin .eql (.t 9) (.c (.int .i64 14))) 0,zm 13 14 1]
def f86r7:LO:=[zm 15 0 0,zo 16 (.nilCheck (.t 15)) 1,zf 17 0 16 3,zl 18 17 7,zm 19 1 0,zo 20 (.idxAddr 6 (.t 18) (.t 19)) 31,zf 21 2 20 63,zl 22 21 127,zo 23 (.bin .geq (.t 22) (.c (.int .i64 0))) 255,zm 4 23 511]
def f86r8:LO:=[zo 25 (.bin .eql (.t 9) (.c (.int .i64 15))) 0,zm 24 25 1]
def f86r9:LO:=[zo 26 (.bin .eql (.t 9) (.c (.int .i64 16))) 0,zm 24 26 1]
def f86r10:LO:=[zm 27 0 0,zo 28 (.nilCheck (.t 27)) 1,zf 29 0 28 3,zl 30 29 7,zm 31 1 0,zo 32 (.idxAddr 6 (.t 30) (.t 31)) 31,zf 33 5 32 63,zl 34 33 127,zm 4 34 255]
def f86r11:LO:=[zo 4 (.move (.c (.bool true))) 0]
def f86c:ACode :=
 .seq (zr f86r0 [0,1] 0)
 (.seq (.seq (zr f86r1 [0,1,5] 0)
 (.seq (zr f86r2 [0,1,9] 0)
 (.block 0 (.seq (.seq (zr f86r3 [0,1,9,10] 0)
  (.cond (.t 10)
   (.skip)
   (zr f86r4 [0,1,9,10] 0)))
  (.cond (.t 10)
   (.seq (zr f86r5 [4] 0)
   (.ret))
   (.seq (zr f86r6 [0,1,9,13] 0)
   (.cond (.t 13)
    (.seq (zr f86r7 [4] 0)
    (.ret))
    (.seq (.seq (zr f86r8 [0,1,9,24] 0)
    (.cond (.t 24)
     (.skip)
     (zr f86r9 [0,1,24] 0)))
    (.cond (.t 24)
     (.seq (zr f86r10 [4] 0)
     (.ret))
     (.skip))))))))))
 (.seq (zr f86r11 [4] 0)
 (.ret)))
def f86:AFn:=⟨2,35,[.tmp 4],f86c,1,none⟩
def f86k:=kI [0,1,2,3,4,10,6,7,8,9,5,11] f86c
def f86v:List Nat:=[]
def f87r0:LO:=[zo 4 (.move (.c (.int .i64 0))) 0]
def f87r1:LO:=[zm 8 1 0,zo 9 (.len 1 (.t 8)) 1,zo 10 (.bin .lss (.t 9) (.c (.int .i64 1))) 3,zm 11 10 7,zg 12 1 11 false 15,zh 13 (.len 1 (.t 12)) 11 false 31,zh 14 (.bin .gtr (.t 13) (.c (.int .i64 64))) 11 false 63,zq 15 11 14 127]
def f87r2:LO:=[zo 4 (.move (.c (.int .i64 2))) 0]
def f87r3:LO:=[zo 16 (.mkMap) 0,⟨some 5,.move (.t 16),none,1,1⟩]
def f87r4:LO:=[zm 17 1 0,zo 18 (.len 1 (.t 17)) 1,zo 19 (.move (.c (.int .i64 0))) 0]
def f87r5:LO:=[zo 20 (.bin .lss (.t 19) (.t 18)) 0]
def f87r6:LO:=[zo 21 (.idxAddr 3 (.t 17) (.t 19)) 0,zo 22 (.load true 3 (.t 21)) 1,zo 7 (.alloc false [(.str []),(.int .i64 0),(.int .i64 0)]) 0,⟨none,.store 3 (.t 7) (.t 22),none,1,7⟩]
def f87r7:LO:=[zm 24 0 0,zf 25 1 7 0,zl 26 25 2,zo 27 (.call (.c (.fn 91 [] [])) [(.t 24),(.t 26)]) 7,zo 28 (.un .not (.t 27)) 15,zm 23 28 31]
def f87r8:LO:=[zo 4 (.move (.c (.int .i64 30))) 0]
def f87r9:LO:=[zm 30 0 0,zf 31 1 7 0,zl 32 31 2,zo 33 (.call (.c (.fn 86 [] [])) [(.t 30),(.t 32)]) 7,zo 34 (.un .not (.t 33)) 15,zm 29 34 31]
def f87r10:LO:=[zo 4 (.move (.c (.int .i64 50))) 0]
def f87r11:LO:=[zf 36 2 7 0,zl 37 36 1,zo 38 (.bin .neq (.t 37) (.c (.int .i64 (-1)))) 3,zm 39 38 7,zg 40 0 39 true 15,zh 41 (.fieldAddr 1 (.t 7)) 39 true 15,zh 42 (.load false 1 (.t 41)) 39 true 47,zh 43 (.fieldAddr 2 (.t 7)) 39 true 15,zh 44 (.load false 1 (.t 43)) 39 true 143,zh 45 (.call (.c (.fn 119 [] [])) [(.t 40),(.t 42),(.t 44)]) 39 true 511,zh 46 (.un .not (.t 45)) 39 true 1023,za 47 39 46 2047,zm 35 47 4095]
def f87r12:LO:=[zo 4 (.move (.c (.int .i64 52))) 0]
def f87r13:LO:=[zf 49 0 7 0,zl 50 49 1,zo 51 (.bin .eql (.t 50) (.c (.str []))) 3,zm 52 51 7,zh 53 (.fieldAddr 2 (.t 7)) 52 true 15,zh 54 (.load false 1 (.t 53)) 52 true 31,zh 55 (.bin .lss (.t 54) (.c (.int .i64 0))) 52 true 63,za 56 52 55 127,zm 48 56 255]
def f87r14:LO:=[zf 57 0 7 0,zl 58 57 1,zo 59 (.bin .neq (.t 58) (.c (.str []))) 3,zm 60 59 7,zh 61 (.fieldAddr 0 (.t 7)) 60 true 15,zh 62 (.load false 1 (.t 61)) 60 true 31,zh 63 (.call (.c (.fn 120 [] [])) [(.t 62)]) 60 true 63,zh 64 (.un .not (.t 63)) 60 true 127,zg 65 64 60 true 255,zh 66 (.fieldAddr 2 (.t 7)) 65 false 511,zh 67 (.load false 1 (.t 66)) 65 false 1023,zh 68 (.bin .eql (.t 67) (.c (.int .i64 0))) 65 false 2047,zh 69 (.pick (.t 65) (.c (.bool true)) (.t 68)) 60 true 4095,zg 70 69 60 true 8191,zg 71 5 70 false 16383,zh 72 (.fieldAddr 0 (.t 7)) 70 false 16383,zh 73 (.load false 1 (.t 72)) 70 false 49151,zh 74 (.lookup false [.str] (.int .i64 0) false (.t 71) (.t 73)) 70 false 131071,zh 75 (.bin .gtr (.t 74) (.c (.int .i64 0))) 70 false 262143,zh 76 (.pick (.t 70) (.c (.bool true)) (.t 75)) 60 true 524287,za 77 60 76 1048575,zm 48 77 2097151]
def f87r15:LO:=[zo 4 (.move (.c (.int .i64 31))) 0]
def f87r16:LO:=[zm 78 5 0,zf 79 0 7 0,zl 80 79 2,zo 81 (.lookup false [.str] (.int .i64 0) false (.t 78) (.t 80)) 7,zo 82 (.bin .add (.t 81) (.c (.int .i64 1))) 15,zn (.mapUpdate false [.str] (.t 78) (.t 80) (.t 82)) 31]
def f87r17:LO:=[zo 83 (.bin .add (.t 19) (.c (.int .i64 1))) 0,zm 19 83 1]
def f87m5:ACode :=
 .seq (zr f87r5 [0,5,17,18,19,20] 0)
 (.seq (.cond (.t 20)
  (.skip)
  (.exit 0))
 (.seq (.block 1 (.seq (zr f87r6 [0,5,7,17,18,19] 1)
  (.seq (.block 2 (.seq (zr f87r7 [0,5,7,17,18,19,23] 0)
   (.cond (.t 23)
    (.seq (zr f87r8 [4] 0)
    (.ret))
    (.seq (zr f87r9 [0,5,7,17,18,19,29] 0)
    (.cond (.t 29)
     (.seq (zr f87r10 [4] 0)
     (.ret))
     (.seq (zr f87r11 [0,5,7,17,18,19,35] 0)
     (.cond (.t 35)
      (.seq (zr f87r12 [4] 0)
      (.ret))
      (.seq (.seq (zr f87r13 [0,5,7,17,18,19,48] 0)
      (.cond (.t 48)
       (.skip)
       (zr f87r14 [0,5,7,17,18,19,48] 0)))
      (.cond (.t 48)
       (.seq (zr f87r15 [4] 0)
       (.ret))
       (.skip))))))))))
  (zr f87r16 [0,5,17,18,19] 0))))
 (zr f87r17 [0,5,17,18,19] 0)))
def f87l5:ACode:=f87m5
theorem f87l5_b:DB f87l5 f87m5:=rfl
def f87r18:LO:=[zo 4 (.move (.c (.int .i64 0))) 0]
def f87c:ACode :=
 .seq (zr f87r0 [0,1] 0)
 (.seq (.seq (zr f87r1 [0,1,15] 0)
 (.cond (.t 15)
  (.seq (zr f87r2 [4] 0)
  (.ret))
  (.skip)))
 (.seq (zr f87r3 [0,1,5] 1)
 (.seq (.seq (zr f87r4 [0,5,17,18,19] 0)
 (.block 0 (.loop f87l5)))
 (.seq (zr f87r18 [4] 0)
 (.ret)))))
def f87:AFn:=⟨2,84,[.tmp 4],f87c,1,none⟩
def f87k:=kI [0,1,2,3,4,5,6,7,15,9,12,11,10,13,14,8,16,17,18] f87c
def f87v:List Nat:=[]
def f88r0:LO:=[zo 6 (.move (.c (.bool false))) 0]
def f88r1:LO:=[zm 10 2 0,zm 11 1 0,zo 12 (.idxAddr 1 (.t 10) (.t 11)) 3,zl 13 12 7]
def f88r2:LO:=[zo 15 (.bin .eql (.t 13) (.c (.int .i64 1))) 0,zm 14 15 1]
def f88r3:LO:=[zo 6 (.move (.c (.bool false))) 0]
def f88r4:LO:=[zo 17 (.bin .eql (.t 13) (.c (.int .i64 2))) 0,zm 16 17 1]
def f88r5:LO:=[zo 6 (.move (.c (.bool true))) 0]
def f88r6:LO:=[zm 18 2 0,zm 19 1 0,zo 20 (.idxAddr 1 (.t 18) (.t 19)) 3,zn (.store 1 (.t 20) (.c (.int .i64 1))) 7]
def f88r7:LO:=[zm 21 0 0,zo 22 (.nilCheck (.t 21)) 1,zf 23 0 22 3,zl 24 23 7,zm 25 1 0,zo 26 (.idxAddr 6 (.t 24) (.t 25)) 31,zo 27 (.load true 6 (.t 26)) 63,zo 7 (.alloc false [(.int .i64 0),(.int .i64 0),(.int .i64 0),(.str []),(.is [] .nil),(.bool false)]) 0,⟨none,.store 6 (.t 7) (.t 27),none,1,255⟩]
def f88r8:LO:=[zf 28 0 7 0,zl 29 28 1,zo 30 (.bin .eql (.t 29) (.c (.int .i64 14))) 3,zm 31 30 7,zg 32 0 31 true 15,zh 33 (.fieldAddr 1 (.t 7)) 31 true 15,zh 34 (.load false 1 (.t 33)) 31 true 47,zg 35 2 31 true 15,zh 36 (.call (.c (.fn 88 [] [])) [(.t 32),(.t 34),(.t 35)]) 31 true 255,zh 37 (.un .not (.t 36)) 31 true 511,za 38 31 37 1023]
def f88r9:LO:=[zo 6 (.move (.c (.bool false))) 0]
def f88r10:LO:=[zf 39 4 7 0,zl 40 39 1,zo 41 (.len 1 (.t 40)) 3,zo 42 (.move (.c (.int .i64 0))) 0]
def f88r11:LO:=[zo 43 (.bin .lss (.t 42) (.t 41)) 0]
def f88r12:LO:=[zo 44 (.idxAddr 3 (.t 40) (.t 42)) 0,zo 45 (.load true 3 (.t 44)) 1,zo 9 (.alloc false [(.str []),(.int .i64 0),(.int .i64 0)]) 0,⟨none,.store 3 (.t 9) (.t 45),none,1,7⟩]
def f88r13:LO:=[zm 46 0 0,zf 47 1 9 0,zl 48 47 2,zm 49 2 0,zo 50 (.call (.c (.fn 88 [] [])) [(.t 46),(.t 48),(.t 49)]) 15,zo 51 (.un .not (.t 50)) 31]
def f88r14:LO:=[zo 6 (.move (.c (.bool false))) 0]
def f88r15:LO:=[zo 52 (.bin .add (.t 42) (.c (.int .i64 1))) 0,zm 42 52 1]
def f88m11:ACode :=
 .seq (zr f88r11 [0,1,2,40,41,42,43] 0)
 (.seq (.cond (.t 43)
  (.skip)
  (.exit 1))
 (.seq (.block 2 (.seq (zr f88r12 [0,1,2,9,40,41,42] 1)
  (.seq (zr f88r13 [0,1,2,40,41,42,51] 0)
  (.cond (.t 51)
   (.seq (zr f88r14 [6] 0)
   (.ret))
   (.skip)))))
 (zr f88r15 [0,1,2,40,41,42] 0)))
def f88l11:ACode:=f88m11
theorem f88l11_b:DB f88l11 f88m11:=rfl
def f88r16:LO:=[zm 53 2 0,zm 54 1 0,zo 55 (.idxAddr 1 (.t 53) (.t 54)) 3,zn (.store 1 (.t 55) (.c (.int .i64 2))) 7]
def f88r17:LO:=[zo 6 (.move (.c (.bool true))) 0]
def f88c:ACode :=
 .seq (zr f88r0 [0,1,2] 0)
 (.seq (.seq (zr f88r1 [0,1,2,13] 0)
 (.block 0 (.seq (zr f88r2 [0,1,2,13,14] 0)
  (.cond (.t 14)
   (.seq (zr f88r3 [6] 0)
   (.ret))
   (.seq (zr f88r4 [0,1,2,16] 0)
   (.cond (.t 16)
    (.seq (zr f88r5 [6] 0)
    (.ret))
    (.skip)))))))
 (.seq (zr f88r6 [0,1,2] 0)
 (.seq (zr f88r7 [0,1,2,7] 1)
 (.seq (.seq (zr f88r8 [0,1,2,7,38] 0)
 (.cond (.t 38)
  (.seq (zr f88r9 [6] 0)
  (.ret))
  (.skip)))
 (.seq (.seq (zr f88r10 [0,1,2,40,41,42] 0)
 (.block 1 (.loop f88l11)))
 (.seq (zr f88r16 [] 0)
 (.seq (zr f88r17 [6] 0)
 (.ret))))))))
def f88:AFn:=⟨3,56,[.tmp 6],f88c,1,none⟩
def f88k:=kI [0,1,2,5,4,3,6,7,8,9,10,11,12,13,14,15,16,17] f88c
def f88v:List Nat:=[]
def f89r0:LO:=[zo 1 (.box false (.t 0)) 0,⟨some 2,.alloc false [(.int .i64 0),(.int .i64 0),(.int .i64 0),(.str []),(.is [] .nil),(.bool false)],none,1,0⟩]
def f89r1:LO:=[zo 3 (.move (.c (.is [] .nil))) 0]
def f89r2:LO:=[zm 4 3 0,zf 5 4 1 0,zl 6 5 2,zo 7 (.append true 3 32 (.t 4) (.t 6)) 7,⟨some 3,.move (.t 7),none,1,15⟩]
def f89r3:LO:=[zm 8 3 0,zf 9 4 1 1,zn (.store 1 (.t 9) (.t 8)) 3]
def f89r4:LO:=[zo 10 (.load true 6 (.t 1)) 0,zn (.store 6 (.t 2) (.t 10)) 1]
def f89c:ACode :=
 .seq (zr f89r0 [1,2] 2)
 (.seq (zr f89r1 [1,2,3] 0)
 (.seq (zr f89r2 [1,2,3] 1)
 (.seq (zr f89r3 [1,2] 0)
 (.seq (zr f89r4 [2] 0)
 (.ret)))))
def f89:AFn:=⟨1,11,[.cell 2 true 6],f89c,1,none⟩
def f89k:=kA f89c
def f89v:List Nat:=[7]
def f90r0:LO:=[zo 2 (.move (.c (.bool false))) 0]
def f90r1:LO:=[zm 3 0 0,zo 4 (.eq true .ptr (.t 3) (.c .nilp)) 1,zm 5 4 3,zg 6 0 5 true 7,zh 7 (.nilCheck (.t 6)) 5 true 15,zh 8 (.fieldAddr 1 (.t 7)) 5 true 31,zh 9 (.load false 1 (.t 8)) 5 true 63,zh 10 (.eq true .map (.t 9) (.c .nilm)) 5 true 127,za 11 5 10 255,zm 2 11 511]
def f90c:ACode :=
 .seq (zr f90r0 [0] 0)
 (.seq (zr f90r1 [2] 0)
 (.ret))
def f90:AFn:=⟨1,12,[.tmp 2],f90c,1,none⟩
def f90k:=kA f90c
def f90v:List Nat:=[]
def f91r0:LO:=[zo 4 (.move (.c (.bool false))) 0]
def f91r1:LO:=[zm 5 0 0,zo 6 (.call (.c (.fn 90 [] [])) [(.t 5)]) 1,zm 7 6 3,zg 8 1 7 true 7,zh 9 (.bin .geq (.t 8) (.c (.int .i64 0))) 7 true 15,za 10 7 9 31,zm 11 10 63,zg 12 1 11 true 127,zg 13 0 11 true 127,zh 14 (.nilCheck (.t 13)) 11 true 383,zh 15 (.fieldAddr 0 (.t 14)) 11 true 895,zh 16 (.load false 1 (.t 15)) 11 true 1919,zh 17 (.len 1 (.t 16)) 11 true 3967,zh 18 (.bin .lss (.t 12) (.t 17)) 11 true 8191,za 19 11 18 16383,zm 4 19 32767]
def f91c:ACode :=
 .seq (zr f91r0 [0,1] 0)
 (.seq (zr f91r1 [4] 0)
 (.ret))
def f91:AFn:=⟨2,20,[.tmp 4],f91c,1,none⟩
def f91k:=kA f91c
def f91v:List Nat:=[]
def f92r0:LO:=[zo 3 (.box true (.t 1)) 0,zo 4 (.move (.c (.int .i64 0))) 0,zo 5 (.move (.c (.int .i64 0))) 2]
def f92q1:LO:=[zm 11 0 0,zo 12 (.nilCheck (.t 11)) 1,zf 13 1 12 3,zl 14 13 7,zo 15 (.load true 3 (.t 3)) 0,zo 16 (.lookup true [.int .i64,.int .i64,.int .i64] (.int .i64 0) true (.t 14) (.t 15)) 31,zm 10 16 63,ze 17 10 0 127,ze 18 10 1 127,zm 6 17 255,zm 7 18 1023]
def f92r1:LO:=f92q1
def f92r2:LO:=[zm 19 7 0]
def f92r3:LO:=[zm 20 6 0,zm 4 20 1,zo 5 (.move (.c (.int .i64 0))) 3]
def f92r4:LO:=[zm 22 0 0,zf 23 0 3 0,zl 24 23 2,zf 25 1 3 0,zl 26 25 8,zf 27 2 3 0,zl 28 27 32,zo 29 (.build [(.int .i64 0),(.int .i64 0),(.int .i64 0),(.str []),(.is [] .nil),(.bool false)] [(0,1,(.t 24)),(1,1,(.t 26)),(2,1,(.t 28))]) 126,zo 30 (.call (.c (.fn 121 [] [])) [(.t 22),(.t 29)]) 255,zm 21 30 511,ze 31 21 0 1023,ze 32 21 1 1023,zm 8 31 2047,zm 9 32 8191]
def f92r5:LO:=[zm 33 9 0,zo 34 (.bin .eql (.t 33) (.c (.int .i64 0))) 1]
def f92q6:LO:=[zm 35 0 0,zo 36 (.nilCheck (.t 35)) 1,zf 37 1 36 3,zl 38 37 7,zo 39 (.load true 3 (.t 3)) 0,zm 40 8 0,zn (.mapUpdate true [.int .i64,.int .i64,.int .i64] (.t 38) (.t 39) (.t 40)) 63]
def f92r6:LO:=f92q6
def f92r7:LO:=[zm 41 8 0,zm 42 9 0,zm 4 41 1,zm 5 42 7]
def f92c:ACode :=
 .seq (zr f92r0 [0,3] 0)
 (.seq (.seq (.region true f92r1 [0,3,6,7] 0)
 (.seq (zr f92r2 [0,3,6,19] 0)
 (.cond (.t 19)
  (.seq (zr f92r3 [4,5] 0)
  (.ret))
  (.skip))))
 (.seq (zr f92r4 [0,3,8,9] 0)
 (.seq (.seq (zr f92r5 [0,3,8,9,34] 0)
 (.cond (.t 34)
  (.region true f92r6 [8,9] 0)
  (.skip)))
 (.seq (zr f92r7 [4,5] 0)
 (.ret)))))
def f92:AFn:=⟨2,43,[.tmp 4,.tmp 5],f92c,1,none⟩
def f92k:=kA f92c
def f92v:List Nat:=[3]
def f93r0:LO:=[zo 2 (.move (.c (.str []))) 0]
def f93r1:LO:=[zo 4 (.build (List.replicate 19 (.str [])) [(0,1,(.c (.str [97,100,100]))),(1,1,(.c (.str [115,117,98]))),(2,1,(.c (.str [109,117,108]))),(3,1,(.c (.str [100,105,118,115]))),(4,1,(.c (.str [100,105,118,117]))),(5,1,(.c (.str [114,101,109,115]))),(6,1,(.c (.str [114,101,109,117]))),(7,1,(.c (.str [97,110,100]))),(8,1,(.c (.str [111,114]))),(9,1,(.c (.str [120,111,114]))),(10,1,(.c (.str [115,104,108]))),(11,1,(.c (.str [115,104,114,115]))),(12,1,(.c (.str [115,104,114,117]))),(13,1,(.c (.str [101,113]))),(14,1,(.c (.str [110,101]))),(15,1,(.c (.str [108,116,115]))),(16,1,(.c (.str [108,116,117]))),(17,1,(.c (.str [108,101,115]))),(18,1,(.c (.str [108,101,117])))]) 0,zo 3 (.alloc false (List.replicate 19 (.str []))) 0,⟨none,.store 19 (.t 3) (.t 4),none,1,3⟩]
def f93r2:LO:=[zm 5 0 0,zo 6 (.bin .lss (.t 5) (.c (.int .i64 1))) 1,zm 7 6 3,zg 8 0 7 false 7,zh 9 (.bin .gtr (.t 8) (.c (.int .i64 19))) 7 false 15,zq 10 7 9 31]
def f93r3:LO:=[zo 2 (.move (.c (.str []))) 0]
def f93r4:LO:=[zm 11 0 0,zo 12 (.bin .sub (.t 11) (.c (.int .i64 1))) 1,zo 13 (.idxArr 19 1 (.t 3) (.t 12)) 3,zl 14 13 7,zm 2 14 15]
def f93c:ACode :=
 .seq (zr f93r0 [0] 0)
 (.seq (zr f93r1 [0,3] 1)
 (.seq (.seq (zr f93r2 [0,3,10] 0)
 (.cond (.t 10)
  (.seq (zr f93r3 [2] 0)
  (.ret))
  (.skip)))
 (.seq (zr f93r4 [2] 0)
 (.ret))))
def f93:AFn:=⟨1,15,[.tmp 2],f93c,1,none⟩
def f93k:=kA f93c
def f93v:List Nat:=[]
def f94r0:LO:=[zo 6 (.move (.c (.int .u32 0))) 0,zo 7 (.move (.c (.bool false))) 1]
def f94r1:LO:=[zm 10 1 0,zo 11 (.conv .i32 (.t 10)) 1,zm 12 2 0,zo 13 (.conv .i32 (.t 12)) 4,zm 8 11 3,zm 9 13 31]
def f94r2:LO:=[zm 14 0 0]
def f94r3:LO:=[zo 16 (.bin .eql (.t 14) (.c (.int .i64 4))) 0,zm 15 16 1]
def f94r4:LO:=[zo 17 (.bin .eql (.t 14) (.c (.int .i64 5))) 0,zm 15 17 1]
def f94r5:LO:=[zo 18 (.bin .eql (.t 14) (.c (.int .i64 6))) 0,zm 15 18 1]
def f94r6:LO:=[zo 19 (.bin .eql (.t 14) (.c (.int .i64 7))) 0,zm 15 19 1]
def f94r7:LO:=[zm 20 2 0,zo 21 (.bin .eql (.t 20) (.c (.int .u32 0))) 1]
def f94r8:LO:=[zo 6 (.move (.c (.int .u32 0))) 0,zo 7 (.move (.c (.bool false))) 1]
def f94r9:LO:=[zm 22 0 0,zm 23 1 0,zm 24 2 0,zo 25 (.call (.c (.fn 122 [] [])) [(.t 22),(.t 23),(.t 24)]) 7,zm 6 25 15,zo 7 (.move (.c (.bool true))) 31]
def f94r10:LO:=[zo 27 (.bin .eql (.t 14) (.c (.int .i64 1))) 0,zm 26 27 1]
def f94r11:LO:=[zm 28 1 0,zm 29 2 0,zo 30 (.bin .add (.t 28) (.t 29)) 3,zm 6 30 7,zo 7 (.move (.c (.bool true))) 15]
def f94r12:LO:=[zo 32 (.bin .eql (.t 14) (.c (.int .i64 2))) 0,zm 31 32 1]
def f94r13:LO:=[zm 33 1 0,zm 34 2 0,zo 35 (.bin .sub (.t 33) (.t 34)) 3,zm 6 35 7,zo 7 (.move (.c (.bool true))) 15]
def f94r14:LO:=[zo 37 (.bin .eql (.t 14) (.c (.int .i64 3))) 0,zm 36 37 1]
def f94r15:LO:=[zm 38 1 0,zm 39 2 0,zo 40 (.bin .mul (.t 38) (.t 39)) 3,zm 6 40 7,zo 7 (.move (.c (.bool true))) 15]
def f94r16:LO:=[zo 42 (.bin .eql (.t 14) (.c (.int .i64 8))) 0,zm 41 42 1]
def f94r17:LO:=[zm 43 1 0,zm 44 2 0,zo 45 (.bin .and (.t 43) (.t 44)) 3,zm 6 45 7,zo 7 (.move (.c (.bool true))) 15]
def f94r18:LO:=[zo 47 (.bin .eql (.t 14) (.c (.int .i64 9))) 0,zm 46 47 1]
def f94r19:LO:=[zm 48 1 0,zm 49 2 0,zo 50 (.bin .or (.t 48) (.t 49)) 3,zm 6 50 7,zo 7 (.move (.c (.bool true))) 15]
def f94r20:LO:=[zo 52 (.bin .eql (.t 14) (.c (.int .i64 10))) 0,zm 51 52 1]
def f94r21:LO:=[zm 53 1 0,zm 54 2 0,zo 55 (.bin .xor (.t 53) (.t 54)) 3,zm 6 55 7,zo 7 (.move (.c (.bool true))) 15]
def f94r22:LO:=[zo 57 (.bin .eql (.t 14) (.c (.int .i64 11))) 0,zm 56 57 1]
def f94r23:LO:=[zm 58 1 0,zm 59 2 0,zo 60 (.bin .and (.t 59) (.c (.int .u32 31))) 2,zo 61 (.bin .shl (.t 58) (.t 60)) 7,zm 6 61 15,zo 7 (.move (.c (.bool true))) 31]
def f94r24:LO:=[zo 63 (.bin .eql (.t 14) (.c (.int .i64 12))) 0,zm 62 63 1]
def f94r25:LO:=[zm 64 8 0,zm 65 2 0,zo 66 (.bin .and (.t 65) (.c (.int .u32 31))) 2,zo 67 (.bin .shr (.t 64) (.t 66)) 7,zo 68 (.conv .u32 (.t 67)) 15,zm 6 68 31,zo 7 (.move (.c (.bool true))) 63]
def f94r26:LO:=[zo 70 (.bin .eql (.t 14) (.c (.int .i64 13))) 0,zm 69 70 1]
def f94r27:LO:=[zm 71 1 0,zm 72 2 0,zo 73 (.bin .and (.t 72) (.c (.int .u32 31))) 2,zo 74 (.bin .shr (.t 71) (.t 73)) 7,zm 6 74 15,zo 7 (.move (.c (.bool true))) 31]
def f94r28:LO:=[zo 76 (.bin .eql (.t 14) (.c (.int .i64 14))) 0,zm 75 76 1]
def f94r29:LO:=[zm 77 1 0,zm 78 2 0,zo 79 (.bin .eql (.t 77) (.t 78)) 3,zo 80 (.call (.c (.fn 123 [] [])) [(.t 79)]) 7,zm 6 80 15,zo 7 (.move (.c (.bool true))) 31]
def f94r30:LO:=[zo 82 (.bin .eql (.t 14) (.c (.int .i64 15))) 0,zm 81 82 1]
def f94r31:LO:=[zm 83 1 0,zm 84 2 0,zo 85 (.bin .neq (.t 83) (.t 84)) 3,zo 86 (.call (.c (.fn 123 [] [])) [(.t 85)]) 7,zm 6 86 15,zo 7 (.move (.c (.bool true))) 31]
def f94r32:LO:=[zo 88 (.bin .eql (.t 14) (.c (.int .i64 16))) 0,zm 87 88 1]
def f94r33:LO:=[zm 89 8 0,zm 90 9 0,zo 91 (.bin .lss (.t 89) (.t 90)) 3,zo 92 (.call (.c (.fn 123 [] [])) [(.t 91)]) 7,zm 6 92 15,zo 7 (.move (.c (.bool true))) 31]
def f94r34:LO:=[zo 94 (.bin .eql (.t 14) (.c (.int .i64 17))) 0,zm 93 94 1]
def f94r35:LO:=[zm 95 1 0,zm 96 2 0,zo 97 (.bin .lss (.t 95) (.t 96)) 3,zo 98 (.call (.c (.fn 123 [] [])) [(.t 97)]) 7,zm 6 98 15,zo 7 (.move (.c (.bool true))) 31]
def f94r36:LO:=[zo 100 (.bin .eql (.t 14) (.c (.int .i64 18))) 0,zm 99 100 1]
def f94r37:LO:=[zm 101 8 0,zm 102 9 0,zo 103 (.bin .leq (.t 101) (.t 102)) 3,zo 104 (.call (.c (.fn 123 [] [])) [(.t 103)]) 7,zm 6 104 15,zo 7 (.move (.c (.bool true))) 31]
def f94r38:LO:=[zo 106 (.bin .eql (.t 14) (.c (.int .i64 19))) 0,zm 105 106 1]
def f94r39:LO:=[zm 107 1 0,zm 108 2 0,zo 109 (.bin .leq (.t 107) (.t 108)) 3,zo 110 (.call (.c (.fn 123 [] [])) [(.t 109)]) 7,zm 6 110 15,zo 7 (.move (.c (.bool true))) 31]
def f94r40:LO:=[zo 6 (.move (.c (.int .u32 0))) 0,zo 7 (.move (.c (.bool false))) 1]
def f94c:ACode :=
 .seq (zr f94r0 [0,1,2] 0)
 (.seq (zr f94r1 [0,1,2,8,9] 0)
 (.seq (.seq (zr f94r2 [0,1,2,8,9,14] 0)
 (.block 0 (.seq (.seq (zr f94r3 [0,1,2,8,9,14,15] 0)
  (.cond (.t 15)
   (.skip)
   (.seq (zr f94r4 [0,1,2,8,9,14,15] 0)
   (.cond (.t 15)
    (.skip)
    (.seq (zr f94r5 [0,1,2,8,9,14,15] 0)
    (.cond (.t 15)
     (.skip)
     (zr f94r6 [0,1,2,8,9,14,15] 0)))))))
  (.cond (.t 15)
   (.seq (.seq (zr f94r7 [0,1,2,21] 0)
   (.cond (.t 21)
    (.seq (zr f94r8 [6,7] 0)
    (.ret))
    (.skip)))
   (.seq (zr f94r9 [6,7] 0)
   (.ret)))
   (.seq (zr f94r10 [1,2,8,9,14,26] 0)
   (.cond (.t 26)
    (.seq (zr f94r11 [6,7] 0)
    (.ret))
    (.seq (zr f94r12 [1,2,8,9,14,31] 0)
    (.cond (.t 31)
     (.seq (zr f94r13 [6,7] 0)
     (.ret))
     (.seq (zr f94r14 [1,2,8,9,14,36] 0)
     (.cond (.t 36)
      (.seq (zr f94r15 [6,7] 0)
      (.ret))
      (.seq (zr f94r16 [1,2,8,9,14,41] 0)
      (.cond (.t 41)
       (.seq (zr f94r17 [6,7] 0)
       (.ret))
       (.seq (zr f94r18 [1,2,8,9,14,46] 0)
       (.cond (.t 46)
        (.seq (zr f94r19 [6,7] 0)
        (.ret))
        (.seq (zr f94r20 [1,2,8,9,14,51] 0)
        (.cond (.t 51)
         (.seq (zr f94r21 [6,7] 0)
         (.ret))
         (.seq (zr f94r22 [1,2,8,9,14,56] 0)
         (.cond (.t 56)
          (.seq (zr f94r23 [6,7] 0)
          (.ret))
          (.seq (zr f94r24 [1,2,8,9,14,62] 0)
          (.cond (.t 62)
           (.seq (zr f94r25 [6,7] 0)
           (.ret))
           (.seq (zr f94r26 [1,2,8,9,14,69] 0)
           (.cond (.t 69)
            (.seq (zr f94r27 [6,7] 0)
            (.ret))
            (.seq (zr f94r28 [1,2,8,9,14,75] 0)
            (.cond (.t 75)
             (.seq (zr f94r29 [6,7] 0)
             (.ret))
             (.seq (zr f94r30 [1,2,8,9,14,81] 0)
             (.cond (.t 81)
              (.seq (zr f94r31 [6,7] 0)
              (.ret))
              (.seq (zr f94r32 [1,2,8,9,14,87] 0)
              (.cond (.t 87)
               (.seq (zr f94r33 [6,7] 0)
               (.ret))
               (.seq (zr f94r34 [1,2,8,9,14,93] 0)
               (.cond (.t 93)
                (.seq (zr f94r35 [6,7] 0)
                (.ret))
                (.seq (zr f94r36 [1,2,8,9,14,99] 0)
                (.cond (.t 99)
                 (.seq (zr f94r37 [6,7] 0)
                 (.ret))
                 (.seq (zr f94r38 [1,2,105] 0)
                 (.cond (.t 105)
                  (.seq (zr f94r39 [6,7] 0)
                  (.ret))
                  (.skip)))))))))))))))))))))))))))))))))))
 (.seq (zr f94r40 [6,7] 0)
 (.ret))))
def f94:AFn:=⟨3,111,[.tmp 6,.tmp 7],f94c,1,none⟩
def f94k:=kI [0,1,2,3,4,5,6,7,39,37,10,35,12,33,14,31,16,29,18,27,20,25,22,23,24,21,26,19,28,17,30,15,32,13,34,11,36,8,38,9,40] f94c
def f94v:List Nat:=[68,13,11]
def f95r0:LO:=[zo 4 (.move (.c (.int .u32 0))) 0]
def f95r1:LO:=[zm 6 0 0,zo 7 (.call (.c (.fn 109 [] [])) [(.t 6)]) 1,zm 5 7 3]
def f95r2:LO:=[zm 9 0 0,zo 10 (.bin .eql (.t 9) (.c (.int .i64 2))) 1,zm 8 10 3]
def f95r3:LO:=[zm 11 1 0,zo 12 (.bin .neq (.t 11) (.c (.int .u32 0))) 1,zo 13 (.call (.c (.fn 123 [] [])) [(.t 12)]) 3,zm 4 13 7]
def f95r4:LO:=[zm 15 5 0,zo 16 (.bin .eql (.t 15) (.c (.int .i64 1))) 1,zm 17 16 3,zg 18 5 17 false 7,zh 19 (.bin .eql (.t 18) (.c (.int .i64 2))) 17 false 15,zq 20 17 19 31,zm 14 20 63]
def f95r5:LO:=[zm 21 1 0,zm 22 5 0,zo 23 (.bin .mul (.c (.int .i64 8)) (.t 22)) 2,zo 24 (.conv .u64 (.t 23)) 6,zm 25 0 0,zo 26 (.call (.c (.fn 125 [] [])) [(.t 25)]) 16,zo 27 (.call (.c (.fn 124 [] [])) [(.t 21),(.t 24),(.t 26)]) 63,zm 4 27 127]
def f95r6:LO:=[zm 28 1 0,zm 4 28 1]
def f95c:ACode :=
 .seq (zr f95r0 [0,1] 0)
 (.seq (.seq (zr f95r1 [0,1,5] 0)
 (.block 0 (.seq (zr f95r2 [0,1,5,8] 0)
  (.cond (.t 8)
   (.seq (zr f95r3 [4] 0)
   (.ret))
   (.seq (zr f95r4 [0,1,5,14] 0)
   (.cond (.t 14)
    (.seq (zr f95r5 [4] 0)
    (.ret))
    (.skip)))))))
 (.seq (zr f95r6 [4] 0)
 (.ret)))
def f95:AFn:=⟨2,29,[.tmp 4],f95c,1,none⟩
def f95k:=kI [0,1,2,5,4,3,6] f95c
def f95v:List Nat:=[24]
def f96r0:LO:=[zo 5 (.alloc false (List.replicate 5 (.int .i64 0))) 0,⟨some 6,.move (.c (.int .i64 0)),none,1,0⟩]
def f96r1:LO:=[zm 7 0 0,zl 8 2 0,zl 9 2 0,zm 10 1 0,zo 11 (.build (List.replicate 5 (.int .i64 0)) [(0,1,(.t 7)),(1,1,(.t 8)),(2,1,(.t 9)),(3,1,(.t 10))]) 15,zn (.store 5 (.t 5) (.t 11)) 31,zo 6 (.move (.c (.int .i64 0))) 63]
def f96c:ACode :=
 .seq (zr f96r0 [0,1,2,5] 1)
 (.seq (zr f96r1 [5,6] 0)
 (.ret))
def f96:AFn:=⟨3,12,[.cell 5 true 5,.tmp 6],f96c,1,none⟩
def f96k:=kA f96c
def f96v:List Nat:=[]
def f97r0:LO:=[zo 6 (.move (.c (.int .i64 0))) 0]
def f97r1:LO:=[zm 7 0 0,zo 8 (.call (.c (.fn 125 [] [])) [(.t 7)]) 1]
def f97r2:LO:=[zm 9 1 0,zm 6 9 1]
def f97r3:LO:=[zm 10 2 0,zm 6 10 1]
def f97c:ACode :=
 .seq (zr f97r0 [0,1,2] 0)
 (.seq (.seq (zr f97r1 [1,2,8] 0)
 (.cond (.t 8)
  (.seq (zr f97r2 [6] 0)
  (.ret))
  (.skip)))
 (.seq (zr f97r3 [6] 0)
 (.ret)))
def f97:AFn:=⟨3,11,[.tmp 6],f97c,1,none⟩
def f97k:=kA f97c
def f97v:List Nat:=[]
def f98r0:LO:=[zo 6 (.move (.c (.int .i64 0))) 0]
def f98r1:LO:=[zm 7 0 0,zo 8 (.call (.c (.fn 126 [] [])) [(.t 7)]) 1]
def f98r2:LO:=[zm 9 1 0,zm 6 9 1]
def f98r3:LO:=[zm 10 2 0,zm 6 10 1]
def f98c:ACode :=
 .seq (zr f98r0 [0,1,2] 0)
 (.seq (.seq (zr f98r1 [1,2,8] 0)
 (.cond (.t 8)
  (.seq (zr f98r2 [6] 0)
  (.ret))
  (.skip)))
 (.seq (zr f98r3 [6] 0)
 (.ret)))
def f98:AFn:=⟨3,11,[.tmp 6],f98c,1,none⟩
def f98k:=kA f98c
def f98v:List Nat:=[]
def f99r0:LO:=[zo 4 (.move (.c (.int .i64 0))) 0]
def f99r1:LO:=[zm 5 0 0]
def f99r2:LO:=[zo 7 (.bin .eql (.t 5) (.c (.str [43]))) 0,zm 6 7 1]
def f99r3:LO:=[zo 4 (.move (.c (.int .i64 1))) 0]
def f99r4:LO:=[zo 9 (.bin .eql (.t 5) (.c (.str [45]))) 0,zm 8 9 1]
def f99r5:LO:=[zo 4 (.move (.c (.int .i64 2))) 0]
def f99r6:LO:=[zo 11 (.bin .eql (.t 5) (.c (.str [42]))) 0,zm 10 11 1]
def f99r7:LO:=[zo 4 (.move (.c (.int .i64 3))) 0]
def f99r8:LO:=[zo 13 (.bin .eql (.t 5) (.c (.str [47]))) 0,zm 12 13 1]
def f99r9:LO:=[zm 14 1 0,zo 15 (.call (.c (.fn 98 [] [])) [(.t 14),(.c (.int .i64 4)),(.c (.int .i64 5))]) 1,zm 4 15 3]
def f99r10:LO:=[zo 17 (.bin .eql (.t 5) (.c (.str [37]))) 0,zm 16 17 1]
def f99r11:LO:=[zm 18 1 0,zo 19 (.call (.c (.fn 98 [] [])) [(.t 18),(.c (.int .i64 6)),(.c (.int .i64 7))]) 1,zm 4 19 3]
def f99r12:LO:=[zo 21 (.bin .eql (.t 5) (.c (.str [38]))) 0,zm 20 21 1]
def f99r13:LO:=[zo 4 (.move (.c (.int .i64 8))) 0]
def f99r14:LO:=[zo 23 (.bin .eql (.t 5) (.c (.str [124]))) 0,zm 22 23 1]
def f99r15:LO:=[zo 4 (.move (.c (.int .i64 9))) 0]
def f99r16:LO:=[zo 25 (.bin .eql (.t 5) (.c (.str [94]))) 0,zm 24 25 1]
def f99r17:LO:=[zo 4 (.move (.c (.int .i64 10))) 0]
def f99r18:LO:=[zo 4 (.move (.c (.int .i64 0))) 0]
def f99c:ACode :=
 .seq (zr f99r0 [0,1] 0)
 (.seq (.seq (zr f99r1 [1,5] 0)
 (.block 0 (.seq (zr f99r2 [1,5,6] 0)
  (.cond (.t 6)
   (.seq (zr f99r3 [4] 0)
   (.ret))
   (.seq (zr f99r4 [1,5,8] 0)
   (.cond (.t 8)
    (.seq (zr f99r5 [4] 0)
    (.ret))
    (.seq (zr f99r6 [1,5,10] 0)
    (.cond (.t 10)
     (.seq (zr f99r7 [4] 0)
     (.ret))
     (.seq (zr f99r8 [1,5,12] 0)
     (.cond (.t 12)
      (.seq (zr f99r9 [4] 0)
      (.ret))
      (.seq (zr f99r10 [1,5,16] 0)
      (.cond (.t 16)
       (.seq (zr f99r11 [4] 0)
       (.ret))
       (.seq (zr f99r12 [5,20] 0)
       (.cond (.t 20)
        (.seq (zr f99r13 [4] 0)
        (.ret))
        (.seq (zr f99r14 [5,22] 0)
        (.cond (.t 22)
         (.seq (zr f99r15 [4] 0)
         (.ret))
         (.seq (zr f99r16 [24] 0)
         (.cond (.t 24)
          (.seq (zr f99r17 [4] 0)
          (.ret))
          (.skip)))))))))))))))))))
 (.seq (zr f99r18 [4] 0)
 (.ret)))
def f99:AFn:=⟨2,26,[.tmp 4],f99c,1,none⟩
def f99k:=kI [0,1,2,17,4,15,6,13,8,11,10,9,12,7,14,5,16,3,18] f99c
def f99v:List Nat:=[]
def f100r0:LO:=[zo 4 (.move (.c (.int .i64 0))) 0]
def f100r1:LO:=[zm 5 0 0,zm 6 1 0,zo 7 (.call (.c (.fn 91 [] [])) [(.t 5),(.t 6)]) 3,zo 8 (.un .not (.t 7)) 7]
def f100r2:LO:=[zo 4 (.move (.c (.int .i64 0))) 0]
def f100r3:LO:=[zm 9 0 0,zo 10 (.nilCheck (.t 9)) 1,zf 11 0 10 3,zl 12 11 7,zm 13 1 0,zo 14 (.idxAddr 6 (.t 12) (.t 13)) 31,zf 15 0 14 63,zl 16 15 127,zm 4 16 255]
def f100c:ACode :=
 .seq (zr f100r0 [0,1] 0)
 (.seq (.seq (zr f100r1 [0,1,8] 0)
 (.cond (.t 8)
  (.seq (zr f100r2 [4] 0)
  (.ret))
  (.skip)))
 (.seq (zr f100r3 [4] 0)
 (.ret)))
def f100:AFn:=⟨2,17,[.tmp 4],f100c,1,none⟩
def f100k:=kA f100c
def f100v:List Nat:=[]
def f101r0:LO:=[zo 2 (.move (.c (.bool false))) 0]
def f101r1:LO:=[zm 3 0 0,zo 4 (.bin .geq (.t 3) (.c (.int .i64 2))) 1,zm 5 4 3,zg 6 0 5 true 7,zh 7 (.bin .leq (.t 6) (.c (.int .i64 12))) 5 true 15,za 8 5 7 31,zm 2 8 63]
def f101c:ACode :=
 .seq (zr f101r0 [0] 0)
 (.seq (zr f101r1 [2] 0)
 (.ret))
def f101:AFn:=⟨1,9,[.tmp 2],f101c,1,none⟩
def f101k:=kA f101c
def f101v:List Nat:=[]
def f102r0:LO:=[zo 2 (.move (.c (.int .i64 0))) 0]
def f102r1:LO:=[zm 3 0 0]
def f102r2:LO:=[zo 5 (.bin .eql (.t 3) (.c (.int .i64 2))) 0,zm 4 5 1]
def f102r3:LO:=[zo 6 (.bin .eql (.t 3) (.c (.int .i64 3))) 0,zm 4 6 1]
def f102r4:LO:=[zo 7 (.bin .eql (.t 3) (.c (.int .i64 4))) 0,zm 4 7 1]
def f102r5:LO:=[zo 8 (.bin .eql (.t 3) (.c (.int .i64 5))) 0,zm 4 8 1]
def f102r6:LO:=[zo 2 (.move (.c (.int .i64 1))) 0]
def f102r7:LO:=[zo 10 (.bin .eql (.t 3) (.c (.int .i64 6))) 0,zm 9 10 1]
def f102r8:LO:=[zo 11 (.bin .eql (.t 3) (.c (.int .i64 7))) 0,zm 9 11 1]
def f102r9:LO:=[zo 2 (.move (.c (.int .i64 2))) 0]
def f102r10:LO:=[zo 13 (.bin .eql (.t 3) (.c (.int .i64 8))) 0,zm 12 13 1]
def f102r11:LO:=[zo 14 (.bin .eql (.t 3) (.c (.int .i64 9))) 0,zm 12 14 1]
def f102r12:LO:=[zo 15 (.bin .eql (.t 3) (.c (.int .i64 10))) 0,zm 12 15 1]
def f102r13:LO:=[zo 16 (.bin .eql (.t 3) (.c (.int .i64 11))) 0,zm 12 16 1]
def f102r14:LO:=[zo 17 (.bin .eql (.t 3) (.c (.int .i64 12))) 0,zm 12 17 1]
def f102r15:LO:=[zo 18 (.bin .eql (.t 3) (.c (.int .i64 13))) 0,zm 12 18 1]
def f102r16:LO:=[zo 2 (.move (.c (.int .i64 4))) 0]
def f102r17:LO:=[zo 2 (.move (.c (.int .i64 0))) 0]
def f102c:ACode :=
 .seq (zr f102r0 [0] 0)
 (.seq (.seq (zr f102r1 [3] 0)
 (.block 0 (.seq (.seq (zr f102r2 [3,4] 0)
  (.cond (.t 4)
   (.skip)
   (.seq (zr f102r3 [3,4] 0)
   (.cond (.t 4)
    (.skip)
    (.seq (zr f102r4 [3,4] 0)
    (.cond (.t 4)
     (.skip)
     (zr f102r5 [3,4] 0)))))))
  (.cond (.t 4)
   (.seq (zr f102r6 [2] 0)
   (.ret))
   (.seq (.seq (zr f102r7 [3,9] 0)
   (.cond (.t 9)
    (.skip)
    (zr f102r8 [3,9] 0)))
   (.cond (.t 9)
    (.seq (zr f102r9 [2] 0)
    (.ret))
    (.seq (.seq (zr f102r10 [3,12] 0)
    (.cond (.t 12)
     (.skip)
     (.seq (zr f102r11 [3,12] 0)
     (.cond (.t 12)
      (.skip)
      (.seq (zr f102r12 [3,12] 0)
      (.cond (.t 12)
       (.skip)
       (.seq (zr f102r13 [3,12] 0)
       (.cond (.t 12)
        (.skip)
        (.seq (zr f102r14 [3,12] 0)
        (.cond (.t 12)
         (.skip)
         (zr f102r15 [12] 0)))))))))))
    (.cond (.t 12)
     (.seq (zr f102r16 [2] 0)
     (.ret))
     (.skip)))))))))
 (.seq (zr f102r17 [2] 0)
 (.ret)))
def f102:AFn:=⟨1,19,[.tmp 2],f102c,1,none⟩
def f102k:=kI [0,1,2,3,4,5,16,7,8,9,10,11,12,13,14,15,6,17] f102c
def f102v:List Nat:=[]
def f103r0:LO:=[zo 2 (.box true (.t 0)) 0,zo 3 (.box true (.t 1)) 0,zo 4 (.move (.c (.bool false))) 0]
def f103r1:LO:=[zf 6 0 2 0,zl 7 6 1,zf 8 0 3 0,zl 9 8 4,zo 10 (.bin .neq (.t 7) (.t 9)) 15,zm 11 10 31,zh 12 (.fieldAddr 1 (.t 2)) 11 false 63,zh 13 (.load false 1 (.t 12)) 11 false 127,zh 14 (.fieldAddr 1 (.t 3)) 11 false 63,zh 15 (.load false 1 (.t 14)) 11 false 319,zh 16 (.bin .neq (.t 13) (.t 15)) 11 false 1023,zq 17 11 16 2047,zm 18 17 4095,zh 19 (.fieldAddr 2 (.t 2)) 18 false 8191,zh 20 (.load false 1 (.t 19)) 18 false 16383,zh 21 (.fieldAddr 2 (.t 3)) 18 false 8191,zh 22 (.load false 1 (.t 21)) 18 false 40959,zh 23 (.bin .neq (.t 20) (.t 22)) 18 false 131071,zq 24 18 23 262143,zm 25 24 524287,zh 26 (.fieldAddr 3 (.t 2)) 25 false 1048575,zh 27 (.load false 1 (.t 26)) 25 false 2097151,zh 28 (.fieldAddr 3 (.t 3)) 25 false 1048575,zh 29 (.load false 1 (.t 28)) 25 false 5242879,zh 30 (.bin .neq (.t 27) (.t 29)) 25 false 16777215,zq 31 25 30 33554431,zm 32 31 67108863,zh 33 (.fieldAddr 5 (.t 2)) 32 false 134217727,zh 34 (.load false 1 (.t 33)) 32 false 268435455,zh 35 (.fieldAddr 5 (.t 3)) 32 false 134217727,zh 36 (.load false 1 (.t 35)) 32 false 671088639,zh 37 (.eq true .bool (.t 34) (.t 36)) 32 false 2147483647,zq 38 32 37 4294967295,zm 39 38 8589934591,zh 40 (.fieldAddr 4 (.t 2)) 39 false 17179869183,zh 41 (.load false 1 (.t 40)) 39 false 34359738367,zh 42 (.len 1 (.t 41)) 39 false 68719476735,zh 43 (.fieldAddr 4 (.t 3)) 39 false 17179869183,zh 44 (.load false 1 (.t 43)) 39 false 154618822655,zh 45 (.len 1 (.t 44)) 39 false 429496729599,zh 46 (.bin .neq (.t 42) (.t 45)) 39 false 1099511627775,zq 47 39 46 2199023255551]
def f103r2:LO:=[zo 4 (.move (.c (.bool false))) 0]
def f103r3:LO:=[zo 5 (.move (.c (.int .i64 0))) 0]
def f103r4:LO:=[zm 48 5 0,zf 49 4 2 0,zl 50 49 2,zo 51 (.len 1 (.t 50)) 6,zo 52 (.bin .lss (.t 48) (.t 51)) 15]
def f103q5:LO:=[zf 55 4 2 0,zl 56 55 1,zm 57 5 0,zo 58 (.idxAddr 3 (.t 56) (.t 57)) 7,zo 59 (.load true 3 (.t 58)) 15,zf 60 4 3 0,zl 61 60 32,zm 62 5 0,zo 63 (.idxAddr 3 (.t 61) (.t 62)) 224,zo 64 (.load true 3 (.t 63)) 480,zo 65 (.eq true (.agg [.str,.int .i64,.int .i64]) (.t 59) (.t 64)) 1023]
def f103r5:LO:=f103q5
def f103r6:LO:=[zo 4 (.move (.c (.bool false))) 0]
def f103r7:LO:=[zm 53 5 0,zo 54 (.bin .add (.t 53) (.c (.int .i64 1))) 1,zm 5 54 3]
def f103m4:ACode :=
 .seq (.seq (zr f103r4 [2,3,5,52] 0)
 (.cond (.t 52)
  (.skip)
  (.exit 0)))
 (.seq (.block 1 (.seq (.region true f103r5 [2,3,5,65] 0)
  (.cond (.t 65)
   (.seq (zr f103r6 [4] 0)
   (.ret))
   (.skip))))
 (zr f103r7 [2,3,5] 0))
def f103l4:ACode:=f103m4
theorem f103l4_b:DB f103l4 f103m4:=rfl
def f103r8:LO:=[zo 4 (.move (.c (.bool true))) 0]
theorem f103r5_s:staticOK 0 f103r5=true:=by rfl
theorem f103r5_w:DW f103r5:=fun hr=>Brun_drawnS f103r5_s hr
theorem f103r5_u:DU f103r5 f103q5:=fun _ _ _ _ _=>rfl
def f103c:ACode :=
 .seq (zr f103r0 [2,3] 0)
 (.seq (.seq (zr f103r1 [2,3,47] 0)
 (.cond (.t 47)
  (.seq (zr f103r2 [4] 0)
  (.ret))
  (.skip)))
 (.seq (.seq (zr f103r3 [2,3,5] 0)
 (.block 0 (.loop f103l4)))
 (.seq (zr f103r8 [4] 0)
 (.ret))))
def f103:AFn:=⟨2,66,[.tmp 4],f103c,1,none⟩
def f103k:=kI [0,1,2,3,4,6,7,5,8] f103c
def f103v:List Nat:=[3,2]
def f106r0:LO:=[zo 2 (.move (.c (.is [] .nil))) 0]
def f106r1:LO:=[zm 3 0 0,zo 4 (.eq false .slice (.t 3) (.c (.is [] .nil))) 1]
def f106r2:LO:=[zo 2 (.move (.c (.is [] .nil))) 0]
def f106r3:LO:=[zo 5 (.buildSlice true 3 0 [] []) 0,zm 6 0 0,zo 7 (.append true 3 32 (.t 5) (.t 6)) 3,⟨some 2,.move (.t 7),none,1,7⟩]
def f106c:ACode :=
 .seq (zr f106r0 [0] 0)
 (.seq (.seq (zr f106r1 [0,4] 0)
 (.cond (.t 4)
  (.seq (zr f106r2 [2] 0)
  (.ret))
  (.skip)))
 (.seq (zr f106r3 [2] 1)
 (.ret)))
def f106:AFn:=⟨1,8,[.tmp 2],f106c,3,none⟩
def f106k:=kA f106c
def f106v:List Nat:=[7,5]
def f107r0:LO:=[zo 3 (.box true (.t 1)) 0,zo 4 (.alloc false [(.int .i64 0),(.int .i64 0),(.is [] .nil)]) 0]
def f107r1:LO:=[zo 12 (.build [(.int .i64 0),(.int .i64 0),(.is [] .nil)] [(1,1,(.c (.int .i64 1)))]) 0,zo 5 (.alloc false [(.int .i64 0),(.int .i64 0),(.is [] .nil)]) 0,⟨none,.store 3 (.t 5) (.t 12),none,1,3⟩]
def f107r2:LO:=[zo 6 (.move (.c (.int .i64 0))) 0]
def f107r3:LO:=[zo 13 (.fn 127 [] [(.t 5)]) 0,zm 7 13 1]
def f107r4:LO:=[zf 14 4 3 0,zl 15 14 1,zo 16 (.len 1 (.t 15)) 3,zo 17 (.move (.c (.int .i64 0))) 0]
def f107r5:LO:=[zo 18 (.bin .lss (.t 17) (.t 16)) 0]
def f107r6:LO:=[zm 19 17 0,zo 20 (.idxAddr 3 (.t 15) (.t 17)) 0,zo 21 (.load true 3 (.t 20)) 2,zo 9 (.alloc false [(.str []),(.int .i64 0),(.int .i64 0)]) 0,⟨some 8,.move (.t 19),none,1,15⟩,⟨none,.store 3 (.t 9) (.t 21),none,1,31⟩]
def f107r7:LO:=[zm 22 0 0,zf 23 1 9 0,zl 24 23 2,zo 25 (.call (.c (.fn 72 [] [])) [(.t 22),(.t 24)]) 7,zo 10 (.alloc false [(.int .i64 0),(.int .i64 0),(.is [] .nil)]) 0,⟨none,.store 3 (.t 10) (.t 25),none,1,31⟩]
def f107r8:LO:=[zf 26 0 10 0,zl 27 26 1,zo 28 (.bin .mul (.c (.int .i64 8)) (.t 27)) 3,zm 11 28 7]
def f107r9:LO:=[zf 74 2 9 0,zl 75 74 1,zo 76 (.bin .lss (.t 75) (.c (.int .i64 0))) 3,zm 73 76 7]
def f107r10:LO:=[zm 77 6 0,zf 78 1 10 0,zl 79 78 2,zo 80 (.bin .mul (.c (.int .i64 8)) (.t 79)) 6,zo 81 (.call (.c (.fn 128 [] [])) [(.t 77),(.t 80)]) 15,zm 6 81 31]
def f107r11:LO:=[zm 82 7 0,zm 83 8 0,zf 84 1 9 0,zl 85 84 4,zm 86 6 0,zo 87 (.bin .quo (.t 86) (.c (.int .i64 8))) 16,zo 88 (.build (List.replicate 5 (.int .i64 0)) [(0,1,(.t 83)),(1,1,(.t 85)),(2,1,(.t 87))]) 62,zo 89 (.call (.t 82) [(.t 88)]) 127]
def f107r12:LO:=[zm 90 6 0,zm 91 11 0,zo 92 (.bin .add (.t 90) (.t 91)) 3,zm 6 92 7]
def f107r13:LO:=[zf 93 1 5 0,zl 94 93 1,zf 95 1 10 0,zl 96 95 4,zo 97 (.max (.t 94) (.t 96)) 15,zf 98 1 5 31,zn (.store 1 (.t 98) (.t 97)) 63]
def f107r14:LO:=[zf 100 2 9 0,zl 101 100 1,zo 102 (.bin .eql (.t 101) (.c (.int .i64 0))) 3,zm 99 102 7]
def f107r15:LO:=[zm 103 6 0,zm 104 11 0,zo 105 (.call (.c (.fn 128 [] [])) [(.t 103),(.t 104)]) 3,zm 6 105 7]
def f107q16:LO:=[zm 29 6 0,zm 30 11 0,zo 31 (.bin .quo (.t 29) (.t 30)) 3,zm 32 6 0,zf 33 2 9 0,zl 34 33 16,zo 35 (.bin .add (.t 32) (.t 34)) 56,zo 36 (.bin .sub (.t 35) (.c (.int .i64 1))) 120,zm 37 11 0,zo 38 (.bin .quo (.t 36) (.t 37)) 504,zo 39 (.bin .neq (.t 31) (.t 38)) 1023]
def f107r16:LO:=f107q16
def f107r17:LO:=[zm 40 6 0,zm 41 11 0,zo 42 (.call (.c (.fn 128 [] [])) [(.t 40),(.t 41)]) 3,zm 6 42 7]
def f107q18:LO:=[zm 43 7 0,zm 44 8 0,zf 45 1 9 0,zl 46 45 4,zf 47 0 10 0,zl 48 47 16,zm 49 6 0,zm 50 11 0,zo 51 (.bin .quo (.t 49) (.t 50)) 192,zo 52 (.bin .mul (.t 48) (.t 51)) 496,zm 53 6 0,zm 54 11 0,zo 55 (.bin .rem (.t 53) (.t 54)) 3072,zf 56 2 9 0,zl 57 56 8192,zo 58 (.build (List.replicate 5 (.int .i64 0)) [(0,1,(.t 44)),(1,1,(.t 46)),(2,1,(.t 52)),(3,1,(.t 55)),(4,1,(.t 57))]) 32766,zo 59 (.call (.t 43) [(.t 58)]) 65535]
def f107r18:LO:=f107q18
def f107r19:LO:=[zm 60 6 0,zf 61 2 9 0,zl 62 61 2,zo 63 (.bin .add (.t 60) (.t 62)) 7,zm 6 63 15]
def f107r20:LO:=[zf 64 0 9 0,zl 65 64 1,zo 66 (.bin .neq (.t 65) (.c (.str []))) 3]
def f107r21:LO:=[zf 67 1 5 0,zl 68 67 1,zf 69 0 10 0,zl 70 69 4,zo 71 (.max (.t 68) (.t 70)) 15,zf 72 1 5 31,zn (.store 1 (.t 72) (.t 71)) 63]
def f107r22:LO:=[zo 106 (.bin .add (.t 17) (.c (.int .i64 1))) 0,zm 17 106 1]
def f107m5:ACode :=
 .seq (zr f107r5 [0,4,5,6,7,15,16,17,18] 0)
 (.seq (.cond (.t 18)
  (.skip)
  (.exit 0))
 (.seq (.block 1 (.seq (zr f107r6 [0,4,5,6,7,8,9,15,16,17] 1)
  (.seq (zr f107r7 [0,4,5,6,7,8,9,10,15,16,17] 1)
  (.seq (zr f107r8 [0,4,5,6,7,8,9,10,11,15,16,17] 0)
  (.block 2 (.seq (zr f107r9 [0,4,5,6,7,8,9,10,11,15,16,17,73] 0)
   (.cond (.t 73)
    (.seq (zr f107r10 [0,4,5,6,7,8,9,10,11,15,16,17] 0)
    (.seq (zr f107r11 [0,4,5,6,7,10,11,15,16,17] 0)
    (.seq (zr f107r12 [0,4,5,6,7,10,15,16,17] 0)
    (zr f107r13 [0,4,5,6,7,15,16,17] 0))))
    (.seq (zr f107r14 [0,4,5,6,7,8,9,10,11,15,16,17,99] 0)
    (.cond (.t 99)
     (zr f107r15 [0,4,5,6,7,15,16,17] 0)
     (.seq (.seq (.region true f107r16 [0,4,5,6,7,8,9,10,11,15,16,17,39] 0)
     (.cond (.t 39)
      (zr f107r17 [0,4,5,6,7,8,9,10,11,15,16,17] 0)
      (.skip)))
     (.seq (.region true f107r18 [0,4,5,6,7,9,10,15,16,17] 0)
     (.seq (zr f107r19 [0,4,5,6,7,9,10,15,16,17] 0)
     (.seq (zr f107r20 [0,4,5,6,7,10,15,16,17,66] 0)
     (.cond (.t 66)
      (zr f107r21 [0,4,5,6,7,15,16,17] 0)
      (.skip)))))))))))))))
 (zr f107r22 [0,4,5,6,7,15,16,17] 0)))
def f107l5:ACode:=f107m5
theorem f107l5_b:DB f107l5 f107m5:=rfl
def f107q23:LO:=[zm 107 6 0,zo 108 (.call (.c (.fn 128 [] [])) [(.t 107),(.c (.int .i64 8))]) 1,zo 109 (.bin .quo (.t 108) (.c (.int .i64 8))) 3,zo 110 (.max (.c (.int .i64 1)) (.t 109)) 7,zf 111 1 5 0,zl 112 111 16,zo 113 (.call (.c (.fn 128 [] [])) [(.t 110),(.t 112)]) 63,zf 114 0 5 127,zn (.store 1 (.t 114) (.t 113)) 255]
def f107r23:LO:=f107q23
def f107r24:LO:=[zo 115 (.load true 3 (.t 5)) 0,zn (.store 3 (.t 4) (.t 115)) 1]
theorem f107r16_s:staticOK 0 f107r16=true:=by rfl
theorem f107r16_w:DW f107r16:=fun hr=>Brun_drawnS f107r16_s hr
theorem f107r16_u:DU f107r16 f107q16:=fun _ _ _ _ _=>rfl
theorem f107r18_s:staticOK 0 f107r18=true:=by rfl
theorem f107r18_w:DW f107r18:=fun hr=>Brun_drawnS f107r18_s hr
theorem f107r18_u:DU f107r18 f107q18:=fun _ _ _ _ _=>rfl
theorem f107r23_s:staticOK 0 f107r23=true:=by rfl
theorem f107r23_w:DW f107r23:=fun hr=>Brun_drawnS f107r23_s hr
theorem f107r23_u:DU f107r23 f107q23:=fun _ _ _ _ _=>rfl
def f107c:ACode :=
 .seq (zr f107r0 [0,3,4] 1)
 (.seq (zr f107r1 [0,3,4,5] 1)
 (.seq (zr f107r2 [0,3,4,5,6] 0)
 (.seq (zr f107r3 [0,3,4,5,6,7] 0)
 (.seq (.seq (zr f107r4 [0,4,5,6,7,15,16,17] 0)
 (.block 0 (.loop f107l5)))
 (.seq (.region true f107r23 [4,5] 0)
 (.seq (zr f107r24 [4] 0)
 (.ret)))))))
def f107:AFn:=⟨2,116,[.cell 4 true 3],f107c,1,none⟩
def f107k:=kI [0,1,2,3,4,5,6,7,8,15,10,17,18,14,20,21,9,16,11,12,13,19,22,23,24] f107c
def f107v:List Nat:=[3]
def f108r0:LO:=[zo 3 (.box true (.t 1)) 0,zo 4 (.alloc false [(.int .i64 0),(.int .i64 0),(.is [] .nil)]) 0]
def f108r1:LO:=[zo 9 (.build [(.int .i64 0),(.int .i64 0),(.is [] .nil)] [(0,1,(.c (.int .i64 1))),(1,1,(.c (.int .i64 1)))]) 0,zo 5 (.alloc false [(.int .i64 0),(.int .i64 0),(.is [] .nil)]) 0,⟨none,.store 3 (.t 5) (.t 9),none,1,3⟩]
def f108r2:LO:=[zf 10 4 3 0,zl 11 10 1,zo 12 (.len 1 (.t 11)) 3,zo 13 (.move (.c (.int .i64 0))) 0]
def f108r3:LO:=[zo 14 (.bin .lss (.t 13) (.t 12)) 0]
def f108r4:LO:=[zm 15 13 0,zo 16 (.idxAddr 3 (.t 11) (.t 13)) 0,zo 17 (.load true 3 (.t 16)) 2,zo 7 (.alloc false [(.str []),(.int .i64 0),(.int .i64 0)]) 0,⟨some 6,.move (.t 15),none,1,15⟩,⟨none,.store 3 (.t 7) (.t 17),none,1,31⟩]
def f108r5:LO:=[zm 18 0 0,zf 19 1 7 0,zl 20 19 2,zo 21 (.call (.c (.fn 72 [] [])) [(.t 18),(.t 20)]) 7,zo 8 (.alloc false [(.int .i64 0),(.int .i64 0),(.is [] .nil)]) 0,⟨none,.store 3 (.t 8) (.t 21),none,1,31⟩]
def f108r6:LO:=[zf 23 2 7 0,zl 24 23 1,zo 25 (.bin .lss (.t 24) (.c (.int .i64 0))) 3,zm 22 25 7]
def f108r7:LO:=[zf 26 2 5 0,zl 27 26 1,zm 28 6 0,zf 29 1 7 0,zl 30 29 8,zo 31 (.build (List.replicate 5 (.int .i64 0)) [(0,1,(.t 28)),(1,1,(.t 30))]) 28,zo 32 (.buildSlice true 5 1 (List.replicate 5 (.int .i64 0)) [(0,5,(.t 31))]) 60,zo 33 (.append true 5 40 (.t 27) (.t 32)) 127,⟨some 34,.fieldAddr 2 (.t 5),none,1,255⟩,⟨none,.store 1 (.t 34) (.t 33),none,1,511⟩]
def f108r8:LO:=[zf 35 0 5 0,zl 36 35 1,zf 37 0 8 0,zl 38 37 4,zo 39 (.max (.t 36) (.t 38)) 15,zf 40 1 5 0,zl 41 40 32,zf 42 1 8 0,zl 43 42 128,zo 44 (.max (.t 41) (.t 43)) 480,zf 45 0 5 127,zn (.store 1 (.t 45) (.t 39)) 1151,zf 46 1 5 4095,zn (.store 1 (.t 46) (.t 44)) 8191]
def f108r9:LO:=[zf 48 2 7 0,zl 49 48 1,zo 50 (.bin .gtr (.t 49) (.c (.int .i64 0))) 3,zm 47 50 7]
def f108r10:LO:=[zf 51 2 5 0,zl 52 51 1,zm 53 6 0,zf 54 1 7 0,zl 55 54 8,zf 56 2 7 0,zl 57 56 32,zo 58 (.build (List.replicate 5 (.int .i64 0)) [(0,1,(.t 53)),(1,1,(.t 55)),(4,1,(.t 57))]) 124,zo 59 (.buildSlice true 5 1 (List.replicate 5 (.int .i64 0)) [(0,5,(.t 58))]) 252,zo 60 (.append true 5 40 (.t 52) (.t 59)) 511,⟨some 61,.fieldAddr 2 (.t 5),none,1,1023⟩,⟨none,.store 1 (.t 61) (.t 60),none,1,2047⟩]
def f108q11:LO:=[zf 62 0 5 0,zl 63 62 1,zf 64 2 7 0,zl 65 64 4,zo 66 (.call (.c (.fn 128 [] [])) [(.t 65),(.c (.int .i64 8))]) 12,zo 67 (.bin .quo (.t 66) (.c (.int .i64 8))) 28,zo 68 (.max (.t 63) (.t 67)) 63,zf 69 0 5 127,zn (.store 1 (.t 69) (.t 68)) 255]
def f108r11:LO:=f108q11
def f108r12:LO:=[zf 70 2 7 0,zl 71 70 1,zo 72 (.bin .gtr (.t 71) (.c (.int .i64 0))) 3,zm 73 72 7,zh 74 (.fieldAddr 0 (.t 7)) 73 true 15,zh 75 (.load false 1 (.t 74)) 73 true 31,zh 76 (.bin .neq (.t 75) (.c (.str []))) 73 true 63,za 77 73 76 127]
def f108r13:LO:=[zf 78 1 5 0,zl 79 78 1,zf 80 0 8 0,zl 81 80 4,zo 82 (.max (.t 79) (.t 81)) 15,zf 83 1 5 31,zn (.store 1 (.t 83) (.t 82)) 63]
def f108r14:LO:=[zo 84 (.bin .add (.t 13) (.c (.int .i64 1))) 0,zm 13 84 1]
def f108m3:ACode :=
 .seq (zr f108r3 [0,4,5,11,12,13,14] 0)
 (.seq (.cond (.t 14)
  (.skip)
  (.exit 0))
 (.seq (.block 1 (.seq (zr f108r4 [0,4,5,6,7,11,12,13] 1)
  (.seq (zr f108r5 [0,4,5,6,7,8,11,12,13] 1)
  (.seq (.block 2 (.seq (zr f108r6 [0,4,5,6,7,8,11,12,13,22] 0)
   (.cond (.t 22)
    (.seq (zr f108r7 [0,4,5,7,8,11,12,13] 1)
    (.region true f108r8 [0,4,5,7,8,11,12,13] 0))
    (.seq (zr f108r9 [0,4,5,6,7,8,11,12,13,47] 0)
    (.cond (.t 47)
     (.seq (zr f108r10 [0,4,5,7,8,11,12,13] 1)
     (.region true f108r11 [0,4,5,7,8,11,12,13] 0))
     (.skip))))))
  (.seq (zr f108r12 [0,4,5,8,11,12,13,77] 0)
  (.cond (.t 77)
   (zr f108r13 [0,4,5,11,12,13] 0)
   (.skip)))))))
 (zr f108r14 [0,4,5,11,12,13] 0)))
def f108l3:ACode:=f108m3
theorem f108l3_b:DB f108l3 f108m3:=rfl
def f108r15:LO:=[zf 85 0 5 0,zl 86 85 1,zf 87 1 5 0,zl 88 87 4,zo 89 (.call (.c (.fn 128 [] [])) [(.t 86),(.t 88)]) 15,zf 90 0 5 31,zn (.store 1 (.t 90) (.t 89)) 63]
def f108r16:LO:=[zo 91 (.load true 3 (.t 5)) 0,zn (.store 3 (.t 4) (.t 91)) 1]
theorem f108r11_s:staticOK 0 f108r11=true:=by rfl
theorem f108r11_w:DW f108r11:=fun hr=>Brun_drawnS f108r11_s hr
theorem f108r11_u:DU f108r11 f108q11:=fun _ _ _ _ _=>rfl
def f108c:ACode :=
 .seq (zr f108r0 [0,3,4] 1)
 (.seq (zr f108r1 [0,3,4,5] 1)
 (.seq (.seq (zr f108r2 [0,4,5,11,12,13] 0)
 (.block 0 (.loop f108l3)))
 (.seq (zr f108r15 [4,5] 0)
 (.seq (zr f108r16 [4] 0)
 (.ret)))))
def f108:AFn:=⟨2,92,[.cell 4 true 3],f108c,1,none⟩
def f108k:=kI [0,1,2,3,4,5,6,10,11,9,7,8,12,13,14,15,16] f108c
def f108v:List Nat:=[3,60,59,33,32]
def f109r0:LO:=[zo 2 (.move (.c (.int .i64 0))) 0]
def f109r1:LO:=[zm 3 0 0]
def f109r2:LO:=[zo 5 (.bin .eql (.t 3) (.c (.int .i64 2))) 0,zm 4 5 1]
def f109r3:LO:=[zo 6 (.bin .eql (.t 3) (.c (.int .i64 3))) 0,zm 4 6 1]
def f109r4:LO:=[zo 7 (.bin .eql (.t 3) (.c (.int .i64 4))) 0,zm 4 7 1]
def f109r5:LO:=[zo 8 (.bin .eql (.t 3) (.c (.int .i64 5))) 0,zm 4 8 1]
def f109r6:LO:=[zo 2 (.move (.c (.int .i64 1))) 0]
def f109r7:LO:=[zo 10 (.bin .eql (.t 3) (.c (.int .i64 6))) 0,zm 9 10 1]
def f109r8:LO:=[zo 11 (.bin .eql (.t 3) (.c (.int .i64 7))) 0,zm 9 11 1]
def f109r9:LO:=[zo 2 (.move (.c (.int .i64 2))) 0]
def f109r10:LO:=[zo 13 (.bin .eql (.t 3) (.c (.int .i64 8))) 0,zm 12 13 1]
def f109r11:LO:=[zo 14 (.bin .eql (.t 3) (.c (.int .i64 9))) 0,zm 12 14 1]
def f109r12:LO:=[zo 15 (.bin .eql (.t 3) (.c (.int .i64 10))) 0,zm 12 15 1]
def f109r13:LO:=[zo 16 (.bin .eql (.t 3) (.c (.int .i64 11))) 0,zm 12 16 1]
def f109r14:LO:=[zo 17 (.bin .eql (.t 3) (.c (.int .i64 12))) 0,zm 12 17 1]
def f109r15:LO:=[zo 18 (.bin .eql (.t 3) (.c (.int .i64 13))) 0,zm 12 18 1]
def f109r16:LO:=[zo 2 (.move (.c (.int .i64 4))) 0]
def f109r17:LO:=[zo 2 (.move (.c (.int .i64 0))) 0]
def f109c:ACode :=
 .seq (zr f109r0 [0] 0)
 (.seq (.seq (zr f109r1 [3] 0)
 (.block 0 (.seq (.seq (zr f109r2 [3,4] 0)
  (.cond (.t 4)
   (.skip)
   (.seq (zr f109r3 [3,4] 0)
   (.cond (.t 4)
    (.skip)
    (.seq (zr f109r4 [3,4] 0)
    (.cond (.t 4)
     (.skip)
     (zr f109r5 [3,4] 0)))))))
  (.cond (.t 4)
   (.seq (zr f109r6 [2] 0)
   (.ret))
   (.seq (.seq (zr f109r7 [3,9] 0)
   (.cond (.t 9)
    (.skip)
    (zr f109r8 [3,9] 0)))
   (.cond (.t 9)
    (.seq (zr f109r9 [2] 0)
    (.ret))
    (.seq (.seq (zr f109r10 [3,12] 0)
    (.cond (.t 12)
     (.skip)
     (.seq (zr f109r11 [3,12] 0)
     (.cond (.t 12)
      (.skip)
      (.seq (zr f109r12 [3,12] 0)
      (.cond (.t 12)
       (.skip)
       (.seq (zr f109r13 [3,12] 0)
       (.cond (.t 12)
        (.skip)
        (.seq (zr f109r14 [3,12] 0)
        (.cond (.t 12)
         (.skip)
         (zr f109r15 [12] 0)))))))))))
    (.cond (.t 12)
     (.seq (zr f109r16 [2] 0)
     (.ret))
     (.skip)))))))))
 (.seq (zr f109r17 [2] 0)
 (.ret)))
def f109:AFn:=⟨1,19,[.tmp 2],f109c,1,none⟩
def f109k:=kI [0,1,2,3,4,5,16,7,8,9,10,11,12,13,14,15,6,17] f109c
def f109v:List Nat:=[]
def f110r0:LO:=[zo 4 (.move (.c (.bool false))) 0]
def f110r1:LO:=[zm 6 0 0,zm 7 1 0,zo 8 (.call (.c (.fn 10 [] [])) [(.t 6),(.t 7)]) 3,zm 5 8 7]
def f110r2:LO:=[zm 10 5 0,zo 11 (.bin .eql (.t 10) (.c (.int .i64 14))) 1,zm 9 11 3]
def f110r3:LO:=[zm 12 0 0,zo 13 (.nilCheck (.t 12)) 1,zf 14 0 13 3,zl 15 14 7,zm 16 1 0,zo 17 (.idxAddr 6 (.t 15) (.t 16)) 31,zf 18 2 17 63,zl 19 18 127,zo 20 (.bin .geq (.t 19) (.c (.int .i64 1))) 255,zm 4 20 511]
def f110r4:LO:=[zm 22 0 0,zm 23 1 0,zo 24 (.call (.c (.fn 16 [] [])) [(.t 22),(.t 23)]) 3,zm 21 24 7]
def f110r5:LO:=[zm 25 0 0,zo 26 (.nilCheck (.t 25)) 1,zf 27 0 26 3,zl 28 27 7,zm 29 1 0,zo 30 (.idxAddr 6 (.t 28) (.t 29)) 31,zf 31 5 30 63,zl 32 31 127,zm 4 32 255]
def f110r6:LO:=[zm 33 5 0,zo 34 (.bin .gtr (.t 33) (.c (.int .i64 1))) 1,zm 4 34 3]
def f110c:ACode :=
 .seq (zr f110r0 [0,1] 0)
 (.seq (zr f110r1 [0,1,5] 0)
 (.seq (.block 0 (.seq (zr f110r2 [0,1,5,9] 0)
  (.cond (.t 9)
   (.seq (zr f110r3 [4] 0)
   (.ret))
   (.seq (zr f110r4 [0,1,5,21] 0)
   (.cond (.t 21)
    (.seq (zr f110r5 [4] 0)
    (.ret))
    (.skip))))))
 (.seq (zr f110r6 [4] 0)
 (.ret))))
def f110:AFn:=⟨2,35,[.tmp 4],f110c,1,none⟩
def f110k:=kI [0,1,2,5,4,3,6] f110c
def f110v:List Nat:=[]
def f111r0:LO:=[zo 2 (.move (.c (.is [] .nil))) 0]
def f111r1:LO:=[zm 7 0 0,zo 8 (.nilCheck (.t 7)) 1,zf 9 0 8 3,zl 10 9 7,zo 11 (.len 1 (.t 10)) 15,zo 12 (.mkSlice false 4 48 [(.int .i64 0),(.int .i64 0),(.is [] .nil),(.bool false)] (.t 11) (.t 11)) 31,⟨some 3,.move (.t 12),none,1,63⟩]
def f111r2:LO:=[zm 13 0 0,zo 14 (.nilCheck (.t 13)) 1,zf 15 0 14 3,zl 16 15 7,zo 17 (.len 1 (.t 16)) 15,zo 18 (.mkSlice false 1 1 [(.bool false)] (.t 17) (.t 17)) 31,⟨some 4,.move (.t 18),none,1,63⟩]
def f111r3:LO:=[zo 5 (.move (.c (.bool true))) 0]
def f111r4:LO:=[zm 19 5 0]
def f111r5:LO:=[zo 5 (.move (.c (.bool false))) 0]
def f111r6:LO:=[zo 6 (.move (.c (.int .i64 0))) 0]
def f111r7:LO:=[zm 20 6 0,zm 21 0 0,zo 22 (.nilCheck (.t 21)) 2,zf 23 0 22 6,zl 24 23 14,zo 25 (.len 1 (.t 24)) 30,zo 26 (.bin .lss (.t 20) (.t 25)) 63]
def f111r8:LO:=[zm 29 4 0,zm 30 6 0,zo 31 (.idxAddr 1 (.t 29) (.t 30)) 3,zl 32 31 7,zo 33 (.un .not (.t 32)) 15,zm 34 33 31,zg 35 0 34 true 63,zg 36 6 34 true 63,zh 37 (.call (.c (.fn 110 [] [])) [(.t 35),(.t 36)]) 34 true 255,za 38 34 37 511,zm 39 38 1023,zg 40 0 39 true 2047,zh 41 (.nilCheck (.t 40)) 39 true 4095,zh 42 (.fieldAddr 0 (.t 41)) 39 true 8191,zh 43 (.load false 1 (.t 42)) 39 true 16383,zg 44 6 39 true 2047,zh 45 (.idxAddr 6 (.t 43) (.t 44)) 39 true 65535,zh 46 (.load true 6 (.t 45)) 39 true 131071,zg 47 4 39 true 2047,zh 48 (.call (.c (.fn 129 [] [])) [(.t 46),(.t 47)]) 39 true 524287,za 49 39 48 1048575]
def f111r9:LO:=[zm 50 3 0,zm 51 6 0,zm 52 0 0,zo 53 (.nilCheck (.t 52)) 4,zf 54 0 53 12,zl 55 54 28,zm 56 6 0,zo 57 (.idxAddr 6 (.t 55) (.t 56)) 124,zo 58 (.load true 6 (.t 57)) 252,zm 59 3 0,zo 60 (.call (.c (.fn 130 [] [])) [(.t 58),(.t 59)]) 1020,zo 61 (.idxAddr 4 (.t 50) (.t 51)) 2047,zn (.store 4 (.t 61) (.t 60)) 4095]
def f111r10:LO:=[zm 62 4 0,zm 63 6 0,zo 64 (.idxAddr 1 (.t 62) (.t 63)) 3,zn (.store 1 (.t 64) (.c (.bool true))) 7]
def f111r11:LO:=[zo 5 (.move (.c (.bool true))) 0]
def f111r12:LO:=[zm 27 6 0,zo 28 (.bin .add (.t 27) (.c (.int .i64 1))) 1,zm 6 28 3]
def f111m7:ACode :=
 .seq (.seq (zr f111r7 [0,3,4,5,6,26] 0)
 (.cond (.t 26)
  (.skip)
  (.exit 2)))
 (.seq (.block 3 (.seq (zr f111r8 [0,3,4,5,6,49] 0)
  (.cond (.t 49)
   (.seq (zr f111r9 [0,3,4,6] 0)
   (.seq (zr f111r10 [0,3,4,6] 0)
   (zr f111r11 [0,3,4,5,6] 0)))
   (.skip))))
 (zr f111r12 [0,3,4,5,6] 0))
def f111l7:ACode:=f111m7
theorem f111l7_b:DB f111l7 f111m7:=rfl
def f111m4:ACode :=
 .seq (.seq (zr f111r4 [0,3,4,19] 0)
 (.cond (.t 19)
  (.skip)
  (.exit 0)))
 (.block 1 (.seq (zr f111r5 [0,3,4,5] 0)
  (.seq (zr f111r6 [0,3,4,5,6] 0)
  (.block 2 (.loop f111l7)))))
def f111l4:ACode:=f111m4
theorem f111l4_b:DB f111l4 f111m4:=rfl
def f111r13:LO:=[zm 65 3 0,zm 2 65 1]
def f111c:ACode :=
 .seq (zr f111r0 [0] 0)
 (.seq (zr f111r1 [0,3] 1)
 (.seq (zr f111r2 [0,3,4] 1)
 (.seq (zr f111r3 [0,3,4,5] 0)
 (.seq (.block 0 (.loop f111l4))
 (.seq (zr f111r13 [2] 0)
 (.ret))))))
def f111:AFn:=⟨1,66,[.tmp 2],f111c,1,none⟩
def f111k:=kI [0,1,2,3,4,5,6,7,9,10,11,12,8,13] f111c
def f111v:List Nat:=[]
def f114r0:LO:=[zo 2 (.move (.c (.bool false))) 0]
def f114r1:LO:=[zm 4 0 0,zo 5 (.len 0 (.t 4)) 1,zo 6 (.bin .lss (.t 5) (.c (.int .i64 2))) 3,zm 7 6 7,zg 8 0 7 false 15,zh 9 (.len 0 (.t 8)) 7 false 31,zh 10 (.bin .gtr (.t 9) (.c (.int .i64 10))) 7 false 63,zq 11 7 10 127,zm 12 11 255,zg 13 0 12 false 511,zh 14 (.strIndex (.t 13) (.c (.int .i64 0))) 12 false 1023,zh 15 (.bin .neq (.t 14) (.c (.int .u8 35))) 12 false 2047,zq 16 12 15 4095]
def f114r2:LO:=[zm 17 0 0,zo 18 (.call (.c (.fn 132 [] [])) [(.t 17)]) 1,zm 2 18 3]
def f114r3:LO:=[zo 3 (.move (.c (.int .i64 1))) 0]
def f114r4:LO:=[zm 19 3 0,zm 20 0 0,zo 21 (.len 0 (.t 20)) 2,zo 22 (.bin .lss (.t 19) (.t 21)) 7]
def f114r5:LO:=[zm 25 0 0,zm 26 3 0,zo 27 (.strIndex (.t 25) (.t 26)) 3,zo 28 (.call (.c (.fn 133 [] [])) [(.t 27)]) 7,zo 29 (.un .not (.t 28)) 15]
def f114r6:LO:=[zo 2 (.move (.c (.bool false))) 0]
def f114r7:LO:=[zm 23 3 0,zo 24 (.bin .add (.t 23) (.c (.int .i64 1))) 1,zm 3 24 3]
def f114m4:ACode :=
 .seq (.seq (zr f114r4 [0,3,22] 0)
 (.cond (.t 22)
  (.skip)
  (.exit 0)))
 (.seq (.block 1 (.seq (zr f114r5 [0,3,29] 0)
  (.cond (.t 29)
   (.seq (zr f114r6 [2] 0)
   (.ret))
   (.skip))))
 (zr f114r7 [0,3] 0))
def f114l4:ACode:=f114m4
theorem f114l4_b:DB f114l4 f114m4:=rfl
def f114r8:LO:=[zo 2 (.move (.c (.bool true))) 0]
def f114c:ACode :=
 .seq (zr f114r0 [0] 0)
 (.seq (.seq (zr f114r1 [0,16] 0)
 (.cond (.t 16)
  (.seq (zr f114r2 [2] 0)
  (.ret))
  (.skip)))
 (.seq (.seq (zr f114r3 [0,3] 0)
 (.block 0 (.loop f114l4)))
 (.seq (zr f114r8 [2] 0)
 (.ret))))
def f114:AFn:=⟨1,30,[.tmp 2],f114c,1,none⟩
def f114k:=kI [0,1,2,3,4,6,7,5,8] f114c
def f114v:List Nat:=[]
def f115r0:LO:=[zo 4 (.move (.c (.int .i64 0))) 0]
def f115r1:LO:=[zm 7 1 0,zo 8 (.len 1 (.t 7)) 1,zo 9 (.bin .lss (.t 8) (.c (.int .i64 1))) 3,zm 10 9 7,zg 11 1 10 false 15,zh 12 (.len 1 (.t 11)) 10 false 31,zh 13 (.bin .gtr (.t 12) (.c (.int .i64 64))) 10 false 63,zq 14 10 13 127]
def f115r2:LO:=[zo 4 (.move (.c (.int .i64 2))) 0]
def f115r3:LO:=[zo 5 (.move (.c (.int .i64 0))) 0]
def f115r4:LO:=[zm 15 5 0,zm 16 1 0,zo 17 (.len 1 (.t 16)) 2,zo 18 (.bin .lss (.t 15) (.t 17)) 7]
def f115r5:LO:=[zm 21 0 0,zm 22 1 0,zm 23 5 0,zo 24 (.call (.c (.fn 134 [] [])) [(.t 21),(.t 22),(.t 23)]) 7,zm 6 24 15]
def f115r6:LO:=[zm 25 6 0,zo 26 (.bin .neq (.t 25) (.c (.int .i64 0))) 1]
def f115r7:LO:=[zm 27 6 0,zm 4 27 1]
def f115r8:LO:=[zm 19 5 0,zo 20 (.bin .add (.t 19) (.c (.int .i64 1))) 1,zm 5 20 3]
def f115m4:ACode :=
 .seq (.seq (zr f115r4 [0,1,5,18] 0)
 (.cond (.t 18)
  (.skip)
  (.exit 0)))
 (.seq (.block 1 (.seq (zr f115r5 [0,1,5,6] 0)
  (.seq (zr f115r6 [0,1,5,6,26] 0)
  (.cond (.t 26)
   (.seq (zr f115r7 [4] 0)
   (.ret))
   (.skip)))))
 (zr f115r8 [0,1,5] 0))
def f115l4:ACode:=f115m4
theorem f115l4_b:DB f115l4 f115m4:=rfl
def f115r9:LO:=[zo 4 (.move (.c (.int .i64 0))) 0]
def f115c:ACode :=
 .seq (zr f115r0 [0,1] 0)
 (.seq (.seq (zr f115r1 [0,1,14] 0)
 (.cond (.t 14)
  (.seq (zr f115r2 [4] 0)
  (.ret))
  (.skip)))
 (.seq (.seq (zr f115r3 [0,1,5] 0)
 (.block 0 (.loop f115l4)))
 (.seq (zr f115r9 [4] 0)
 (.ret))))
def f115:AFn:=⟨2,28,[.tmp 4],f115c,1,none⟩
def f115k:=kI [0,1,2,3,4,6,7,8,5,9] f115c
def f115v:List Nat:=[]
def f116r0:LO:=[zo 2 (.move (.c (.bool false))) 0]
def f116r1:LO:=[zm 3 0 0,zo 4 (.bin .eql (.t 3) (.c (.int .i64 (-1)))) 1,zm 5 4 3,zg 6 0 5 false 7,zh 7 (.bin .geq (.t 6) (.c (.int .i64 1))) 5 false 15,zg 8 7 5 false 31,zg 9 0 8 true 63,zh 10 (.bin .leq (.t 9) (.c (.int .i64 16384))) 8 true 127,zh 11 (.pick (.t 8) (.t 10) (.c (.bool false))) 5 false 255,zq 12 5 11 511,zm 2 12 1023]
def f116c:ACode :=
 .seq (zr f116r0 [0] 0)
 (.seq (zr f116r1 [2] 0)
 (.ret))
def f116:AFn:=⟨1,13,[.tmp 2],f116c,1,none⟩
def f116k:=kA f116c
def f116v:List Nat:=[]
def f117r0:LO:=[zo 2 (.move (.c (.bool false))) 0]
def f117r1:LO:=[zm 3 0 0,zo 4 (.bin .eql (.t 3) (.c (.int .i64 (-1)))) 1,zm 5 4 3,zg 6 0 5 false 7,zh 7 (.bin .geq (.t 6) (.c (.int .i64 1))) 5 false 15,zg 8 7 5 false 31,zg 9 0 8 true 63,zh 10 (.bin .leq (.t 9) (.c (.int .i64 16384))) 8 true 127,zh 11 (.pick (.t 8) (.t 10) (.c (.bool false))) 5 false 255,zq 12 5 11 511,zm 2 12 1023]
def f117c:ACode :=
 .seq (zr f117r0 [0] 0)
 (.seq (zr f117r1 [2] 0)
 (.ret))
def f117:AFn:=⟨1,13,[.tmp 2],f117c,1,none⟩
def f117k:=kA f117c
def f117v:List Nat:=[]
def f118r0:LO:=[zo 2 (.move (.c (.bool false))) 0]
def f118r1:LO:=[zm 6 0 0,zo 7 (.call (.c (.fn 135 [] [])) [(.t 6),(.c (.str [35]))]) 1,zm 5 7 3,ze 8 5 0 7,ze 9 5 1 7,zm 3 8 15,zm 4 9 63]
def f118r2:LO:=[zm 10 4 0]
def f118r3:LO:=[zm 11 3 0,zo 12 (.bin .neq (.t 11) (.c (.str []))) 1,zm 13 12 3,zg 14 3 13 true 7,zh 15 (.len 0 (.t 14)) 13 true 15,zh 16 (.bin .leq (.t 15) (.c (.int .i64 9))) 13 true 31,za 17 13 16 63,zm 18 17 127,zg 19 3 18 true 255,zh 20 (.call (.c (.fn 136 [] [])) [(.t 19),(.c (.str [48,49,50,51,52,53,54,55,56,57]))]) 18 true 511,zh 21 (.bin .eql (.t 20) (.c (.str []))) 18 true 1023,za 22 18 21 2047,zm 2 22 4095]
def f118r4:LO:=[zm 23 0 0,zo 24 (.call (.c (.fn 120 [] [])) [(.t 23)]) 1,zm 2 24 3]
def f118c:ACode :=
 .seq (zr f118r0 [0] 0)
 (.seq (.seq (zr f118r1 [0,3,4] 0)
 (.seq (zr f118r2 [0,3,10] 0)
 (.cond (.t 10)
  (.seq (zr f118r3 [2] 0)
  (.ret))
  (.skip))))
 (.seq (zr f118r4 [2] 0)
 (.ret)))
def f118:AFn:=⟨1,25,[.tmp 2],f118c,1,none⟩
def f118k:=kA f118c
def f118v:List Nat:=[]
def f119r0:LO:=[zo 6 (.move (.c (.bool false))) 0]
def f119r1:LO:=[zm 8 0 0,zm 9 1 0,zo 10 (.call (.c (.fn 100 [] [])) [(.t 8),(.t 9)]) 3,zm 7 10 7]
def f119r2:LO:=[zm 11 7 0,zo 12 (.bin .lss (.t 11) (.c (.int .i64 2))) 1,zm 13 12 3,zg 14 7 13 false 7,zh 15 (.bin .gtr (.t 14) (.c (.int .i64 12))) 13 false 15,zq 16 13 15 31,zm 17 16 63,zg 18 2 17 false 127,zh 19 (.bin .lss (.t 18) (.c (.int .i64 0))) 17 false 255,zq 20 17 19 511]
def f119r3:LO:=[zo 6 (.move (.c (.bool false))) 0]
def f119r4:LO:=[zm 21 7 0,zo 22 (.bin .eql (.t 21) (.c (.int .i64 2))) 1]
def f119r5:LO:=[zm 23 2 0,zo 24 (.bin .leq (.t 23) (.c (.int .i64 1))) 1,zm 6 24 3]
def f119r6:LO:=[zm 25 2 0,zm 26 7 0,zo 27 (.call (.c (.fn 109 [] [])) [(.t 26)]) 2,zo 28 (.bin .mul (.c (.int .i64 8)) (.t 27)) 6,zo 29 (.bin .leq (.t 25) (.t 28)) 15,zm 6 29 31]
def f119c:ACode :=
 .seq (zr f119r0 [0,1,2] 0)
 (.seq (zr f119r1 [2,7] 0)
 (.seq (.seq (zr f119r2 [2,7,20] 0)
 (.cond (.t 20)
  (.seq (zr f119r3 [6] 0)
  (.ret))
  (.skip)))
 (.seq (.seq (zr f119r4 [2,7,22] 0)
 (.cond (.t 22)
  (.seq (zr f119r5 [6] 0)
  (.ret))
  (.skip)))
 (.seq (zr f119r6 [6] 0)
 (.ret)))))
def f119:AFn:=⟨3,30,[.tmp 6],f119c,1,none⟩
def f119k:=kA f119c
def f119v:List Nat:=[]
def f120r0:LO:=[zo 2 (.move (.c (.bool false))) 0]
def f120r1:LO:=[zm 5 0 0,zo 6 (.bin .eql (.t 5) (.c (.str []))) 1,zm 7 6 3,zg 8 0 7 false 7,zh 9 (.len 0 (.t 8)) 7 false 15,zh 10 (.bin .gtr (.t 9) (.c (.int .i64 63))) 7 false 31,zq 11 7 10 63]
def f120r2:LO:=[zo 2 (.move (.c (.bool false))) 0]
def f120r3:LO:=[zm 12 0 0,zo 13 (.len 0 (.t 12)) 1,zo 14 (.move (.c (.int .i64 0))) 0]
def f120r4:LO:=[zo 15 (.bin .lss (.t 14) (.t 13)) 0]
def f120r5:LO:=[zm 16 14 0,zm 3 16 1]
def f120r6:LO:=[zm 17 0 0,zm 18 3 0,zo 19 (.strIndex (.t 17) (.t 18)) 3,zm 4 19 7]
def f120r7:LO:=[zm 20 4 0,zo 21 (.bin .neq (.t 20) (.c (.int .u8 95))) 1,zm 22 21 3,zg 23 4 22 true 7,zh 24 (.bin .or (.t 23) (.c (.int .u8 32))) 22 true 15,zh 25 (.bin .lss (.t 24) (.c (.int .u8 97))) 22 true 31,zg 26 25 22 true 63,zg 27 4 26 false 127,zh 28 (.bin .or (.t 27) (.c (.int .u8 32))) 26 false 255,zh 29 (.bin .gtr (.t 28) (.c (.int .u8 122))) 26 false 511,zh 30 (.pick (.t 26) (.c (.bool true)) (.t 29)) 22 true 1023,za 31 22 30 2047,zm 32 31 4095,zg 33 3 32 true 8191,zh 34 (.bin .eql (.t 33) (.c (.int .i64 0))) 32 true 16383,zg 35 34 32 true 32767,zg 36 4 35 false 65535,zh 37 (.bin .lss (.t 36) (.c (.int .u8 48))) 35 false 131071,zh 38 (.pick (.t 35) (.c (.bool true)) (.t 37)) 32 true 262143,zg 39 38 32 true 524287,zg 40 4 39 false 1048575,zh 41 (.bin .gtr (.t 40) (.c (.int .u8 57))) 39 false 2097151,zh 42 (.pick (.t 39) (.c (.bool true)) (.t 41)) 32 true 4194303,za 43 32 42 8388607]
def f120r8:LO:=[zo 2 (.move (.c (.bool false))) 0]
def f120r9:LO:=[zo 44 (.bin .add (.t 14) (.c (.int .i64 1))) 0,zm 14 44 1]
def f120m4:ACode :=
 .seq (zr f120r4 [0,13,14,15] 0)
 (.seq (.cond (.t 15)
  (.skip)
  (.exit 0))
 (.seq (.block 1 (.seq (zr f120r5 [0,3,13,14] 0)
  (.seq (zr f120r6 [0,3,4,13,14] 0)
  (.seq (zr f120r7 [0,13,14,43] 0)
  (.cond (.t 43)
   (.seq (zr f120r8 [2] 0)
   (.ret))
   (.skip))))))
 (zr f120r9 [0,13,14] 0)))
def f120l4:ACode:=f120m4
theorem f120l4_b:DB f120l4 f120m4:=rfl
def f120r10:LO:=[zo 2 (.move (.c (.bool true))) 0]
def f120c:ACode :=
 .seq (zr f120r0 [0] 0)
 (.seq (.seq (zr f120r1 [0,11] 0)
 (.cond (.t 11)
  (.seq (zr f120r2 [2] 0)
  (.ret))
  (.skip)))
 (.seq (.seq (zr f120r3 [0,13,14] 0)
 (.block 0 (.loop f120l4)))
 (.seq (zr f120r10 [2] 0)
 (.ret))))
def f120:AFn:=⟨1,45,[.tmp 2],f120c,1,none⟩
def f120k:=kA f120c
def f120v:List Nat:=[]
def f121r0:LO:=[zo 3 (.box true (.t 1)) 0,zo 4 (.move (.c (.int .i64 0))) 0,zo 5 (.move (.c (.int .i64 0))) 2]
def f121r1:LO:=[zm 6 0 0,zo 7 (.nilCheck (.t 6)) 1,zf 8 0 7 3,zl 9 8 7,zo 10 (.len 1 (.t 9)) 15,zo 11 (.bin .geq (.t 10) (.c (.int .i64 512))) 31]
def f121r2:LO:=[zo 4 (.move (.c (.int .i64 0))) 0,zo 5 (.move (.c (.int .i64 32))) 1]
def f121r3:LO:=[zm 12 0 0,zm 13 0 0,zo 14 (.nilCheck (.t 13)) 2,zf 15 0 14 6,zl 16 15 14,zo 17 (.load true 6 (.t 3)) 0,zo 18 (.buildSlice false 6 1 [(.int .i64 0),(.int .i64 0),(.int .i64 0),(.str []),(.is [] .nil),(.bool false)] [(0,6,(.t 17))]) 32,⟨some 19,.append false 6 72 (.t 16) (.t 18),none,1,126⟩,⟨some 20,.nilCheck (.t 12),none,2,255⟩,⟨some 21,.fieldAddr 0 (.t 20),none,2,511⟩,⟨none,.store 1 (.t 21) (.t 19),none,2,1023⟩]
def f121r4:LO:=[zm 22 0 0,zo 23 (.nilCheck (.t 22)) 1,zf 24 0 23 3,zl 25 24 7,zo 26 (.len 1 (.t 25)) 15,zo 27 (.bin .sub (.t 26) (.c (.int .i64 1))) 31,zm 4 27 63,zo 5 (.move (.c (.int .i64 0))) 127]
def f121c:ACode :=
 .seq (zr f121r0 [0,3] 0)
 (.seq (.seq (zr f121r1 [0,3,11] 0)
 (.cond (.t 11)
  (.seq (zr f121r2 [4,5] 0)
  (.ret))
  (.skip)))
 (.seq (.region true f121r3 [0] 2)
 (.seq (zr f121r4 [4,5] 0)
 (.ret))))
def f121:AFn:=⟨2,28,[.tmp 4,.tmp 5],f121c,1,none⟩
def f121k:=kA f121c
def f121v:List Nat:=[3]
def f122r0:LO:=[zo 6 (.move (.c (.int .u32 0))) 0]
def f122r1:LO:=[zm 9 1 0,zo 10 (.conv .i32 (.t 9)) 1,zo 11 (.conv .i64 (.t 10)) 3,zm 12 2 0,zo 13 (.conv .i32 (.t 12)) 8,zo 14 (.conv .i64 (.t 13)) 24,zm 7 11 7,zm 8 14 127]
def f122r2:LO:=[zm 15 0 0]
def f122r3:LO:=[zo 17 (.bin .eql (.t 15) (.c (.int .i64 5))) 0,zm 16 17 1]
def f122r4:LO:=[zm 18 1 0,zm 19 2 0,zo 20 (.bin .quo (.t 18) (.t 19)) 3,zm 6 20 7]
def f122r5:LO:=[zo 22 (.bin .eql (.t 15) (.c (.int .i64 7))) 0,zm 21 22 1]
def f122r6:LO:=[zm 23 1 0,zm 24 2 0,zo 25 (.bin .rem (.t 23) (.t 24)) 3,zm 6 25 7]
def f122r7:LO:=[zo 27 (.bin .eql (.t 15) (.c (.int .i64 6))) 0,zm 26 27 1]
def f122r8:LO:=[zm 28 7 0,zm 29 8 0,zo 30 (.bin .rem (.t 28) (.t 29)) 3,zo 31 (.conv .u32 (.t 30)) 7,zm 6 31 15]
def f122r9:LO:=[zm 32 7 0,zm 33 8 0,zo 34 (.bin .quo (.t 32) (.t 33)) 3,zo 35 (.conv .u32 (.t 34)) 7,zm 6 35 15]
def f122c:ACode :=
 .seq (zr f122r0 [0,1,2] 0)
 (.seq (zr f122r1 [0,1,2,7,8] 0)
 (.seq (.seq (zr f122r2 [1,2,7,8,15] 0)
 (.block 0 (.seq (zr f122r3 [1,2,7,8,15,16] 0)
  (.cond (.t 16)
   (.seq (zr f122r4 [6] 0)
   (.ret))
   (.seq (zr f122r5 [1,2,7,8,15,21] 0)
   (.cond (.t 21)
    (.seq (zr f122r6 [6] 0)
    (.ret))
    (.seq (zr f122r7 [7,8,26] 0)
    (.cond (.t 26)
     (.seq (zr f122r8 [6] 0)
     (.ret))
     (.skip)))))))))
 (.seq (zr f122r9 [6] 0)
 (.ret))))
def f122:AFn:=⟨3,36,[.tmp 6],f122c,1,none⟩
def f122k:=kI [0,1,2,3,8,5,6,7,4,9] f122c
def f122v:List Nat:=[35,31,14,13,11,10]
def f123r0:LO:=[zo 2 (.move (.c (.int .u32 0))) 0]
def f123r1:LO:=[zm 3 0 0]
def f123r2:LO:=[zo 2 (.move (.c (.int .u32 1))) 0]
def f123r3:LO:=[zo 2 (.move (.c (.int .u32 0))) 0]
def f123c:ACode :=
 .seq (zr f123r0 [0] 0)
 (.seq (.seq (zr f123r1 [3] 0)
 (.cond (.t 3)
  (.seq (zr f123r2 [2] 0)
  (.ret))
  (.skip)))
 (.seq (zr f123r3 [2] 0)
 (.ret)))
def f123:AFn:=⟨1,4,[.tmp 2],f123c,1,none⟩
def f123k:=kA f123c
def f123v:List Nat:=[]
def f124r0:LO:=[zo 6 (.move (.c (.int .u32 0))) 0]
def f124r1:LO:=[zm 8 1 0,zo 9 (.bin .sub (.c (.int .u64 32)) (.t 8)) 1,zm 7 9 3]
def f124r2:LO:=[zm 10 2 0]
def f124r3:LO:=[zm 11 0 0,zm 12 7 0,zo 13 (.bin .shl (.t 11) (.t 12)) 3,zo 14 (.conv .i32 (.t 13)) 7,zm 15 7 0,zo 16 (.bin .shr (.t 14) (.t 15)) 31,zo 17 (.conv .u32 (.t 16)) 63,zm 6 17 127]
def f124r4:LO:=[zm 18 0 0,zm 19 7 0,zo 20 (.bin .shl (.t 18) (.t 19)) 3,zm 21 7 0,zo 22 (.bin .shr (.t 20) (.t 21)) 15,zm 6 22 31]
def f124c:ACode :=
 .seq (zr f124r0 [0,1,2] 0)
 (.seq (zr f124r1 [0,2,7] 0)
 (.seq (.seq (zr f124r2 [0,7,10] 0)
 (.cond (.t 10)
  (.seq (zr f124r3 [6] 0)
  (.ret))
  (.skip)))
 (.seq (zr f124r4 [6] 0)
 (.ret))))
def f124:AFn:=⟨3,23,[.tmp 6],f124c,1,none⟩
def f124k:=kA f124c
def f124v:List Nat:=[17,14]
def f125r0:LO:=[zo 2 (.move (.c (.bool false))) 0]
def f125r1:LO:=[zm 3 0 0]
def f125r2:LO:=[zo 5 (.bin .eql (.t 3) (.c (.int .i64 3))) 0,zm 4 5 1]
def f125r3:LO:=[zo 6 (.bin .eql (.t 3) (.c (.int .i64 4))) 0,zm 4 6 1]
def f125r4:LO:=[zo 7 (.bin .eql (.t 3) (.c (.int .i64 6))) 0,zm 4 7 1]
def f125r5:LO:=[zo 8 (.bin .eql (.t 3) (.c (.int .i64 8))) 0,zm 4 8 1]
def f125r6:LO:=[zo 9 (.bin .eql (.t 3) (.c (.int .i64 10))) 0,zm 4 9 1]
def f125r7:LO:=[zo 10 (.bin .eql (.t 3) (.c (.int .i64 12))) 0,zm 4 10 1]
def f125r8:LO:=[zo 2 (.move (.c (.bool true))) 0]
def f125r9:LO:=[zo 2 (.move (.c (.bool false))) 0]
def f125c:ACode :=
 .seq (zr f125r0 [0] 0)
 (.seq (.seq (zr f125r1 [3] 0)
 (.block 0 (.seq (.seq (zr f125r2 [3,4] 0)
  (.cond (.t 4)
   (.skip)
   (.seq (zr f125r3 [3,4] 0)
   (.cond (.t 4)
    (.skip)
    (.seq (zr f125r4 [3,4] 0)
    (.cond (.t 4)
     (.skip)
     (.seq (zr f125r5 [3,4] 0)
     (.cond (.t 4)
      (.skip)
      (.seq (zr f125r6 [3,4] 0)
      (.cond (.t 4)
       (.skip)
       (zr f125r7 [4] 0)))))))))))
  (.cond (.t 4)
   (.seq (zr f125r8 [2] 0)
   (.ret))
   (.skip)))))
 (.seq (zr f125r9 [2] 0)
 (.ret)))
def f125:AFn:=⟨1,11,[.tmp 2],f125c,1,none⟩
def f125k:=kA f125c
def f125v:List Nat:=[]
def f126r0:LO:=[zo 2 (.move (.c (.bool false))) 0]
def f126r1:LO:=[zm 3 0 0,zo 4 (.bin .eql (.t 3) (.c (.int .i64 3))) 1,zm 5 4 3,zg 6 0 5 false 7,zh 7 (.bin .eql (.t 6) (.c (.int .i64 4))) 5 false 15,zq 8 5 7 31,zm 9 8 63,zg 10 0 9 false 127,zh 11 (.bin .eql (.t 10) (.c (.int .i64 6))) 9 false 255,zq 12 9 11 511,zm 13 12 1023,zg 14 0 13 false 2047,zh 15 (.bin .eql (.t 14) (.c (.int .i64 8))) 13 false 4095,zq 16 13 15 8191,zm 17 16 16383,zg 18 0 17 false 32767,zh 19 (.bin .eql (.t 18) (.c (.int .i64 10))) 17 false 65535,zq 20 17 19 131071,zm 21 20 262143,zg 22 0 21 false 524287,zh 23 (.bin .eql (.t 22) (.c (.int .i64 12))) 21 false 1048575,zq 24 21 23 2097151,zm 2 24 4194303]
def f126c:ACode :=
 .seq (zr f126r0 [0] 0)
 (.seq (zr f126r1 [2] 0)
 (.ret))
def f126:AFn:=⟨1,25,[.tmp 2],f126c,1,none⟩
def f126k:=kA f126c
def f126v:List Nat:=[]
def f127r0:LO:=[zo 2 (.box true (.t 0)) 0]
def f127r1:LO:=[zf 3 2 1 0,zl 4 3 1,zo 5 (.load true 5 (.t 2)) 0,zo 6 (.buildSlice true 5 1 (List.replicate 5 (.int .i64 0)) [(0,5,(.t 5))]) 4,zo 7 (.append true 5 40 (.t 4) (.t 6)) 15,⟨some 8,.fieldAddr 2 (.t 1),none,1,31⟩,⟨none,.store 1 (.t 8) (.t 7),none,1,63⟩]
def f127c:ACode :=
 .seq (zr f127r0 [1,2] 0)
 (zr f127r1 [] 1)
def f127:AFn:=⟨2,9,[],f127c,1,none⟩
def f127k:=kA f127c
def f127v:List Nat:=[2,7,6]
def f128r0:LO:=[zo 4 (.move (.c (.int .i64 0))) 0]
def f128r1:LO:=[zm 5 0 0,zm 6 1 0,zo 7 (.bin .add (.t 5) (.t 6)) 3,zo 8 (.bin .sub (.t 7) (.c (.int .i64 1))) 7,zm 9 1 0,zo 10 (.bin .quo (.t 8) (.t 9)) 31,zm 11 1 0,zo 12 (.bin .mul (.t 10) (.t 11)) 127,zm 4 12 255]
def f128c:ACode :=
 .seq (zr f128r0 [0,1] 0)
 (.seq (zr f128r1 [4] 0)
 (.ret))
def f128:AFn:=⟨2,13,[.tmp 4],f128c,1,none⟩
def f128k:=kA f128c
def f128v:List Nat:=[]
def f129r0:LO:=[zo 2 (.box true (.t 0)) 0,zo 4 (.move (.c (.bool false))) 0]
def f129r1:LO:=[zf 6 0 2 0,zl 7 6 1,zo 8 (.bin .eql (.t 7) (.c (.int .i64 14))) 3]
def f129r2:LO:=[zm 9 1 0,zf 10 1 2 0,zl 11 10 2,zo 12 (.idxAddr 1 (.t 9) (.t 11)) 7,zl 13 12 15,zm 4 13 31]
def f129r3:LO:=[zo 5 (.move (.c (.int .i64 0))) 0]
def f129r4:LO:=[zm 14 5 0,zf 15 4 2 0,zl 16 15 2,zo 17 (.len 1 (.t 16)) 6,zo 18 (.bin .lss (.t 14) (.t 17)) 15]
def f129r5:LO:=[zm 21 1 0,zf 22 4 2 0,zl 23 22 2,zm 24 5 0,zo 25 (.idxAddr 3 (.t 23) (.t 24)) 14,zf 26 1 25 30,zl 27 26 62,zo 28 (.idxAddr 1 (.t 21) (.t 27)) 127,zl 29 28 255,zo 30 (.un .not (.t 29)) 511]
def f129r6:LO:=[zo 4 (.move (.c (.bool false))) 0]
def f129r7:LO:=[zm 19 5 0,zo 20 (.bin .add (.t 19) (.c (.int .i64 1))) 1,zm 5 20 3]
def f129m4:ACode :=
 .seq (.seq (zr f129r4 [1,2,5,18] 0)
 (.cond (.t 18)
  (.skip)
  (.exit 0)))
 (.seq (.block 1 (.seq (zr f129r5 [1,2,5,30] 0)
  (.cond (.t 30)
   (.seq (zr f129r6 [4] 0)
   (.ret))
   (.skip))))
 (zr f129r7 [1,2,5] 0))
def f129l4:ACode:=f129m4
theorem f129l4_b:DB f129l4 f129m4:=rfl
def f129r8:LO:=[zo 4 (.move (.c (.bool true))) 0]
def f129c:ACode :=
 .seq (zr f129r0 [1,2] 0)
 (.seq (.seq (zr f129r1 [1,2,8] 0)
 (.cond (.t 8)
  (.seq (zr f129r2 [4] 0)
  (.ret))
  (.skip)))
 (.seq (.seq (zr f129r3 [1,2,5] 0)
 (.block 0 (.loop f129l4)))
 (.seq (zr f129r8 [4] 0)
 (.ret))))
def f129:AFn:=⟨2,31,[.tmp 4],f129c,1,none⟩
def f129k:=kI [0,1,2,3,4,6,7,5,8] f129c
def f129v:List Nat:=[2]
def f130r0:LO:=[zo 2 (.box true (.t 0)) 0,zo 4 (.alloc false [(.int .i64 0),(.int .i64 0),(.is [] .nil),(.bool false)]) 0]
def f130r1:LO:=[zo 7 (.build [(.int .i64 0),(.int .i64 0),(.is [] .nil),(.bool false)] [(1,1,(.c (.int .i64 1))),(3,1,(.c (.bool true)))]) 0,zo 5 (.alloc false [(.int .i64 0),(.int .i64 0),(.is [] .nil),(.bool false)]) 0,⟨none,.store 4 (.t 5) (.t 7),none,1,3⟩]
def f130r2:LO:=[zf 8 0 2 0,zl 9 8 1]
def f130r3:LO:=[zo 18 (.bin .eql (.t 9) (.c (.int .i64 14))) 0,zm 17 18 1]
def f130r4:LO:=[zm 19 1 0,zf 20 1 2 0,zl 21 20 2,zo 22 (.idxAddr 4 (.t 19) (.t 21)) 7,zo 23 (.load true 4 (.t 22)) 15,zo 6 (.alloc false [(.int .i64 0),(.int .i64 0),(.is [] .nil),(.bool false)]) 0,⟨none,.store 4 (.t 6) (.t 23),none,1,63⟩]
def f130r5:LO:=[zf 24 1 6 0,zl 25 24 1,zf 26 1 5 3,zn (.store 1 (.t 26) (.t 25)) 7]
def f130r6:LO:=[zf 27 2 2 0,zl 28 27 1,zf 29 0 6 0,zl 30 29 4,zo 31 (.bin .mul (.t 28) (.t 30)) 15,zf 32 0 5 31,zn (.store 1 (.t 32) (.t 31)) 63]
def f130r7:LO:=[zf 33 3 6 0,zl 34 33 1,zf 35 3 5 3,zn (.store 1 (.t 35) (.t 34)) 7]
def f130r8:LO:=[zo 37 (.bin .eql (.t 9) (.c (.int .i64 15))) 0,zm 36 37 1]
def f130r9:LO:=[zf 38 4 2 0,zl 39 38 1,zm 40 1 0,zo 41 (.call (.c (.fn 137 [] [])) [(.t 39),(.t 40)]) 7,zn (.store 4 (.t 5) (.t 41)) 15]
def f130r10:LO:=[zo 43 (.bin .eql (.t 9) (.c (.int .i64 16))) 0,zm 42 43 1]
def f130r11:LO:=[zf 44 4 2 0,zl 45 44 1,zm 46 1 0,zo 47 (.call (.c (.fn 138 [] [])) [(.t 45),(.t 46)]) 7,zn (.store 4 (.t 5) (.t 47)) 15]
def f130r12:LO:=[zf 10 0 2 0,zl 11 10 1,zo 12 (.call (.c (.fn 102 [] [])) [(.t 11)]) 3,zf 13 0 5 7,zn (.store 1 (.t 13) (.t 12)) 15]
def f130r13:LO:=[zf 14 0 5 0,zl 15 14 1,zf 16 1 5 3,zn (.store 1 (.t 16) (.t 15)) 7]
def f130r14:LO:=[zf 48 3 5 0,zl 49 48 1,zm 50 49 3,zh 51 (.fieldAddr 0 (.t 5)) 50 true 7,zh 52 (.load false 1 (.t 51)) 50 true 15,zh 53 (.bin .leq (.t 52) (.c (.int .i64 16384))) 50 true 31,za 54 50 53 63,zf 55 3 5 127,zn (.store 1 (.t 55) (.t 54)) 255]
def f130r15:LO:=[zf 56 3 5 0,zl 57 56 1,zo 58 (.un .not (.t 57)) 3]
def f130r16:LO:=[zf 59 0 5 0,zn (.store 1 (.t 59) (.c (.int .i64 0))) 1]
def f130r17:LO:=[zo 60 (.load true 4 (.t 5)) 0,zn (.store 4 (.t 4) (.t 60)) 1]
def f130c:ACode :=
 .seq (zr f130r0 [1,2,4] 1)
 (.seq (zr f130r1 [1,2,4,5] 1)
 (.seq (.seq (zr f130r2 [1,2,4,5,9] 0)
 (.block 0 (.seq (zr f130r3 [1,2,4,5,9,17] 0)
  (.cond (.t 17)
   (.seq (zr f130r4 [2,4,5,6] 1)
   (.seq (zr f130r5 [2,4,5,6] 0)
   (.seq (zr f130r6 [4,5,6] 0)
   (zr f130r7 [4,5] 0))))
   (.seq (zr f130r8 [1,2,4,5,9,36] 0)
   (.cond (.t 36)
    (zr f130r9 [4,5] 0)
    (.seq (zr f130r10 [1,2,4,5,42] 0)
    (.cond (.t 42)
     (zr f130r11 [4,5] 0)
     (.seq (zr f130r12 [4,5] 0)
     (zr f130r13 [4,5] 0))))))))))
 (.seq (zr f130r14 [4,5] 0)
 (.seq (.seq (zr f130r15 [4,5,58] 0)
 (.cond (.t 58)
  (zr f130r16 [4,5] 0)
  (.skip)))
 (.seq (zr f130r17 [4] 0)
 (.ret))))))
def f130:AFn:=⟨2,61,[.cell 4 true 4],f130c,1,none⟩
def f130k:=kI [0,1,2,5,6,7,8,3,10,4,12,13,11,9,14,15,16,17] f130c
def f130v:List Nat:=[2]
def f132r0:LO:=[zo 2 (.move (.c (.bool false))) 0]
def f132r1:LO:=[zm 4 0 0,zo 5 (.len 0 (.t 4)) 1,zo 6 (.bin .lss (.t 5) (.c (.int .i64 1))) 3,zm 7 6 7,zg 8 0 7 false 15,zh 9 (.len 0 (.t 8)) 7 false 31,zh 10 (.bin .gtr (.t 9) (.c (.int .i64 63))) 7 false 63,zq 11 7 10 127,zm 12 11 255,zg 13 0 12 false 511,zh 14 (.strIndex (.t 13) (.c (.int .i64 0))) 12 false 1023,zh 15 (.call (.c (.fn 139 [] [])) [(.t 14)]) 12 false 2047,zh 16 (.un .not (.t 15)) 12 false 4095,zq 17 12 16 8191]
def f132r2:LO:=[zo 2 (.move (.c (.bool false))) 0]
def f132r3:LO:=[zo 3 (.move (.c (.int .i64 1))) 0]
def f132r4:LO:=[zm 18 3 0,zm 19 0 0,zo 20 (.len 0 (.t 19)) 2,zo 21 (.bin .lss (.t 18) (.t 20)) 7]
def f132r5:LO:=[zm 24 0 0,zm 25 3 0,zo 26 (.strIndex (.t 24) (.t 25)) 3,zo 27 (.call (.c (.fn 139 [] [])) [(.t 26)]) 7,zo 28 (.un .not (.t 27)) 15,zm 29 28 31,zg 30 0 29 true 63,zg 31 3 29 true 63,zh 32 (.strIndex (.t 30) (.t 31)) 29 true 255,zh 33 (.call (.c (.fn 133 [] [])) [(.t 32)]) 29 true 511,zh 34 (.un .not (.t 33)) 29 true 1023,za 35 29 34 2047]
def f132r6:LO:=[zo 2 (.move (.c (.bool false))) 0]
def f132r7:LO:=[zm 22 3 0,zo 23 (.bin .add (.t 22) (.c (.int .i64 1))) 1,zm 3 23 3]
def f132m4:ACode :=
 .seq (.seq (zr f132r4 [0,3,21] 0)
 (.cond (.t 21)
  (.skip)
  (.exit 0)))
 (.seq (.block 1 (.seq (zr f132r5 [0,3,35] 0)
  (.cond (.t 35)
   (.seq (zr f132r6 [2] 0)
   (.ret))
   (.skip))))
 (zr f132r7 [0,3] 0))
def f132l4:ACode:=f132m4
theorem f132l4_b:DB f132l4 f132m4:=rfl
def f132r8:LO:=[zo 2 (.move (.c (.bool true))) 0]
def f132c:ACode :=
 .seq (zr f132r0 [0] 0)
 (.seq (.seq (zr f132r1 [0,17] 0)
 (.cond (.t 17)
  (.seq (zr f132r2 [2] 0)
  (.ret))
  (.skip)))
 (.seq (.seq (zr f132r3 [0,3] 0)
 (.block 0 (.loop f132l4)))
 (.seq (zr f132r8 [2] 0)
 (.ret))))
def f132:AFn:=⟨1,36,[.tmp 2],f132c,1,none⟩
def f132k:=kI [0,1,2,3,4,6,7,5,8] f132c
def f132v:List Nat:=[]
def f133r0:LO:=[zo 2 (.move (.c (.bool false))) 0]
def f133r1:LO:=[zm 3 0 0,zo 4 (.bin .geq (.t 3) (.c (.int .u8 48))) 1,zm 5 4 3,zg 6 0 5 true 7,zh 7 (.bin .leq (.t 6) (.c (.int .u8 57))) 5 true 15,za 8 5 7 31,zm 2 8 63]
def f133c:ACode :=
 .seq (zr f133r0 [0] 0)
 (.seq (zr f133r1 [2] 0)
 (.ret))
def f133:AFn:=⟨1,9,[.tmp 2],f133c,1,none⟩
def f133k:=kA f133c
def f133v:List Nat:=[]
def f134r0:LO:=[zo 6 (.move (.c (.int .i64 0))) 0]
def f134r1:LO:=[zm 9 1 0,zm 10 2 0,zo 11 (.idxAddr 3 (.t 9) (.t 10)) 3,zo 12 (.load true 3 (.t 11)) 7,zo 7 (.alloc false [(.str []),(.int .i64 0),(.int .i64 0)]) 0,⟨none,.store 3 (.t 7) (.t 12),none,1,31⟩]
def f134r2:LO:=[zm 13 0 0,zf 14 1 7 0,zl 15 14 2,zo 16 (.call (.c (.fn 7 [] [])) [(.t 13),(.t 15)]) 7,zo 17 (.un .not (.t 16)) 15]
def f134r3:LO:=[zo 6 (.move (.c (.int .i64 30))) 0]
def f134r4:LO:=[zm 18 0 0,zf 19 1 7 0,zl 20 19 2,zo 21 (.call (.c (.fn 110 [] [])) [(.t 18),(.t 20)]) 7,zo 22 (.un .not (.t 21)) 15]
def f134r5:LO:=[zo 6 (.move (.c (.int .i64 50))) 0]
def f134r6:LO:=[zm 23 0 0,zf 24 1 7 0,zl 25 24 2,zf 26 2 7 0,zl 27 26 8,zo 28 (.call (.c (.fn 140 [] [])) [(.t 23),(.t 25),(.t 27)]) 31,zo 29 (.un .not (.t 28)) 63]
def f134r7:LO:=[zo 6 (.move (.c (.int .i64 52))) 0]
def f134r8:LO:=[zf 30 0 7 0,zl 31 30 1,zo 32 (.bin .eql (.t 31) (.c (.str []))) 3]
def f134r9:LO:=[zf 33 2 7 0,zl 34 33 1,zo 35 (.bin .lss (.t 34) (.c (.int .i64 0))) 3]
def f134r10:LO:=[zo 6 (.move (.c (.int .i64 31))) 0]
def f134r11:LO:=[zo 6 (.move (.c (.int .i64 0))) 0]
def f134r12:LO:=[zf 36 0 7 0,zl 37 36 1,zo 38 (.call (.c (.fn 132 [] [])) [(.t 37)]) 3,zo 39 (.un .not (.t 38)) 7,zm 40 39 15,zh 41 (.fieldAddr 2 (.t 7)) 40 false 31,zh 42 (.load false 1 (.t 41)) 40 false 63,zh 43 (.bin .eql (.t 42) (.c (.int .i64 0))) 40 false 127,zq 44 40 43 255]
def f134r13:LO:=[zo 6 (.move (.c (.int .i64 31))) 0]
def f134r14:LO:=[zo 8 (.move (.c (.int .i64 0))) 0]
def f134r15:LO:=[zm 45 8 0,zm 46 2 0,zo 47 (.bin .lss (.t 45) (.t 46)) 3]
def f134q16:LO:=[zm 50 1 0,zm 51 8 0,zo 52 (.idxAddr 3 (.t 50) (.t 51)) 3,zf 53 0 52 7,zl 54 53 15,zf 55 0 7 0,zl 56 55 32,zo 57 (.bin .eql (.t 54) (.t 56)) 127]
def f134r16:LO:=f134q16
def f134r17:LO:=[zo 6 (.move (.c (.int .i64 31))) 0]
def f134r18:LO:=[zm 48 8 0,zo 49 (.bin .add (.t 48) (.c (.int .i64 1))) 1,zm 8 49 3]
def f134m15:ACode :=
 .seq (.seq (zr f134r15 [1,2,7,8,47] 0)
 (.cond (.t 47)
  (.skip)
  (.exit 0)))
 (.seq (.block 1 (.seq (.region true f134r16 [1,2,7,8,57] 0)
  (.cond (.t 57)
   (.seq (zr f134r17 [6] 0)
   (.ret))
   (.skip))))
 (zr f134r18 [1,2,7,8] 0))
def f134l15:ACode:=f134m15
theorem f134l15_b:DB f134l15 f134m15:=rfl
def f134r19:LO:=[zo 6 (.move (.c (.int .i64 0))) 0]
theorem f134r16_s:staticOK 0 f134r16=true:=by rfl
theorem f134r16_w:DW f134r16:=fun hr=>Brun_drawnS f134r16_s hr
theorem f134r16_u:DU f134r16 f134q16:=fun _ _ _ _ _=>rfl
def f134c:ACode :=
 .seq (zr f134r0 [0,1,2] 0)
 (.seq (zr f134r1 [0,1,2,7] 1)
 (.seq (.seq (zr f134r2 [0,1,2,7,17] 0)
 (.cond (.t 17)
  (.seq (zr f134r3 [6] 0)
  (.ret))
  (.skip)))
 (.seq (.seq (zr f134r4 [0,1,2,7,22] 0)
 (.cond (.t 22)
  (.seq (zr f134r5 [6] 0)
  (.ret))
  (.skip)))
 (.seq (.seq (zr f134r6 [1,2,7,29] 0)
 (.cond (.t 29)
  (.seq (zr f134r7 [6] 0)
  (.ret))
  (.skip)))
 (.seq (.seq (zr f134r8 [1,2,7,32] 0)
 (.cond (.t 32)
  (.seq (.seq (zr f134r9 [35] 0)
  (.cond (.t 35)
   (.seq (zr f134r10 [6] 0)
   (.ret))
   (.skip)))
  (.seq (zr f134r11 [6] 0)
  (.ret)))
  (.skip)))
 (.seq (.seq (zr f134r12 [1,2,7,44] 0)
 (.cond (.t 44)
  (.seq (zr f134r13 [6] 0)
  (.ret))
  (.skip)))
 (.seq (.seq (zr f134r14 [1,2,7,8] 0)
 (.block 0 (.loop f134l15)))
 (.seq (zr f134r19 [6] 0)
 (.ret)))))))))
def f134:AFn:=⟨3,58,[.tmp 6],f134c,1,none⟩
def f134k:=kI [0,1,2,3,4,5,6,7,8,9,10,11,12,13,14,15,17,18,16,19] f134c
def f134v:List Nat:=[]
def f135r0:LO:=[zo 4 (.move (.c (.str []))) 0,zo 5 (.move (.c (.bool false))) 1]
def f135r1:LO:=[zm 6 0 0,zm 7 1 0,zo 8 (.call (.c (.fn 141 [] [])) [(.t 6),(.t 7)]) 3,ze 9 8 0 7,ze 10 8 1 7,zm 4 9 31,zm 5 10 63]
def f135c:ACode :=
 .seq (zr f135r0 [0,1] 0)
 (.seq (zr f135r1 [4,5] 0)
 (.ret))
def f135:AFn:=⟨2,11,[.tmp 4,.tmp 5],f135c,1,none⟩
def f135k:=kA f135c
def f135v:List Nat:=[]
end Go.Proofs.YtfhijkapcdmdnaaGreatDoor
