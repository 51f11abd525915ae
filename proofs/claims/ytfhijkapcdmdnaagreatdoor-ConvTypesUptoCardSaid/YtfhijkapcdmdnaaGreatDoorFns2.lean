/- The seat's functions as the machine's, part 2. Printed by a program. -/
import Derived.Test.YtfhijkapcdmdnaaGreatDoorFns1
namespace Go.Proofs.YtfhijkapcdmdnaaGreatDoor
open Go.AM
set_option maxRecDepth 100000
def f137r0:LO:=[zo 4 (.alloc false [(.int .i64 0),(.int .i64 0),(.is [] .nil),(.bool false)]) 0]
def f137r1:LO:=[zo 11 (.build [(.int .i64 0),(.int .i64 0),(.is [] .nil),(.bool false)] [(1,1,(.c (.int .i64 1))),(3,1,(.c (.bool true)))]) 0,zo 5 (.alloc false [(.int .i64 0),(.int .i64 0),(.is [] .nil),(.bool false)]) 0,⟨none,.store 4 (.t 5) (.t 11),none,1,3⟩]
def f137r2:LO:=[zo 6 (.move (.c (.int .i64 0))) 0]
def f137r3:LO:=[zo 7 (.move (.c (.int .i64 0))) 0]
def f137r4:LO:=[zm 12 7 0,zm 13 0 0,zo 14 (.len 1 (.t 13)) 2,zo 15 (.bin .lss (.t 12) (.t 14)) 7]
def f137r5:LO:=[zm 18 1 0,zm 19 0 0,zm 20 7 0,zo 21 (.idxAddr 3 (.t 19) (.t 20)) 6,zf 22 1 21 14,zl 23 22 30,zo 24 (.idxAddr 4 (.t 18) (.t 23)) 63,zo 25 (.load true 4 (.t 24)) 127,zo 8 (.alloc false [(.int .i64 0),(.int .i64 0),(.is [] .nil),(.bool false)]) 0,⟨none,.store 4 (.t 8) (.t 25),none,1,511⟩]
def f137r6:LO:=[zf 26 3 5 0,zl 27 26 1,zm 28 27 3,zh 29 (.fieldAddr 3 (.t 8)) 28 true 7,zh 30 (.load false 1 (.t 29)) 28 true 15,za 31 28 30 31,zf 32 3 5 63,zn (.store 1 (.t 32) (.t 31)) 127]
def f137r7:LO:=[zf 33 0 8 0,zl 34 33 1,zo 35 (.bin .mul (.c (.int .i64 8)) (.t 34)) 3,zm 9 35 7]
def f137r8:LO:=[zm 36 0 0,zm 37 7 0,zo 38 (.idxAddr 3 (.t 36) (.t 37)) 3,zf 39 2 38 7,zl 40 39 15,zm 10 40 31]
def f137r9:LO:=[zf 41 3 5 0,zl 42 41 1,zo 43 (.un .not (.t 42)) 3]
def f137r10:LO:=[zo 44 (.load true 4 (.t 5)) 0,zn (.store 4 (.t 4) (.t 44)) 1]
def f137r11:LO:=[zm 96 10 0,zo 97 (.bin .lss (.t 96) (.c (.int .i64 0))) 1,zm 95 97 3]
def f137r12:LO:=[zm 98 6 0,zf 99 1 8 0,zl 100 99 2,zo 101 (.bin .mul (.c (.int .i64 8)) (.t 100)) 6,zo 102 (.call (.c (.fn 149 [] [])) [(.t 98),(.t 101)]) 15,zm 6 102 31]
def f137r13:LO:=[zf 103 2 5 0,zl 104 103 1,zm 105 7 0,zm 106 0 0,zm 107 7 0,zo 108 (.idxAddr 3 (.t 106) (.t 107)) 24,zf 109 1 108 56,zl 110 109 120,zm 111 6 0,zo 112 (.bin .quo (.t 111) (.c (.int .i64 8))) 256,zo 113 (.build (List.replicate 5 (.int .i64 0)) [(0,1,(.t 105)),(1,1,(.t 110)),(2,1,(.t 112))]) 1020,zo 114 (.buildSlice true 5 1 (List.replicate 5 (.int .i64 0)) [(0,5,(.t 113))]) 2044,zo 115 (.append true 5 40 (.t 104) (.t 114)) 4095,⟨some 116,.fieldAddr 2 (.t 5),none,1,8191⟩,⟨none,.store 1 (.t 116) (.t 115),none,1,16383⟩]
def f137r14:LO:=[zm 117 6 0,zm 118 9 0,zo 119 (.bin .add (.t 117) (.t 118)) 3,zm 6 119 7]
def f137r15:LO:=[zf 120 1 5 0,zl 121 120 1,zf 122 1 8 0,zl 123 122 4,zo 124 (.max (.t 121) (.t 123)) 15,zf 125 1 5 31,zn (.store 1 (.t 125) (.t 124)) 63]
def f137r16:LO:=[zm 127 10 0,zo 128 (.bin .eql (.t 127) (.c (.int .i64 0))) 1,zm 126 128 3]
def f137r17:LO:=[zm 129 6 0,zm 130 9 0,zo 131 (.call (.c (.fn 149 [] [])) [(.t 129),(.t 130)]) 3,zm 6 131 7]
def f137q18:LO:=[zm 45 6 0,zm 46 9 0,zo 47 (.bin .quo (.t 45) (.t 46)) 3,zm 48 6 0,zm 49 10 0,zo 50 (.bin .add (.t 48) (.t 49)) 24,zo 51 (.bin .sub (.t 50) (.c (.int .i64 1))) 56,zm 52 9 0,zo 53 (.bin .quo (.t 51) (.t 52)) 248,zo 54 (.bin .neq (.t 47) (.t 53)) 511]
def f137r18:LO:=f137q18
def f137r19:LO:=[zm 55 6 0,zm 56 9 0,zo 57 (.call (.c (.fn 149 [] [])) [(.t 55),(.t 56)]) 3,zm 6 57 7]
def f137r20:LO:=[zf 58 2 5 0,zl 59 58 1,zm 60 7 0,zm 61 0 0,zm 62 7 0,zo 63 (.idxAddr 3 (.t 61) (.t 62)) 24,zf 64 1 63 56,zl 65 64 120,zm 66 6 0,zm 67 9 0,zo 68 (.bin .quo (.t 66) (.t 67)) 768,zf 69 0 8 0,zl 70 69 2048,zo 71 (.bin .mul (.t 68) (.t 70)) 7936,zm 72 6 0,zm 73 9 0,zo 74 (.bin .rem (.t 72) (.t 73)) 49152,zm 75 10 0,zo 76 (.build (List.replicate 5 (.int .i64 0)) [(0,1,(.t 60)),(1,1,(.t 65)),(2,1,(.t 71)),(3,1,(.t 74)),(4,1,(.t 75))]) 262140,zo 77 (.buildSlice true 5 1 (List.replicate 5 (.int .i64 0)) [(0,5,(.t 76))]) 524284,zo 78 (.append true 5 40 (.t 59) (.t 77)) 1048575,⟨some 79,.fieldAddr 2 (.t 5),none,1,2097151⟩,⟨none,.store 1 (.t 79) (.t 78),none,1,4194303⟩]
def f137r21:LO:=[zm 80 6 0,zm 81 10 0,zo 82 (.bin .add (.t 80) (.t 81)) 3,zm 6 82 7]
def f137r22:LO:=[zm 83 0 0,zm 84 7 0,zo 85 (.idxAddr 3 (.t 83) (.t 84)) 3,zf 86 0 85 7,zl 87 86 15,zo 88 (.bin .neq (.t 87) (.c (.str []))) 31]
def f137r23:LO:=[zf 89 1 5 0,zl 90 89 1,zf 91 1 8 0,zl 92 91 4,zo 93 (.max (.t 90) (.t 92)) 15,zf 94 1 5 31,zn (.store 1 (.t 94) (.t 93)) 63]
def f137r24:LO:=[zm 16 7 0,zo 17 (.bin .add (.t 16) (.c (.int .i64 1))) 1,zm 7 17 3]
def f137m4:ACode :=
 .seq (.seq (zr f137r4 [0,1,4,5,6,7,15] 0)
 (.cond (.t 15)
  (.skip)
  (.exit 0)))
 (.seq (.block 1 (.seq (zr f137r5 [0,1,4,5,6,7,8] 1)
  (.seq (zr f137r6 [0,1,4,5,6,7,8] 0)
  (.seq (zr f137r7 [0,1,4,5,6,7,8,9] 0)
  (.seq (zr f137r8 [0,1,4,5,6,7,8,9,10] 0)
  (.seq (.seq (zr f137r9 [0,1,4,5,6,7,8,9,10,43] 0)
  (.cond (.t 43)
   (.seq (zr f137r10 [4] 0)
   (.ret))
   (.skip)))
  (.block 2 (.seq (zr f137r11 [0,1,4,5,6,7,8,9,10,95] 0)
   (.cond (.t 95)
    (.seq (zr f137r12 [0,1,4,5,6,7,8,9] 0)
    (.seq (.region true f137r13 [0,1,4,5,6,7,8,9] 1)
    (.seq (zr f137r14 [0,1,4,5,6,7,8] 0)
    (zr f137r15 [0,1,4,5,6,7] 0))))
    (.seq (zr f137r16 [0,1,4,5,6,7,8,9,10,126] 0)
    (.cond (.t 126)
     (zr f137r17 [0,1,4,5,6,7] 0)
     (.seq (.seq (.region true f137r18 [0,1,4,5,6,7,8,9,10,54] 0)
     (.cond (.t 54)
      (zr f137r19 [0,1,4,5,6,7,8,9,10] 0)
      (.skip)))
     (.seq (.region true f137r20 [0,1,4,5,6,7,8,10] 1)
     (.seq (zr f137r21 [0,1,4,5,6,7,8] 0)
     (.seq (zr f137r22 [0,1,4,5,6,7,8,88] 0)
     (.cond (.t 88)
      (zr f137r23 [0,1,4,5,6,7] 0)
      (.skip)))))))))))))))))
 (zr f137r24 [0,1,4,5,6,7] 0))
def f137l4:ACode:=f137m4
theorem f137l4_b:DB f137l4 f137m4:=rfl
def f137q25:LO:=[zm 132 6 0,zo 133 (.call (.c (.fn 149 [] [])) [(.t 132),(.c (.int .i64 8))]) 1,zo 134 (.bin .quo (.t 133) (.c (.int .i64 8))) 3,zo 135 (.max (.c (.int .i64 1)) (.t 134)) 7,zf 136 1 5 0,zl 137 136 16,zo 138 (.call (.c (.fn 149 [] [])) [(.t 135),(.t 137)]) 63,zf 139 0 5 127,zn (.store 1 (.t 139) (.t 138)) 255]
def f137r25:LO:=f137q25
def f137r26:LO:=[zo 140 (.load true 4 (.t 5)) 0,zn (.store 4 (.t 4) (.t 140)) 1]
theorem f137r18_s:staticOK 0 f137r18=true:=by rfl
theorem f137r18_w:DW f137r18:=fun hr=>Brun_drawnS f137r18_s hr
theorem f137r18_u:DU f137r18 f137q18:=fun _ _ _ _ _=>rfl
theorem f137r25_s:staticOK 0 f137r25=true:=by rfl
theorem f137r25_w:DW f137r25:=fun hr=>Brun_drawnS f137r25_s hr
theorem f137r25_u:DU f137r25 f137q25:=fun _ _ _ _ _=>rfl
def f137c:ACode :=
 .seq (zr f137r0 [0,1,4] 1)
 (.seq (zr f137r1 [0,1,4,5] 1)
 (.seq (zr f137r2 [0,1,4,5,6] 0)
 (.seq (.seq (zr f137r3 [0,1,4,5,6,7] 0)
 (.block 0 (.loop f137l4)))
 (.seq (.region true f137r25 [4,5] 0)
 (.seq (zr f137r26 [4] 0)
 (.ret))))))
def f137:AFn:=⟨2,141,[.cell 4 true 4],f137c,1,none⟩
def f137k:=kI [0,1,2,3,4,6,7,8,9,10,11,18,19,20,15,17,23,24,12,13,14,21,16,22,5,25,26] f137c
def f137v:List Nat:=[78,77,115,114]
def f138r0:LO:=[zo 4 (.alloc false [(.int .i64 0),(.int .i64 0),(.is [] .nil),(.bool false)]) 0]
def f138r1:LO:=[zo 9 (.build [(.int .i64 0),(.int .i64 0),(.is [] .nil),(.bool false)] [(1,1,(.c (.int .i64 1))),(3,1,(.c (.bool true))),(0,1,(.c (.int .i64 1)))]) 0,zo 5 (.alloc false [(.int .i64 0),(.int .i64 0),(.is [] .nil),(.bool false)]) 0,⟨none,.store 4 (.t 5) (.t 9),none,1,3⟩]
def f138r2:LO:=[zo 6 (.move (.c (.int .i64 0))) 0]
def f138r3:LO:=[zm 10 6 0,zm 11 0 0,zo 12 (.len 1 (.t 11)) 2,zo 13 (.bin .lss (.t 10) (.t 12)) 7]
def f138r4:LO:=[zm 16 1 0,zm 17 0 0,zm 18 6 0,zo 19 (.idxAddr 3 (.t 17) (.t 18)) 6,zf 20 1 19 14,zl 21 20 30,zo 22 (.idxAddr 4 (.t 16) (.t 21)) 63,zo 23 (.load true 4 (.t 22)) 127,zo 7 (.alloc false [(.int .i64 0),(.int .i64 0),(.is [] .nil),(.bool false)]) 0,⟨none,.store 4 (.t 7) (.t 23),none,1,511⟩]
def f138r5:LO:=[zf 24 3 5 0,zl 25 24 1,zm 26 25 3,zh 27 (.fieldAddr 3 (.t 7)) 26 true 7,zh 28 (.load false 1 (.t 27)) 26 true 15,za 29 26 28 31,zf 30 3 5 63,zn (.store 1 (.t 30) (.t 29)) 127]
def f138r6:LO:=[zm 31 0 0,zm 32 6 0,zo 33 (.idxAddr 3 (.t 31) (.t 32)) 3,zf 34 2 33 7,zl 35 34 15,zm 8 35 31]
def f138r7:LO:=[zm 36 8 0,zo 37 (.bin .eql (.t 36) (.c (.int .i64 0))) 1]
def f138r8:LO:=[zf 38 2 5 0,zl 39 38 1,zm 40 6 0,zm 41 0 0,zm 42 6 0,zo 43 (.idxAddr 3 (.t 41) (.t 42)) 24,zf 44 1 43 56,zl 45 44 120,zm 46 8 0,zo 47 (.max (.c (.int .i64 0)) (.t 46)) 256,zo 48 (.build (List.replicate 5 (.int .i64 0)) [(0,1,(.t 40)),(1,1,(.t 45)),(4,1,(.t 47))]) 1020,zo 49 (.buildSlice true 5 1 (List.replicate 5 (.int .i64 0)) [(0,5,(.t 48))]) 2044,zo 50 (.append true 5 40 (.t 39) (.t 49)) 4095,⟨some 51,.fieldAddr 2 (.t 5),none,1,8191⟩,⟨none,.store 1 (.t 51) (.t 50),none,1,16383⟩]
def f138r9:LO:=[zm 52 8 0,zo 53 (.bin .lss (.t 52) (.c (.int .i64 0))) 1]
def f138r10:LO:=[zf 54 0 5 0,zl 55 54 1,zf 56 0 7 0,zl 57 56 4,zo 58 (.max (.t 55) (.t 57)) 15,zf 59 0 5 31,zn (.store 1 (.t 59) (.t 58)) 63]
def f138q11:LO:=[zf 60 0 5 0,zl 61 60 1,zm 62 8 0,zo 63 (.call (.c (.fn 149 [] [])) [(.t 62),(.c (.int .i64 8))]) 4,zo 64 (.bin .quo (.t 63) (.c (.int .i64 8))) 12,zo 65 (.max (.t 61) (.t 64)) 31,zf 66 0 5 63,zn (.store 1 (.t 66) (.t 65)) 127]
def f138r11:LO:=f138q11
def f138r12:LO:=[zm 67 8 0,zo 68 (.bin .lss (.t 67) (.c (.int .i64 0))) 1,zm 69 68 3,zg 70 0 69 false 7,zg 71 6 69 false 7,zh 72 (.idxAddr 3 (.t 70) (.t 71)) 69 false 31,zh 73 (.fieldAddr 0 (.t 72)) 69 false 63,zh 74 (.load false 1 (.t 73)) 69 false 127,zh 75 (.bin .neq (.t 74) (.c (.str []))) 69 false 255,zq 76 69 75 511]
def f138r13:LO:=[zf 77 1 5 0,zl 78 77 1,zf 79 1 7 0,zl 80 79 4,zo 81 (.max (.t 78) (.t 80)) 15,zf 82 1 5 31,zn (.store 1 (.t 82) (.t 81)) 63]
def f138r14:LO:=[zm 14 6 0,zo 15 (.bin .add (.t 14) (.c (.int .i64 1))) 1,zm 6 15 3]
def f138m3:ACode :=
 .seq (.seq (zr f138r3 [0,1,4,5,6,13] 0)
 (.cond (.t 13)
  (.skip)
  (.exit 0)))
 (.seq (.block 1 (.seq (zr f138r4 [0,1,4,5,6,7] 1)
  (.seq (zr f138r5 [0,1,4,5,6,7] 0)
  (.seq (zr f138r6 [0,1,4,5,6,7,8] 0)
  (.seq (.seq (zr f138r7 [0,1,4,5,6,7,8,37] 0)
  (.cond (.t 37)
   (.exit 1)
   (.skip)))
  (.seq (.region true f138r8 [0,1,4,5,6,7,8] 1)
  (.seq (.seq (zr f138r9 [0,1,4,5,6,7,8,53] 0)
  (.cond (.t 53)
   (zr f138r10 [0,1,4,5,6,7,8] 0)
   (.region true f138r11 [0,1,4,5,6,7,8] 0)))
  (.seq (zr f138r12 [0,1,4,5,6,7,76] 0)
  (.cond (.t 76)
   (zr f138r13 [0,1,4,5,6] 0)
   (.skip))))))))))
 (zr f138r14 [0,1,4,5,6] 0))
def f138l3:ACode:=f138m3
theorem f138l3_b:DB f138l3 f138m3:=rfl
def f138r15:LO:=[zf 83 0 5 0,zl 84 83 1,zf 85 1 5 0,zl 86 85 4,zo 87 (.call (.c (.fn 149 [] [])) [(.t 84),(.t 86)]) 15,zf 88 0 5 31,zn (.store 1 (.t 88) (.t 87)) 63]
def f138r16:LO:=[zo 89 (.load true 4 (.t 5)) 0,zn (.store 4 (.t 4) (.t 89)) 1]
theorem f138r11_s:staticOK 0 f138r11=true:=by rfl
theorem f138r11_w:DW f138r11:=fun hr=>Brun_drawnS f138r11_s hr
theorem f138r11_u:DU f138r11 f138q11:=fun _ _ _ _ _=>rfl
def f138c:ACode :=
 .seq (zr f138r0 [0,1,4] 1)
 (.seq (zr f138r1 [0,1,4,5] 1)
 (.seq (.seq (zr f138r2 [0,1,4,5,6] 0)
 (.block 0 (.loop f138l3)))
 (.seq (zr f138r15 [4,5] 0)
 (.seq (zr f138r16 [4] 0)
 (.ret)))))
def f138:AFn:=⟨2,90,[.cell 4 true 4],f138c,1,none⟩
def f138k:=kI [0,1,2,3,5,6,7,8,9,10,12,11,13,14,4,15,16] f138c
def f138v:List Nat:=[50,49]
def f139r0:LO:=[zo 2 (.move (.c (.bool false))) 0]
def f139r1:LO:=[zm 3 0 0,zo 4 (.bin .geq (.t 3) (.c (.int .u8 97))) 1,zm 5 4 3,zg 6 0 5 true 7,zh 7 (.bin .leq (.t 6) (.c (.int .u8 122))) 5 true 15,za 8 5 7 31,zm 9 8 63,zg 10 0 9 false 127,zh 11 (.bin .geq (.t 10) (.c (.int .u8 65))) 9 false 255,zg 12 11 9 false 511,zg 13 0 12 true 1023,zh 14 (.bin .leq (.t 13) (.c (.int .u8 90))) 12 true 2047,zh 15 (.pick (.t 12) (.t 14) (.c (.bool false))) 9 false 4095,zq 16 9 15 8191,zm 17 16 16383,zg 18 0 17 false 32767,zh 19 (.bin .eql (.t 18) (.c (.int .u8 95))) 17 false 65535,zq 20 17 19 131071,zm 2 20 262143]
def f139c:ACode :=
 .seq (zr f139r0 [0] 0)
 (.seq (zr f139r1 [2] 0)
 (.ret))
def f139:AFn:=⟨1,21,[.tmp 2],f139c,1,none⟩
def f139k:=kA f139c
def f139v:List Nat:=[]
def f140r0:LO:=[zo 6 (.move (.c (.bool false))) 0]
def f140r1:LO:=[zm 8 2 0,zo 9 (.bin .eql (.t 8) (.c (.int .i64 (-1)))) 1]
def f140r2:LO:=[zo 6 (.move (.c (.bool true))) 0]
def f140r3:LO:=[zm 10 0 0,zm 11 1 0,zo 12 (.call (.c (.fn 10 [] [])) [(.t 10),(.t 11)]) 3,zo 13 (.call (.c (.fn 102 [] [])) [(.t 12)]) 7,zo 14 (.bin .mul (.c (.int .i64 8)) (.t 13)) 15,zm 7 14 31]
def f140r4:LO:=[zm 15 0 0,zm 16 1 0,zo 17 (.call (.c (.fn 10 [] [])) [(.t 15),(.t 16)]) 3,zo 18 (.bin .eql (.t 17) (.c (.int .i64 2))) 7]
def f140r5:LO:=[zo 7 (.move (.c (.int .i64 1))) 0]
def f140r6:LO:=[zm 19 0 0,zm 20 1 0,zo 21 (.call (.c (.fn 11 [] [])) [(.t 19),(.t 20)]) 3,zm 22 21 7,zg 23 2 22 true 15,zh 24 (.bin .geq (.t 23) (.c (.int .i64 0))) 22 true 31,za 25 22 24 63,zm 26 25 127,zg 27 2 26 true 255,zg 28 7 26 true 255,zh 29 (.bin .leq (.t 27) (.t 28)) 26 true 1023,za 30 26 29 2047,zm 6 30 4095]
def f140c:ACode :=
 .seq (zr f140r0 [0,1,2] 0)
 (.seq (.seq (zr f140r1 [0,1,2,9] 0)
 (.cond (.t 9)
  (.seq (zr f140r2 [6] 0)
  (.ret))
  (.skip)))
 (.seq (zr f140r3 [0,1,2,7] 0)
 (.seq (.seq (zr f140r4 [0,1,2,7,18] 0)
 (.cond (.t 18)
  (zr f140r5 [0,1,2,7] 0)
  (.skip)))
 (.seq (zr f140r6 [6] 0)
 (.ret)))))
def f140:AFn:=⟨3,31,[.tmp 6],f140c,1,none⟩
def f140k:=kA f140c
def f140v:List Nat:=[]
def f141r0:LO:=[zo 4 (.move (.c (.str []))) 0,zo 5 (.move (.c (.bool false))) 1]
def f141r1:LO:=[zm 6 0 0,zm 7 1 0,zo 8 (.call (.c (.fn 150 [] [])) [(.t 6),(.t 7)]) 3,zo 9 (.un .not (.t 8)) 7]
def f141r2:LO:=[zm 10 0 0,zm 4 10 1,zo 5 (.move (.c (.bool false))) 3]
def f141r3:LO:=[zm 11 0 0,zm 12 1 0,zo 13 (.len 0 (.t 12)) 2,zo 14 (.strSlice (.t 11) (some (.t 13)) none) 7,zm 4 14 15,zo 5 (.move (.c (.bool true))) 31]
def f141c:ACode :=
 .seq (zr f141r0 [0,1] 0)
 (.seq (.seq (zr f141r1 [0,1,9] 0)
 (.cond (.t 9)
  (.seq (zr f141r2 [4,5] 0)
  (.ret))
  (.skip)))
 (.seq (zr f141r3 [4,5] 0)
 (.ret)))
def f141:AFn:=⟨2,15,[.tmp 4,.tmp 5],f141c,1,none⟩
def f141k:=kA f141c
def f141v:List Nat:=[]
def f149r0:LO:=[zo 4 (.move (.c (.int .i64 0))) 0]
def f149r1:LO:=[zm 5 0 0,zm 6 1 0,zo 7 (.bin .add (.t 5) (.t 6)) 3,zo 8 (.bin .sub (.t 7) (.c (.int .i64 1))) 7,zm 9 1 0,zo 10 (.bin .quo (.t 8) (.t 9)) 31,zm 11 1 0,zo 12 (.bin .mul (.t 10) (.t 11)) 127,zm 4 12 255]
def f149c:ACode :=
 .seq (zr f149r0 [0,1] 0)
 (.seq (zr f149r1 [4] 0)
 (.ret))
def f149:AFn:=⟨2,13,[.tmp 4],f149c,1,none⟩
def f149k:=kA f149c
def f149v:List Nat:=[]
def f150r0:LO:=[zo 4 (.move (.c (.bool false))) 0]
def f150r1:LO:=[zm 5 0 0,zo 6 (.len 0 (.t 5)) 1,zm 7 1 0,zo 8 (.len 0 (.t 7)) 4,zo 9 (.bin .geq (.t 6) (.t 8)) 15,zm 10 9 31,zg 11 0 10 true 63,zg 12 1 10 true 63,zh 13 (.len 0 (.t 12)) 10 true 191,zh 14 (.strSlice (.t 11) none (some (.t 13))) 10 true 511,zg 15 1 10 true 63,zh 16 (.bin .eql (.t 14) (.t 15)) 10 true 2047,za 17 10 16 4095,zm 4 17 8191]
def f150c:ACode :=
 .seq (zr f150r0 [0,1] 0)
 (.seq (zr f150r1 [4] 0)
 (.ret))
def f150:AFn:=⟨2,18,[.tmp 4],f150c,1,none⟩
def f150k:=kA f150c
def f150v:List Nat:=[]
end Go.Proofs.YtfhijkapcdmdnaaGreatDoor
