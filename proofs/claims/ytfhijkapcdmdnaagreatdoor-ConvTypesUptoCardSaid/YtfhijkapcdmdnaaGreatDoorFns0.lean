/- The seat's functions as the machine's, part 0. Printed by a program. -/
import Derived.Test.YtfhijkapcdmdnaaGreatDoorLib
namespace Go.Proofs.YtfhijkapcdmdnaaGreatDoor
open Go.AM
set_option maxRecDepth 100000
@[reducible,simp] def zm (d x p:Nat):AOper:=⟨some d,.move (.t x),none,0,p⟩
@[reducible,simp] def zo (d:Nat) (o:AOp) (p:Nat):AOper:=⟨some d,o,none,0,p⟩
@[reducible,simp] def zn (o:AOp) (p:Nat):AOper:=⟨none,o,none,0,p⟩
@[reducible,simp] def zg (d x g:Nat) (b:Bool) (p:Nat):AOper:=⟨some d,.move (.t x),some (g,b),0,p⟩
@[reducible,simp] def zh (d:Nat) (o:AOp) (g:Nat) (b:Bool) (p:Nat):AOper:=⟨some d,o,some (g,b),0,p⟩
@[reducible,simp] def za (d t u p:Nat):AOper:=⟨some d,.pick (.t t) (.t u) (.c (.bool false)),none,0,p⟩
@[reducible,simp] def zq (d t u p:Nat):AOper:=⟨some d,.pick (.t t) (.c (.bool true)) (.t u),none,0,p⟩
@[reducible,simp] def ze (d x i p:Nat):AOper:=⟨some d,.extract (.t x) i,none,0,p⟩
@[reducible,simp] def zl (d x p:Nat):AOper:=⟨some d,.load false 1 (.t x),none,0,p⟩
@[reducible,simp] def zf (d i x p:Nat):AOper:=⟨some d,.fieldAddr i (.t x),none,0,p⟩
@[reducible,simp] def zr (r:List AOper) (k:List Nat) (n:Nat):ACode:=.region false r k n
abbrev LO:=List AOper
def kL:ACode→List (List Nat)
 | .region _ _ k _=>[k]
 | .seq a b=>kL a++kL b
 | .cond _ a b=>kL a++kL b
 | .block _ b=>kL b
 | .loop b=>kL b
 | _=>[]
def kI (i:List Nat) (c:ACode):List (Nat × List Nat):=i.zip (kL c)
def kA (c:ACode):List (Nat × List Nat):=kI (List.range (kL c).length) c
abbrev DW (r:LO):Prop:=∀ {A:Tab} {nt:Nat} {keep:List Nat} {n:Nat} {e:Env} {h:Heap},(bkeep keep (stepsF nt (stepF A true) h.length r e (h++List.replicate n .free))).isSome=true→Brun A nt (.region true r keep n) e h=bkeep keep (stepsF nt (stepF A true) h.length r e (h++List.replicate n .free))
abbrev DU (r q:LO):Prop:=∀ (nt base:Nat) (step:Nat→AOp→Env→Heap→Option (AV × Heap)) (e:Env) (h:Heap),stepsF nt step base r e h=stepsF nt step base q e h
abbrev DB (l m:ACode):Prop:=∀ {A:Tab} {nt:Nat} {e:Env} {h:Heap},Brun A nt l e h=Brun A nt m e h
def f4r0:LO:=[zo 8 (.move (.c (.bool false))) 0]
def f4r1:LO:=[zm 25 0 0,zo 26 (.call (.c (.fn 6 [] [])) [(.t 25)]) 1,zm 24 26 3,ze 27 24 0 7,ze 28 24 1 7,ze 29 24 2 7,zm 9 27 15,zm 10 28 95,zm 11 29 255]
def f4r2:LO:=[zm 30 11 0,zo 31 (.un .not (.t 30)) 1]
def f4r3:LO:=[zo 32 (.call (.c (.fn 8 [] [])) []) 0,zm 8 32 1]
def f4r4:LO:=[zm 34 9 0,zm 35 1 0,zm 36 2 0,zm 37 3 0,zo 38 (.call (.c (.fn 17 [] [])) [(.t 34),(.t 35),(.t 36),(.t 37)]) 15,zm 33 38 31,ze 39 33 0 63,ze 40 33 1 63,zo 12 (.alloc false (List.replicate 5 (.int .i64 0))) 0,⟨none,.store 5 (.t 12) (.t 39),none,1,383⟩,⟨some 13,.move (.t 40),none,1,1023⟩]
def f4r5:LO:=[zm 42 10 0,zm 43 1 0,zm 44 2 0,zm 45 3 0,zo 46 (.call (.c (.fn 18 [] [])) [(.t 42),(.t 43),(.t 44),(.t 45)]) 15,zm 41 46 31,ze 47 41 0 63,ze 48 41 1 63,zo 14 (.alloc false (List.replicate 5 (.int .i64 0))) 0,⟨none,.store 5 (.t 14) (.t 47),none,1,383⟩,⟨some 15,.move (.t 48),none,1,1023⟩]
def f4r6:LO:=[zm 50 9 0,zm 51 1 0,zm 52 2 0,zo 53 (.call (.c (.fn 19 [] [])) [(.t 50),(.t 51),(.t 52)]) 7,zm 49 53 15,ze 54 49 0 31,ze 55 49 1 31,zm 16 54 63,zm 17 55 255]
def f4r7:LO:=[zm 57 10 0,zm 58 1 0,zm 59 2 0,zo 60 (.call (.c (.fn 20 [] [])) [(.t 57),(.t 58),(.t 59)]) 7,zm 56 60 15,ze 61 56 0 31,ze 62 56 1 31,zm 18 61 63,zm 19 62 255]
def f4r8:LO:=[zm 64 9 0,zm 65 2 0,zm 66 3 0,zo 67 (.call (.c (.fn 21 [] [])) [(.t 64),(.t 65),(.t 66)]) 7,zm 63 67 15,ze 68 63 0 31,ze 69 63 1 31,zm 20 68 63,zm 21 69 255]
def f4r9:LO:=[zm 71 10 0,zm 72 2 0,zm 73 3 0,zo 74 (.call (.c (.fn 22 [] [])) [(.t 71),(.t 72),(.t 73)]) 7,zm 70 74 15,ze 75 70 0 31,ze 76 70 1 31,zm 22 75 63,zm 23 76 255]
def f4r10:LO:=[zo 77 (.load true 5 (.t 12)) 0,zo 78 (.load true 5 (.t 14)) 0,zo 79 (.eq false (.agg [.int .i64,.int .i64,.int .i64,.int .i64,.int .i64]) (.t 77) (.t 78)) 3,zm 80 79 7,zg 81 13 80 true 15,zg 82 15 80 true 15,zh 83 (.bin .eql (.t 81) (.t 82)) 80 true 63,za 84 80 83 127,zm 85 84 255,zg 86 16 85 true 511,zg 87 18 85 true 511,zh 88 (.bin .eql (.t 86) (.t 87)) 85 true 2047,za 89 85 88 4095,zm 90 89 8191,zg 91 17 90 true 16383,zg 92 19 90 true 16383,zh 93 (.bin .eql (.t 91) (.t 92)) 90 true 65535,za 94 90 93 131071,zm 95 94 262143,zg 96 20 95 true 524287,zg 97 22 95 true 524287,zh 98 (.bin .eql (.t 96) (.t 97)) 95 true 2097151,za 99 95 98 4194303,zm 100 99 8388607,zg 101 21 100 true 16777215,zg 102 23 100 true 16777215,zh 103 (.bin .eql (.t 101) (.t 102)) 100 true 67108863,za 104 100 103 134217727,zm 105 104 268435455,zg 106 9 105 true 536870911,zg 107 2 105 true 536870911,zg 108 3 105 true 536870911,zh 109 (.call (.c (.fn 14 [] [])) [(.t 106),(.t 107),(.t 108)]) 105 true 4294967295,zg 110 10 105 true 536870911,zg 111 2 105 true 536870911,zg 112 3 105 true 536870911,zh 113 (.call (.c (.fn 23 [] [])) [(.t 110),(.t 111),(.t 112)]) 105 true 68719476735,zh 114 (.bin .eql (.t 109) (.t 113)) 105 true 137438953471,za 115 105 114 274877906943,zm 116 115 549755813887,zg 117 9 116 true 1099511627775,zg 118 2 116 true 1099511627775,zg 119 3 116 true 1099511627775,zh 120 (.call (.c (.fn 15 [] [])) [(.t 117),(.t 118),(.t 119)]) 116 true 8796093022207,zg 121 10 116 true 1099511627775,zg 122 2 116 true 1099511627775,zg 123 3 116 true 1099511627775,zh 124 (.call (.c (.fn 24 [] [])) [(.t 121),(.t 122),(.t 123)]) 116 true 140737488355327,zh 125 (.bin .eql (.t 120) (.t 124)) 116 true 281474976710655,za 126 116 125 562949953421311,zm 127 126 1125899906842623,zg 128 9 127 true 2251799813685247,zg 129 10 127 true 2251799813685247,zh 130 (.call (.c (.fn 25 [] [])) [(.t 128),(.t 129)]) 127 true 9007199254740991,za 131 127 130 18014398509481983,zm 132 131 36028797018963967,zh 133 (.call (.c (.fn 8 [] [])) []) 132 true 72057594037927935,za 134 132 133 144115188075855871,zm 8 134 288230376151711743]
def f4c:ACode :=
 .seq (zr f4r0 [0,1,2,3] 0)
 (.seq (zr f4r1 [1,2,3,9,10,11] 0)
 (.seq (.seq (zr f4r2 [1,2,3,9,10,31] 0)
 (.cond (.t 31)
  (.seq (zr f4r3 [8] 0)
  (.ret))
  (.skip)))
 (.seq (zr f4r4 [1,2,3,9,10,12,13] 1)
 (.seq (zr f4r5 [1,2,3,9,10,12,13,14,15] 1)
 (.seq (zr f4r6 [1,2,3,9,10,12,13,14,15,16,17] 0)
 (.seq (zr f4r7 [2,3,9,10,12,13,14,15,16,17,18,19] 0)
 (.seq (zr f4r8 [2,3,9,10,12,13,14,15,16,17,18,19,20,21] 0)
 (.seq (zr f4r9 [2,3,9,10,12,13,14,15,16,17,18,19,20,21,22,23] 0)
 (.seq (zr f4r10 [8] 0)
 (.ret))))))))))
def f4:AFn:=⟨4,135,[.tmp 8],f4c,1,none⟩
def f4k:=kA f4c
def f4v:List Nat:=[]
def f6r0:LO:=[zo 2 (.move (.c .nilp)) 0,zo 3 (.move (.c .nilp)) 1,zo 4 (.move (.c (.bool false))) 3]
def f6r1:LO:=[zm 10 0 0,zo 11 (.call (.c (.fn 32 [] [])) [(.t 10)]) 1,zm 9 11 3,ze 12 9 0 7,ze 13 9 1 7,zm 5 12 15,zm 6 13 63]
def f6r2:LO:=[zm 14 6 0,zo 15 (.bin .neq (.t 14) (.c (.int .i64 0))) 1]
def f6r3:LO:=[zo 2 (.move (.c .nilp)) 0,zo 3 (.move (.c .nilp)) 1,zo 4 (.move (.c (.bool false))) 3]
def f6r4:LO:=[zm 17 0 0,zo 18 (.build [(.is [] .nil)] [(0,1,(.t 17))]) 1,zo 19 (.box false (.t 18)) 3,⟨some 20,.call (.c (.fn 34 [] [])) [(.t 19)],none,1,7⟩,⟨some 21,.nilCheck (.t 20),none,1,15⟩,⟨some 22,.fieldAddr 0 (.t 21),none,1,31⟩,⟨some 23,.load false 1 (.t 22),none,1,63⟩,⟨some 24,.call (.c (.fn 33 [] [])) [(.t 23)],none,1,127⟩,⟨some 16,.move (.t 24),none,1,255⟩,⟨some 25,.extract (.t 16) 0,none,1,511⟩,⟨some 26,.extract (.t 16) 1,none,1,511⟩,⟨some 7,.move (.t 25),none,1,1023⟩,⟨some 8,.move (.t 26),none,1,4095⟩]
def f6r5:LO:=[zm 27 7 0,zm 28 5 0,zm 2 27 1,zm 3 28 7,zo 4 (.move (.c (.bool true))) 15]
def f6c:ACode :=
 .seq (zr f6r0 [0] 0)
 (.seq (zr f6r1 [0,5,6] 0)
 (.seq (.seq (zr f6r2 [0,5,15] 0)
 (.cond (.t 15)
  (.seq (zr f6r3 [2,3,4] 0)
  (.ret))
  (.skip)))
 (.seq (zr f6r4 [5,7] 1)
 (.seq (zr f6r5 [2,3,4] 0)
 (.ret)))))
def f6:AFn:=⟨1,29,[.tmp 2,.tmp 3,.tmp 4],f6c,0,none⟩
def f6k:=kA f6c
def f6v:List Nat:=[]
def f7r0:LO:=[zo 4 (.move (.c (.bool false))) 0]
def f7r1:LO:=[zm 5 1 0,zo 6 (.bin .geq (.t 5) (.c (.int .i64 0))) 1,zm 7 6 3,zg 8 1 7 true 7,zg 9 0 7 true 7,zh 10 (.nilCheck (.t 9)) 7 true 23,zh 11 (.fieldAddr 0 (.t 10)) 7 true 55,zh 12 (.load false 1 (.t 11)) 7 true 119,zh 13 (.len 1 (.t 12)) 7 true 247,zh 14 (.bin .lss (.t 8) (.t 13)) 7 true 511,za 15 7 14 1023,zm 4 15 2047]
def f7c:ACode :=
 .seq (zr f7r0 [0,1] 0)
 (.seq (zr f7r1 [4] 0)
 (.ret))
def f7:AFn:=⟨2,16,[.tmp 4],f7c,1,none⟩
def f7k:=kA f7c
def f7v:List Nat:=[]
def f8r0:LO:=[zo 0 (.move (.c (.bool false))) 0]
def f8r1:LO:=[zo 22 (.call (.c (.fn 35 [] [])) []) 0,zm 1 22 1]
def f8r2:LO:=[zm 24 1 0,zo 25 (.call (.c (.fn 36 [] [])) [(.t 24),(.c (.int .i64 7))]) 1,zm 23 25 3,ze 26 23 0 7,ze 27 23 1 7,zm 2 26 15,zm 3 27 63]
def f8r3:LO:=[zm 29 1 0,zo 30 (.call (.c (.fn 36 [] [])) [(.t 29),(.c (.int .i64 2))]) 1,zm 28 30 3,ze 31 28 0 7,ze 32 28 1 7,zm 4 31 15,zm 5 32 63]
def f8r4:LO:=[zo 34 (.call (.c (.fn 9 [] [])) [(.c (.int .i64 10)),(.c (.int .i64 9))]) 0,zm 33 34 1,ze 35 33 0 3,ze 36 33 1 3,zm 6 35 7,zm 7 36 31]
def f8r5:LO:=[zm 38 1 0,zm 39 2 0,zo 40 (.call (.c (.fn 17 [] [])) [(.t 38),(.c (.str [43])),(.t 39),(.c (.int .i64 2))]) 3,zm 37 40 7,ze 41 37 0 15,ze 42 37 1 15,zo 8 (.alloc false (List.replicate 5 (.int .i64 0))) 0,⟨none,.store 5 (.t 8) (.t 41),none,1,95⟩,⟨some 9,.move (.t 42),none,1,255⟩]
def f8r6:LO:=[zm 44 1 0,zo 45 (.call (.c (.fn 17 [] [])) [(.t 44),(.c (.str [60])),(.c (.int .i64 8)),(.c (.int .i64 7))]) 1,zm 43 45 3,ze 46 43 0 7,ze 47 43 1 7,zo 10 (.alloc false (List.replicate 5 (.int .i64 0))) 0,⟨none,.store 5 (.t 10) (.t 46),none,1,47⟩,⟨some 11,.move (.t 47),none,1,127⟩]
def f8r7:LO:=[zm 49 1 0,zm 50 2 0,zm 51 4 0,zo 52 (.call (.c (.fn 17 [] [])) [(.t 49),(.c (.str [45])),(.t 50),(.t 51)]) 7,zm 48 52 15,ze 53 48 0 31,ze 54 48 1 31,zo 12 (.alloc false (List.replicate 5 (.int .i64 0))) 0,⟨none,.store 5 (.t 12) (.t 53),none,1,191⟩,⟨some 13,.move (.t 54),none,1,511⟩]
def f8r8:LO:=[zo 56 (.call (.c (.fn 37 [] [])) [(.c (.int .i64 5)),(.c (.int .i64 1)),(.c (.int .u32 250)),(.c (.int .u32 10))]) 0,zm 55 56 1,ze 57 55 0 3,ze 58 55 1 3,zm 14 57 7,zm 15 58 31]
def f8r9:LO:=[zo 60 (.call (.c (.fn 37 [] [])) [(.c (.int .i64 8)),(.c (.int .i64 4)),(.c (.int .u32 1)),(.c (.int .u32 0))]) 0,zm 59 60 1,ze 61 59 0 3,ze 62 59 1 3,zm 16 61 7,zm 17 62 31]
def f8r10:LO:=[zm 64 1 0,zm 65 2 0,zo 66 (.call (.c (.fn 19 [] [])) [(.t 64),(.c (.str [33])),(.t 65)]) 3,zm 63 66 7,ze 67 63 0 15,ze 68 63 1 15,zm 18 67 31,zm 19 68 127]
def f8r11:LO:=[zm 70 1 0,zo 71 (.call (.c (.fn 21 [] [])) [(.t 70),(.c (.int .i64 2)),(.c (.int .i64 8))]) 1,zm 69 71 3,ze 72 69 0 7,ze 73 69 1 7,zm 20 72 15,zm 21 73 63]
def f8r12:LO:=[zm 74 6 0,zo 75 (.bin .eql (.t 74) (.c (.int .i64 11))) 1,zm 76 75 3,zg 77 7 76 true 7,zh 78 (.bin .eql (.t 77) (.c (.int .i64 0))) 76 true 15,za 79 76 78 31,zm 80 79 63,zg 81 9 80 true 127,zh 82 (.bin .eql (.t 81) (.c (.int .i64 0))) 80 true 255,za 83 80 82 511,zm 84 83 1023,zh 85 (.load true 5 (.t 8)) 84 true 2047,zg 86 2 84 true 2047,zg 87 2 84 true 2047,zh 88 (.build (List.replicate 5 (.int .i64 0)) [(0,1,(.c (.int .i64 1))),(1,1,(.t 86)),(2,1,(.c (.int .i64 7))),(3,1,(.t 87)),(4,1,(.c (.int .i64 4)))]) 84 true 14335,zh 89 (.eq false (.agg [.int .i64,.int .i64,.int .i64,.int .i64,.int .i64]) (.t 85) (.t 88)) 84 true 32767,za 90 84 89 65535,zm 91 90 131071,zg 92 11 91 true 262143,zh 93 (.bin .eql (.t 92) (.c (.int .i64 0))) 91 true 524287,za 94 91 93 1048575,zm 95 94 2097151,zh 96 (.load true 5 (.t 10)) 95 true 4194303,zh 97 (.build (List.replicate 5 (.int .i64 0)) [(0,1,(.c (.int .i64 17))),(1,1,(.c (.int .i64 8))),(2,1,(.c (.int .i64 8))),(3,1,(.c (.int .i64 7)))]) 95 true 4194303,zh 98 (.eq false (.agg [.int .i64,.int .i64,.int .i64,.int .i64,.int .i64]) (.t 96) (.t 97)) 95 true 16777215,za 99 95 98 33554431,zm 100 99 67108863,zg 101 13 100 true 134217727,zh 102 (.bin .eql (.t 101) (.c (.int .i64 70))) 100 true 268435455,za 103 100 102 536870911,zm 104 103 1073741823,zg 105 14 104 true 2147483647,zh 106 (.bin .eql (.t 105) (.c (.int .u32 4))) 104 true 4294967295,za 107 104 106 8589934591,zm 108 107 17179869183,zg 109 15 108 true 34359738367,zh 110 (.bin .eql (.t 109) (.c (.int .i64 0))) 108 true 68719476735,za 111 108 110 137438953471,zm 112 111 274877906943,zg 113 17 112 true 549755813887,zh 114 (.bin .eql (.t 113) (.c (.int .i64 71))) 112 true 1099511627775,za 115 112 114 2199023255551,zm 116 115 4398046511103,zg 117 18 116 true 8796093022207,zh 118 (.bin .eql (.t 117) (.c (.int .i64 7))) 116 true 17592186044415,za 119 116 118 35184372088831,zm 120 119 70368744177663,zg 121 19 120 true 140737488355327,zh 122 (.bin .eql (.t 121) (.c (.int .i64 0))) 120 true 281474976710655,za 123 120 122 562949953421311,zm 124 123 1125899906842623,zg 125 20 124 true 2251799813685247,zh 126 (.bin .eql (.t 125) (.c (.int .i64 8))) 124 true 4503599627370495,za 127 124 126 9007199254740991,zm 128 127 18014398509481983,zg 129 21 128 true 36028797018963967,zh 130 (.bin .eql (.t 129) (.c (.int .i64 0))) 128 true 72057594037927935,za 131 128 130 144115188075855871,zm 132 131 288230376151711743,zg 133 1 132 true 576460752303423487,zg 134 2 132 true 576460752303423487,zg 135 4 132 true 576460752303423487,zh 136 (.call (.c (.fn 14 [] [])) [(.t 133),(.t 134),(.t 135)]) 132 true 4611686018427387903,zh 137 (.bin .eql (.t 136) (.c (.int .i64 70))) 132 true 9223372036854775807,za 138 132 137 18446744073709551615,zm 139 138 36893488147419103231,zg 140 1 139 true 73786976294838206463,zg 141 2 139 true 73786976294838206463,zg 142 4 139 true 73786976294838206463,zh 143 (.call (.c (.fn 15 [] [])) [(.t 140),(.t 141),(.t 142)]) 139 true 590295810358705651711,zh 144 (.bin .eql (.t 143) (.c (.int .i64 0))) 139 true 1180591620717411303423,za 145 139 144 2361183241434822606847,zm 146 145 4722366482869645213695,zh 147 (.call (.c (.fn 12 [] [])) [(.c (.int .i64 9)),(.c (.int .i64 5))]) 146 true 9444732965739290427391,zh 148 (.bin .eql (.t 147) (.c (.int .i64 8))) 146 true 18889465931478580854783,za 149 146 148 37778931862957161709567,zm 0 149 75557863725914323419135]
def f8c:ACode :=
 .seq (zr f8r0 [] 0)
 (.seq (zr f8r1 [1] 0)
 (.seq (zr f8r2 [1,2] 0)
 (.seq (zr f8r3 [1,2,4] 0)
 (.seq (zr f8r4 [1,2,4,6,7] 0)
 (.seq (zr f8r5 [1,2,4,6,7,8,9] 1)
 (.seq (zr f8r6 [1,2,4,6,7,8,9,10,11] 1)
 (.seq (zr f8r7 [1,2,4,6,7,8,9,10,11,13] 1)
 (.seq (zr f8r8 [1,2,4,6,7,8,9,10,11,13,14,15] 0)
 (.seq (zr f8r9 [1,2,4,6,7,8,9,10,11,13,14,15,17] 0)
 (.seq (zr f8r10 [1,2,4,6,7,8,9,10,11,13,14,15,17,18,19] 0)
 (.seq (zr f8r11 [1,2,4,6,7,8,9,10,11,13,14,15,17,18,19,20,21] 0)
 (.seq (zr f8r12 [0] 0)
 (.ret)))))))))))))
def f8:AFn:=⟨0,150,[.tmp 0],f8c,1,none⟩
def f8k:=kA f8c
def f8v:List Nat:=[]
def f9r0:LO:=[zo 2 (.box false (.t 0)) 0,⟨some 3,.box false (.t 1),none,1,0⟩,⟨some 4,.move (.c (.int .i64 0)),none,2,0⟩,⟨some 5,.move (.c (.int .i64 0)),none,2,4⟩]
def f9r1:LO:=[zl 7 2 0,zo 8 (.call (.c (.fn 38 [] [])) [(.t 7)]) 1,zo 9 (.un .not (.t 8)) 3,zm 10 9 7,zh 11 (.load false 1 (.t 3)) 10 false 15,zh 12 (.call (.c (.fn 38 [] [])) [(.t 11)]) 10 false 31,zh 13 (.un .not (.t 12)) 10 false 63,zq 14 10 13 127]
def f9r2:LO:=[zo 4 (.move (.c (.int .i64 0))) 0,zo 5 (.move (.c (.int .i64 70))) 1]
def f9q3:LO:=[zl 15 2 0,zo 16 (.call (.c (.fn 12 [] [])) [(.t 15),(.c (.int .i64 (-1)))]) 1,zl 17 3 0,zo 18 (.call (.c (.fn 12 [] [])) [(.t 17),(.c (.int .i64 (-1)))]) 7,zn (.store 1 (.t 2) (.t 16)) 15,zn (.store 1 (.t 3) (.t 18)) 31]
def f9r3:LO:=f9q3
def f9r4:LO:=[zo 19 (.fn 39 [] [(.t 2),(.t 3)]) 0,zm 6 19 1]
def f9r5:LO:=[zm 21 6 0,zo 22 (.call (.t 21) [(.c (.int .i64 11))]) 1,zm 20 22 3]
def f9r6:LO:=[zm 23 6 0,zo 24 (.call (.t 23) [(.c (.int .i64 10))]) 1,zm 25 24 3,zg 26 6 25 true 7,zh 27 (.call (.t 26) [(.c (.int .i64 9))]) 25 true 15,za 28 25 27 31,zm 20 28 63]
def f9r7:LO:=[zo 4 (.move (.c (.int .i64 11))) 0,zo 5 (.move (.c (.int .i64 0))) 1]
def f9r8:LO:=[zm 30 6 0,zo 31 (.call (.t 30) [(.c (.int .i64 10))]) 1,zm 29 31 3]
def f9r9:LO:=[zo 4 (.move (.c (.int .i64 10))) 0,zo 5 (.move (.c (.int .i64 0))) 1]
def f9r10:LO:=[zm 33 6 0,zo 34 (.call (.t 33) [(.c (.int .i64 9))]) 1,zm 32 34 3]
def f9r11:LO:=[zo 4 (.move (.c (.int .i64 9))) 0,zo 5 (.move (.c (.int .i64 0))) 1]
def f9r12:LO:=[zo 4 (.move (.c (.int .i64 8))) 0,zo 5 (.move (.c (.int .i64 0))) 1]
theorem f9r3_s:staticOK 0 f9r3=true:=by rfl
theorem f9r3_w:DW f9r3:=fun hr=>Brun_drawnS f9r3_s hr
theorem f9r3_u:DU f9r3 f9q3:=fun _ _ _ _ _=>rfl
def f9c:ACode :=
 .seq (zr f9r0 [2,3] 2)
 (.seq (.seq (zr f9r1 [2,3,14] 0)
 (.cond (.t 14)
  (.seq (zr f9r2 [4,5] 0)
  (.ret))
  (.skip)))
 (.seq (.region true f9r3 [2,3] 0)
 (.seq (zr f9r4 [6] 0)
 (.seq (.block 0 (.seq (.seq (zr f9r5 [6,20] 0)
  (.cond (.t 20)
   (.skip)
   (zr f9r6 [6,20] 0)))
  (.cond (.t 20)
   (.seq (zr f9r7 [4,5] 0)
   (.ret))
   (.seq (zr f9r8 [6,29] 0)
   (.cond (.t 29)
    (.seq (zr f9r9 [4,5] 0)
    (.ret))
    (.seq (zr f9r10 [32] 0)
    (.cond (.t 32)
     (.seq (zr f9r11 [4,5] 0)
     (.ret))
     (.skip))))))))
 (.seq (zr f9r12 [4,5] 0)
 (.ret))))))
def f9:AFn:=⟨2,35,[.tmp 4,.tmp 5],f9c,1,none⟩
def f9k:=kI [0,1,2,3,4,5,6,11,8,9,10,7,12] f9c
def f9v:List Nat:=[]
def f10r0:LO:=[zo 4 (.move (.c (.int .i64 0))) 0]
def f10r1:LO:=[zm 5 0 0,zm 6 1 0,zo 7 (.call (.c (.fn 7 [] [])) [(.t 5),(.t 6)]) 3,zo 8 (.un .not (.t 7)) 7]
def f10r2:LO:=[zo 4 (.move (.c (.int .i64 0))) 0]
def f10r3:LO:=[zm 9 0 0,zo 10 (.nilCheck (.t 9)) 1,zf 11 0 10 3,zl 12 11 7,zm 13 1 0,zo 14 (.idxAddr 6 (.t 12) (.t 13)) 31,zf 15 0 14 63,zl 16 15 127,zm 4 16 255]
def f10c:ACode :=
 .seq (zr f10r0 [0,1] 0)
 (.seq (.seq (zr f10r1 [0,1,8] 0)
 (.cond (.t 8)
  (.seq (zr f10r2 [4] 0)
  (.ret))
  (.skip)))
 (.seq (zr f10r3 [4] 0)
 (.ret)))
def f10:AFn:=⟨2,17,[.tmp 4],f10c,1,none⟩
def f10k:=kA f10c
def f10v:List Nat:=[]
def f11r0:LO:=[zo 4 (.move (.c (.bool false))) 0]
def f11r1:LO:=[zm 6 0 0,zm 7 1 0,zo 8 (.call (.c (.fn 10 [] [])) [(.t 6),(.t 7)]) 3,zm 5 8 7]
def f11r2:LO:=[zm 9 5 0,zo 10 (.bin .gtr (.t 9) (.c (.int .i64 1))) 1,zm 11 10 3,zg 12 5 11 true 7,zh 13 (.bin .leq (.t 12) (.c (.int .i64 12))) 11 true 15,za 14 11 13 31,zm 4 14 63]
def f11c:ACode :=
 .seq (zr f11r0 [0,1] 0)
 (.seq (zr f11r1 [5] 0)
 (.seq (zr f11r2 [4] 0)
 (.ret)))
def f11:AFn:=⟨2,15,[.tmp 4],f11c,1,none⟩
def f11k:=kA f11c
def f11v:List Nat:=[]
def f12r0:LO:=[zo 4 (.move (.c (.int .i64 0))) 0]
def f12r1:LO:=[zm 6 0 0,zo 7 (.call (.c (.fn 38 [] [])) [(.t 6)]) 1,zo 8 (.un .not (.t 7)) 3,zm 5 8 7]
def f12r2:LO:=[zm 10 1 0,zo 11 (.bin .geq (.t 10) (.c (.int .i64 0))) 1,zm 12 11 3,zg 13 1 12 true 7,zh 14 (.bin .leq (.t 13) (.c (.int .i64 31))) 12 true 15,za 15 12 14 31,zm 9 15 63]
def f12r3:LO:=[zm 16 0 0,zo 17 (.bin .leq (.t 16) (.c (.int .i64 7))) 1,zm 9 17 3]
def f12r4:LO:=[zm 18 0 0,zo 19 (.bin .eql (.t 18) (.c (.int .i64 12))) 1,zm 9 19 3]
def f12r5:LO:=[zo 4 (.move (.c (.int .i64 8))) 0]
def f12r6:LO:=[zm 20 0 0,zm 4 20 1]
def f12c:ACode :=
 .seq (zr f12r0 [0,1] 0)
 (.seq (.block 0 (.seq (zr f12r1 [0,1,5] 0)
  (.cond (.t 5)
   (.skip)
   (.seq (.seq (zr f12r2 [0,9] 0)
   (.cond (.t 9)
    (.skip)
    (.seq (zr f12r3 [0,9] 0)
    (.cond (.t 9)
     (.skip)
     (zr f12r4 [0,9] 0)))))
   (.cond (.t 9)
    (.seq (zr f12r5 [4] 0)
    (.ret))
    (.skip))))))
 (.seq (zr f12r6 [4] 0)
 (.ret)))
def f12:AFn:=⟨2,21,[.tmp 4],f12c,1,none⟩
def f12k:=kA f12c
def f12v:List Nat:=[]
def f13r0:LO:=[zo 4 (.move (.c (.bool false))) 0]
def f13r1:LO:=[zm 6 0 0,zm 7 1 0,zo 8 (.call (.c (.fn 10 [] [])) [(.t 6),(.t 7)]) 3,zm 5 8 7]
def f13r2:LO:=[zm 9 5 0,zo 10 (.bin .gtr (.t 9) (.c (.int .i64 1))) 1,zm 11 10 3,zg 12 5 11 true 7,zh 13 (.bin .leq (.t 12) (.c (.int .i64 13))) 11 true 15,za 14 11 13 31,zm 4 14 63]
def f13c:ACode :=
 .seq (zr f13r0 [0,1] 0)
 (.seq (zr f13r1 [5] 0)
 (.seq (zr f13r2 [4] 0)
 (.ret)))
def f13:AFn:=⟨2,15,[.tmp 4],f13c,1,none⟩
def f13k:=kA f13c
def f13v:List Nat:=[]
def f14r0:LO:=[zo 6 (.move (.c (.int .i64 0))) 0]
def f14r1:LO:=[zm 10 0 0,zm 11 1 0,zm 12 2 0,zo 13 (.buildSlice true 1 2 [(.int .i64 0),(.int .i64 0)] [(0,1,(.t 11)),(1,1,(.t 12))]) 6,zo 14 (.call (.c (.fn 40 [] [])) [(.t 10),(.t 13)]) 15,zm 7 14 31]
def f14r2:LO:=[zm 15 7 0,zo 16 (.bin .neq (.t 15) (.c (.int .i64 0))) 1]
def f14r3:LO:=[zm 17 7 0,zm 6 17 1]
def f14r4:LO:=[zm 18 0 0,zo 19 (.build [.nilp] [(0,1,(.t 18))]) 1,zo 8 (.alloc false [.nilp]) 0,⟨none,.store 1 (.t 8) (.t 19),none,1,7⟩]
def f14r5:LO:=[zo 20 (.load true 1 (.t 8)) 0,zm 21 1 0,zo 22 (.call (.c (.fn 41 [] [])) [(.t 20),(.t 21)]) 3,zo 9 (.alloc false [(.int .i64 0),(.int .i64 0),(.int .i64 0),(.str []),(.is [] .nil),(.bool false)]) 0,⟨none,.store 6 (.t 9) (.t 22),none,1,15⟩]
def f14r6:LO:=[zo 23 (.load true 1 (.t 8)) 0,zm 24 1 0,zo 25 (.call (.c (.fn 42 [] [])) [(.t 23),(.t 24)]) 3,zm 26 25 7,zh 27 (.load true 1 (.t 8)) 26 true 15,zg 28 2 26 true 15,zh 29 (.call (.c (.fn 42 [] [])) [(.t 27),(.t 28)]) 26 true 63,za 30 26 29 127,zm 31 30 255,zh 32 (.load true 1 (.t 8)) 31 false 511,zg 33 1 31 false 511,zg 34 2 31 false 511,zh 35 (.call (.c (.fn 43 [] [])) [(.t 32),(.t 33),(.t 34)]) 31 false 4095,zq 36 31 35 8191,zm 37 36 16383,zg 38 1 37 false 32767,zg 39 2 37 false 32767,zh 40 (.bin .eql (.t 38) (.t 39)) 37 false 131071,zg 41 40 37 false 262143,zh 42 (.fieldAddr 5 (.t 9)) 41 true 524287,zh 43 (.load false 1 (.t 42)) 41 true 1048575,zh 44 (.pick (.t 41) (.t 43) (.c (.bool false))) 37 false 2097151,zq 45 37 44 4194303]
def f14r7:LO:=[zo 6 (.move (.c (.int .i64 0))) 0]
def f14r8:LO:=[zo 6 (.move (.c (.int .i64 70))) 0]
def f14c:ACode :=
 .seq (zr f14r0 [0,1,2] 0)
 (.seq (.seq (zr f14r1 [0,1,2,7] 0)
 (.seq (zr f14r2 [0,1,2,7,16] 0)
 (.cond (.t 16)
  (.seq (zr f14r3 [6] 0)
  (.ret))
  (.skip))))
 (.seq (zr f14r4 [1,2,8] 1)
 (.seq (zr f14r5 [1,2,8,9] 1)
 (.seq (.seq (zr f14r6 [45] 0)
 (.cond (.t 45)
  (.seq (zr f14r7 [6] 0)
  (.ret))
  (.skip)))
 (.seq (zr f14r8 [6] 0)
 (.ret))))))
def f14:AFn:=⟨3,46,[.tmp 6],f14c,1,none⟩
def f14k:=kA f14c
def f14v:List Nat:=[13]
def f15r0:LO:=[zo 6 (.move (.c (.int .i64 0))) 0]
def f15r1:LO:=[zm 10 0 0,zm 11 1 0,zm 12 2 0,zo 13 (.buildSlice true 1 2 [(.int .i64 0),(.int .i64 0)] [(0,1,(.t 11)),(1,1,(.t 12))]) 6,zo 14 (.call (.c (.fn 40 [] [])) [(.t 10),(.t 13)]) 15,zm 7 14 31]
def f15r2:LO:=[zm 15 7 0,zo 16 (.bin .neq (.t 15) (.c (.int .i64 0))) 1]
def f15r3:LO:=[zm 17 7 0,zm 6 17 1]
def f15r4:LO:=[zm 18 0 0,zo 19 (.build [.nilp] [(0,1,(.t 18))]) 1,zo 8 (.alloc false [.nilp]) 0,⟨none,.store 1 (.t 8) (.t 19),none,1,7⟩]
def f15r5:LO:=[zo 20 (.load true 1 (.t 8)) 0,zm 21 1 0,zo 22 (.call (.c (.fn 44 [] [])) [(.t 20),(.t 21)]) 3,zm 9 22 7]
def f15r6:LO:=[zm 24 9 0,zo 25 (.bin .eql (.t 24) (.c (.int .i64 1))) 1,zm 23 25 3]
def f15r7:LO:=[zo 26 (.load true 1 (.t 8)) 0,zm 27 1 0,zo 28 (.call (.c (.fn 42 [] [])) [(.t 26),(.t 27)]) 3,zm 29 28 7,zh 30 (.load true 1 (.t 8)) 29 true 15,zg 31 2 29 true 15,zh 32 (.call (.c (.fn 42 [] [])) [(.t 30),(.t 31)]) 29 true 63,za 33 29 32 127,zm 23 33 255]
def f15r8:LO:=[zo 34 (.load true 1 (.t 8)) 0,zm 35 1 0,zo 36 (.call (.c (.fn 45 [] [])) [(.t 34),(.t 35)]) 3,zm 37 36 7,zh 38 (.load true 1 (.t 8)) 37 true 15,zg 39 2 37 true 15,zh 40 (.call (.c (.fn 45 [] [])) [(.t 38),(.t 39)]) 37 true 63,za 41 37 40 127,zm 23 41 255]
def f15r9:LO:=[zm 42 9 0,zo 43 (.bin .eql (.t 42) (.c (.int .i64 2))) 1,zm 44 43 3,zh 45 (.load true 1 (.t 8)) 44 true 7,zg 46 2 44 true 7,zh 47 (.call (.c (.fn 45 [] [])) [(.t 45),(.t 46)]) 44 true 31,za 48 44 47 63,zm 23 48 127]
def f15r10:LO:=[zo 6 (.move (.c (.int .i64 0))) 0]
def f15r11:LO:=[zo 6 (.move (.c (.int .i64 70))) 0]
def f15c:ACode :=
 .seq (zr f15r0 [0,1,2] 0)
 (.seq (.seq (zr f15r1 [0,1,2,7] 0)
 (.seq (zr f15r2 [0,1,2,7,16] 0)
 (.cond (.t 16)
  (.seq (zr f15r3 [6] 0)
  (.ret))
  (.skip))))
 (.seq (zr f15r4 [1,2,8] 1)
 (.seq (.seq (zr f15r5 [1,2,8,9] 0)
 (.block 0 (.seq (.seq (zr f15r6 [1,2,8,9,23] 0)
  (.cond (.t 23)
   (.skip)
   (.seq (zr f15r7 [1,2,8,9,23] 0)
   (.cond (.t 23)
    (.skip)
    (.seq (zr f15r8 [2,8,9,23] 0)
    (.cond (.t 23)
     (.skip)
     (zr f15r9 [23] 0)))))))
  (.cond (.t 23)
   (.seq (zr f15r10 [6] 0)
   (.ret))
   (.skip)))))
 (.seq (zr f15r11 [6] 0)
 (.ret)))))
def f15:AFn:=⟨3,49,[.tmp 6],f15c,1,none⟩
def f15k:=kA f15c
def f15v:List Nat:=[13]
def f16r0:LO:=[zo 4 (.move (.c (.bool false))) 0]
def f16r1:LO:=[zm 5 0 0,zm 6 1 0,zo 7 (.call (.c (.fn 10 [] [])) [(.t 5),(.t 6)]) 3,zo 8 (.bin .eql (.t 7) (.c (.int .i64 15))) 7,zm 9 8 15,zg 10 0 9 false 31,zg 11 1 9 false 31,zh 12 (.call (.c (.fn 10 [] [])) [(.t 10),(.t 11)]) 9 false 127,zh 13 (.bin .eql (.t 12) (.c (.int .i64 16))) 9 false 255,zq 14 9 13 511,zm 4 14 1023]
def f16c:ACode :=
 .seq (zr f16r0 [0,1] 0)
 (.seq (zr f16r1 [4] 0)
 (.ret))
def f16:AFn:=⟨2,15,[.tmp 4],f16c,1,none⟩
def f16k:=kA f16c
def f16v:List Nat:=[]
def f17r0:LO:=[zo 8 (.alloc false (List.replicate 5 (.int .i64 0))) 0,⟨some 9,.move (.c (.int .i64 0)),none,1,0⟩]
def f17r1:LO:=[zm 13 0 0,zm 14 2 0,zm 15 3 0,zo 16 (.buildSlice true 1 2 [(.int .i64 0),(.int .i64 0)] [(0,1,(.t 14)),(1,1,(.t 15))]) 6,zo 17 (.call (.c (.fn 40 [] [])) [(.t 13),(.t 16)]) 15,zm 10 17 31]
def f17r2:LO:=[zm 18 10 0,zo 19 (.bin .neq (.t 18) (.c (.int .i64 0))) 1]
def f17r3:LO:=[zo 20 (.build (List.replicate 5 (.int .i64 0)) []) 0,zm 21 10 0,zn (.store 5 (.t 8) (.t 20)) 1,zm 9 21 7]
def f17r4:LO:=[zm 22 0 0,zo 23 (.build [.nilp] [(0,1,(.t 22))]) 1,zo 11 (.alloc false [.nilp]) 0,⟨none,.store 1 (.t 11) (.t 23),none,1,7⟩]
def f17r5:LO:=[zo 24 (.load true 1 (.t 11)) 0,zo 25 (.fn 42 [(.t 24)] []) 1,zm 12 25 3]
def f17r6:LO:=[zm 27 12 0,zm 28 2 0,zo 29 (.call (.t 27) [(.t 28)]) 3,zm 30 29 7,zg 31 12 30 true 15,zg 32 3 30 true 15,zh 33 (.call (.t 31) [(.t 32)]) 30 true 63,za 34 30 33 127,zm 26 34 255]
def f17q7:LO:=[zm 35 1 0,zo 36 (.load true 1 (.t 11)) 0,zm 37 2 0,zo 38 (.call (.c (.fn 44 [] [])) [(.t 36),(.t 37)]) 6,zo 39 (.load true 1 (.t 11)) 0,zm 40 3 0,zo 41 (.call (.c (.fn 44 [] [])) [(.t 39),(.t 40)]) 62,zo 42 (.call (.c (.fn 46 [] [])) [(.t 35),(.t 38),(.t 41)]) 127,ze 43 42 0 255,ze 44 42 1 255,zn (.store 5 (.t 8) (.t 43)) 1023,zm 9 44 2047]
def f17r7:LO:=f17q7
def f17r8:LO:=[zo 46 (.load true 1 (.t 11)) 0,zm 47 2 0,zo 48 (.call (.c (.fn 45 [] [])) [(.t 46),(.t 47)]) 3,zm 49 48 7,zh 50 (.load true 1 (.t 11)) 49 true 15,zg 51 3 49 true 15,zh 52 (.call (.c (.fn 45 [] [])) [(.t 50),(.t 51)]) 49 true 63,za 53 49 52 127,zm 45 53 255]
def f17r9:LO:=[zo 54 (.load true 1 (.t 11)) 0,zm 55 1 0,zm 56 2 0,zm 57 3 0,zo 58 (.call (.c (.fn 47 [] [])) [(.t 54),(.t 55),(.t 56),(.t 57)]) 15,ze 59 58 0 31,ze 60 58 1 31,zn (.store 5 (.t 8) (.t 59)) 127,zm 9 60 255]
def f17r10:LO:=[zo 62 (.load true 1 (.t 11)) 0,zm 63 2 0,zo 64 (.call (.c (.fn 45 [] [])) [(.t 62),(.t 63)]) 3,zm 65 64 7,zg 66 12 65 true 15,zg 67 3 65 true 15,zh 68 (.call (.t 66) [(.t 67)]) 65 true 63,za 69 65 68 127,zm 70 69 255,zg 71 1 70 true 511,zh 72 (.bin .eql (.t 71) (.c (.str [43]))) 70 true 1023,za 73 70 72 2047,zm 61 73 4095]
def f17q11:LO:=[zo 74 (.load true 1 (.t 11)) 0,zm 75 2 0,zo 76 (.call (.c (.fn 49 [] [])) []) 0,zo 77 (.build (List.replicate 5 (.int .i64 0)) [(0,1,(.c (.int .i64 1))),(1,1,(.t 75)),(2,1,(.t 76))]) 6,zm 78 2 0,zo 79 (.call (.c (.fn 48 [] [])) [(.t 74),(.t 77),(.t 78)]) 31,ze 80 79 0 63,ze 81 79 1 63,zn (.store 5 (.t 8) (.t 80)) 255,zm 9 81 511]
def f17r11:LO:=f17q11
def f17r12:LO:=[zo 83 (.load true 1 (.t 11)) 0,zm 84 2 0,zo 85 (.call (.c (.fn 45 [] [])) [(.t 83),(.t 84)]) 3,zm 86 85 7,zg 87 12 86 true 15,zg 88 3 86 true 15,zh 89 (.call (.t 87) [(.t 88)]) 86 true 63,za 90 86 89 127,zm 91 90 255,zg 92 1 91 true 511,zh 93 (.bin .eql (.t 92) (.c (.str [45]))) 91 true 1023,za 94 91 93 2047,zm 82 94 4095]
def f17q13:LO:=[zo 95 (.load true 1 (.t 11)) 0,zm 96 2 0,zo 97 (.call (.c (.fn 49 [] [])) []) 0,zo 98 (.build (List.replicate 5 (.int .i64 0)) [(0,1,(.c (.int .i64 2))),(1,1,(.t 96)),(2,1,(.t 97))]) 6,zm 99 2 0,zo 100 (.call (.c (.fn 48 [] [])) [(.t 95),(.t 98),(.t 99)]) 31,ze 101 100 0 63,ze 102 100 1 63,zn (.store 5 (.t 8) (.t 101)) 255,zm 9 102 511]
def f17r13:LO:=f17q13
def f17r14:LO:=[zm 104 12 0,zm 105 2 0,zo 106 (.call (.t 104) [(.t 105)]) 3,zm 107 106 7,zh 108 (.load true 1 (.t 11)) 107 true 15,zg 109 3 107 true 15,zh 110 (.call (.c (.fn 45 [] [])) [(.t 108),(.t 109)]) 107 true 63,za 111 107 110 127,zm 112 111 255,zg 113 1 112 true 511,zh 114 (.bin .eql (.t 113) (.c (.str [43]))) 112 true 1023,za 115 112 114 2047,zm 103 115 4095]
def f17q15:LO:=[zo 116 (.load true 1 (.t 11)) 0,zo 117 (.call (.c (.fn 49 [] [])) []) 0,zm 118 3 0,zo 119 (.build (List.replicate 5 (.int .i64 0)) [(0,1,(.c (.int .i64 1))),(1,1,(.t 117)),(2,1,(.t 118))]) 6,zm 120 3 0,zo 121 (.call (.c (.fn 48 [] [])) [(.t 116),(.t 119),(.t 120)]) 31,ze 122 121 0 63,ze 123 121 1 63,zn (.store 5 (.t 8) (.t 122)) 255,zm 9 123 511]
def f17r15:LO:=f17q15
def f17r16:LO:=[zo 124 (.build (List.replicate 5 (.int .i64 0)) []) 0,zn (.store 5 (.t 8) (.t 124)) 1,zo 9 (.move (.c (.int .i64 70))) 3]
theorem f17r7_s:staticOK 0 f17r7=true:=by rfl
theorem f17r7_w:DW f17r7:=fun hr=>Brun_drawnS f17r7_s hr
theorem f17r7_u:DU f17r7 f17q7:=fun _ _ _ _ _=>rfl
theorem f17r11_s:staticOK 0 f17r11=true:=by rfl
theorem f17r11_w:DW f17r11:=fun hr=>Brun_drawnS f17r11_s hr
theorem f17r11_u:DU f17r11 f17q11:=fun _ _ _ _ _=>rfl
theorem f17r13_s:staticOK 0 f17r13=true:=by rfl
theorem f17r13_w:DW f17r13:=fun hr=>Brun_drawnS f17r13_s hr
theorem f17r13_u:DU f17r13 f17q13:=fun _ _ _ _ _=>rfl
theorem f17r15_s:staticOK 0 f17r15=true:=by rfl
theorem f17r15_w:DW f17r15:=fun hr=>Brun_drawnS f17r15_s hr
theorem f17r15_u:DU f17r15 f17q15:=fun _ _ _ _ _=>rfl
def f17c:ACode :=
 .seq (zr f17r0 [0,1,2,3,8] 1)
 (.seq (.seq (zr f17r1 [0,1,2,3,8,10] 0)
 (.seq (zr f17r2 [0,1,2,3,8,10,19] 0)
 (.cond (.t 19)
  (.seq (zr f17r3 [8,9] 0)
  (.ret))
  (.skip))))
 (.seq (zr f17r4 [1,2,3,8,11] 1)
 (.seq (zr f17r5 [1,2,3,8,11,12] 0)
 (.seq (.block 0 (.seq (zr f17r6 [1,2,3,8,11,12,26] 0)
  (.cond (.t 26)
   (.seq (.region true f17r7 [8,9] 0)
   (.ret))
   (.seq (zr f17r8 [1,2,3,8,11,12,45] 0)
   (.cond (.t 45)
    (.seq (zr f17r9 [8,9] 0)
    (.ret))
    (.seq (zr f17r10 [1,2,3,8,11,12,61] 0)
    (.cond (.t 61)
     (.seq (.region true f17r11 [8,9] 0)
     (.ret))
     (.seq (zr f17r12 [1,2,3,8,11,12,82] 0)
     (.cond (.t 82)
      (.seq (.region true f17r13 [8,9] 0)
      (.ret))
      (.seq (zr f17r14 [3,8,11,103] 0)
      (.cond (.t 103)
       (.seq (.region true f17r15 [8,9] 0)
       (.ret))
       (.skip))))))))))))
 (.seq (zr f17r16 [8,9] 0)
 (.ret))))))
def f17:AFn:=⟨4,125,[.cell 8 true 5,.tmp 9],f17c,1,none⟩
def f17k:=kI [0,1,2,3,4,5,6,15,8,13,10,11,12,9,14,7,16] f17c
def f17v:List Nat:=[16]
def f18r0:LO:=[zo 8 (.alloc false (List.replicate 5 (.int .i64 0))) 0,⟨some 9,.move (.c (.int .i64 0)),none,1,0⟩]
def f18r1:LO:=[zm 19 0 0,zm 20 2 0,zo 21 (.call (.c (.fn 7 [] [])) [(.t 19),(.t 20)]) 3,zo 22 (.un .not (.t 21)) 7,zm 23 22 15,zg 24 0 23 false 31,zg 25 3 23 false 31,zh 26 (.call (.c (.fn 7 [] [])) [(.t 24),(.t 25)]) 23 false 127,zh 27 (.un .not (.t 26)) 23 false 255,zq 28 23 27 511]
def f18r2:LO:=[zo 29 (.build (List.replicate 5 (.int .i64 0)) []) 0,zn (.store 5 (.t 8) (.t 29)) 1,zo 9 (.move (.c (.int .i64 30))) 3]
def f18r3:LO:=[zm 30 0 0,zm 31 2 0,zo 32 (.call (.c (.fn 50 [] [])) [(.t 30),(.t 31)]) 3,zm 33 0 0,zm 34 3 0,zo 35 (.call (.c (.fn 50 [] [])) [(.t 33),(.t 34)]) 31,zm 10 32 63,zm 11 35 127]
def f18r4:LO:=[zm 36 0 0,zm 37 2 0,zo 38 (.call (.c (.fn 11 [] [])) [(.t 36),(.t 37)]) 3,zm 39 0 0,zm 40 3 0,zo 41 (.call (.c (.fn 11 [] [])) [(.t 39),(.t 40)]) 31,zm 12 38 63,zm 13 41 127]
def f18r5:LO:=[zo 42 (.call (.c (.fn 51 [] [])) [(.c (.int .i64 8))]) 0,zm 14 42 1]
def f18r6:LO:=[zm 44 12 0,zm 45 44 1,zg 46 13 45 true 3,za 47 45 46 7,zm 43 47 15]
def f18r7:LO:=[zm 48 1 0,zm 49 0 0,zm 50 2 0,zo 51 (.call (.c (.fn 10 [] [])) [(.t 49),(.t 50)]) 6,zm 52 0 0,zm 53 3 0,zo 54 (.call (.c (.fn 10 [] [])) [(.t 52),(.t 53)]) 62,zo 55 (.call (.c (.fn 52 [] [])) [(.t 48),(.t 51),(.t 54)]) 127,ze 56 55 0 255,ze 57 55 1 255,zn (.store 5 (.t 8) (.t 56)) 1023,zm 9 57 2047]
def f18r8:LO:=[zm 59 10 0,zm 60 59 1,zg 61 13 60 true 3,za 62 60 61 7,zm 63 62 15,zg 64 1 63 true 31,zh 65 (.bin .eql (.t 64) (.c (.str [43]))) 63 true 63,za 66 63 65 127,zm 58 66 255]
def f18r9:LO:=[zm 67 0 0,zm 68 2 0,zm 69 2 0,zm 70 14 0,zo 71 (.build (List.replicate 5 (.int .i64 0)) [(1,1,(.t 69)),(2,1,(.t 70))]) 12,zo 72 (.call (.c (.fn 53 [] [])) [(.t 67),(.c (.int .i64 1)),(.t 68),(.t 71)]) 31,ze 73 72 0 63,ze 74 72 1 63,zn (.store 5 (.t 8) (.t 73)) 255,zm 9 74 511]
def f18r10:LO:=[zm 76 12 0,zm 77 76 1,zg 78 11 77 true 3,za 79 77 78 7,zm 80 79 15,zg 81 1 80 true 31,zh 82 (.bin .eql (.t 81) (.c (.str [43]))) 80 true 63,za 83 80 82 127,zm 75 83 255]
def f18r11:LO:=[zm 84 0 0,zm 85 3 0,zm 86 14 0,zm 87 3 0,zo 88 (.build (List.replicate 5 (.int .i64 0)) [(1,1,(.t 86)),(2,1,(.t 87))]) 12,zo 89 (.call (.c (.fn 53 [] [])) [(.t 84),(.c (.int .i64 1)),(.t 85),(.t 88)]) 31,ze 90 89 0 63,ze 91 89 1 63,zn (.store 5 (.t 8) (.t 90)) 255,zm 9 91 511]
def f18r12:LO:=[zm 93 10 0,zm 94 93 1,zg 95 13 94 true 3,za 96 94 95 7,zm 97 96 15,zg 98 1 97 true 31,zh 99 (.bin .eql (.t 98) (.c (.str [45]))) 97 true 63,za 100 97 99 127,zm 92 100 255]
def f18r13:LO:=[zm 101 0 0,zm 102 2 0,zm 103 2 0,zm 104 14 0,zo 105 (.build (List.replicate 5 (.int .i64 0)) [(1,1,(.t 103)),(2,1,(.t 104))]) 12,zo 106 (.call (.c (.fn 53 [] [])) [(.t 101),(.c (.int .i64 2)),(.t 102),(.t 105)]) 31,ze 107 106 0 63,ze 108 106 1 63,zn (.store 5 (.t 8) (.t 107)) 255,zm 9 108 511]
def f18r14:LO:=[zm 110 10 0,zo 111 (.un .not (.t 110)) 1,zm 112 111 3,zg 113 11 112 false 7,zh 114 (.un .not (.t 113)) 112 false 15,zq 115 112 114 31,zm 109 115 63]
def f18r15:LO:=[zo 116 (.build (List.replicate 5 (.int .i64 0)) []) 0,zn (.store 5 (.t 8) (.t 116)) 1,zo 9 (.move (.c (.int .i64 70))) 3]
def f18r16:LO:=[zm 118 1 0,zo 119 (.bin .eql (.t 118) (.c (.str [45]))) 1,zm 120 119 3,zg 121 2 120 true 7,zg 122 3 120 true 7,zh 123 (.bin .eql (.t 121) (.t 122)) 120 true 31,za 124 120 123 63,zm 117 124 127]
def f18r17:LO:=[zm 126 0 0,zm 127 2 0,zm 128 2 0,zm 129 2 0,zo 130 (.build (List.replicate 5 (.int .i64 0)) [(1,1,(.t 128)),(2,1,(.t 129))]) 12,zo 131 (.call (.c (.fn 53 [] [])) [(.t 126),(.c (.int .i64 2)),(.t 127),(.t 130)]) 31,zm 125 131 63,ze 132 125 0 127,ze 133 125 1 127,zo 15 (.alloc false (List.replicate 5 (.int .i64 0))) 0,⟨none,.store 5 (.t 15) (.t 132),none,1,767⟩,⟨some 16,.move (.t 133),none,1,2047⟩]
def f18r18:LO:=[zm 134 16 0,zo 135 (.bin .eql (.t 134) (.c (.int .i64 0))) 1]
def f18r19:LO:=[zm 136 14 0,zf 137 3 15 1,zn (.store 1 (.t 137) (.t 136)) 3]
def f18r20:LO:=[zo 138 (.load true 5 (.t 15)) 0,zm 139 16 0,zn (.store 5 (.t 8) (.t 138)) 1,zm 9 139 7]
def f18r21:LO:=[zm 140 1 0,zo 141 (.call (.c (.fn 54 [] [])) [(.t 140),(.c (.int .i64 13))]) 1,zm 17 141 3]
def f18r22:LO:=[zm 142 17 0,zo 143 (.bin .eql (.t 142) (.c (.int .i64 14))) 1,zm 144 143 3,zg 145 17 144 false 7,zh 146 (.bin .eql (.t 145) (.c (.int .i64 15))) 144 false 15,zq 147 144 146 31,zm 18 147 63]
def f18r23:LO:=[zm 148 17 0,zo 149 (.bin .eql (.t 148) (.c (.int .i64 0))) 1,zm 150 149 3,zg 151 2 150 false 7,zg 152 3 150 false 7,zh 153 (.bin .neq (.t 151) (.t 152)) 150 false 31,zg 154 153 150 false 63,zg 155 18 154 true 127,zg 156 155 154 true 255,zg 157 0 156 true 511,zg 158 2 156 true 511,zh 159 (.call (.c (.fn 55 [] [])) [(.t 157),(.t 158)]) 156 true 2047,zg 160 159 156 true 4095,zg 161 0 160 false 8191,zg 162 3 160 false 8191,zh 163 (.call (.c (.fn 55 [] [])) [(.t 161),(.t 162)]) 160 false 32767,zh 164 (.pick (.t 160) (.c (.bool true)) (.t 163)) 156 true 65535,zh 165 (.pick (.t 156) (.t 164) (.c (.bool false))) 154 true 131071,zh 166 (.un .not (.t 165)) 154 true 262143,zh 167 (.pick (.t 154) (.t 166) (.c (.bool false))) 150 false 524287,zq 168 150 167 1048575]
def f18r24:LO:=[zo 169 (.build (List.replicate 5 (.int .i64 0)) []) 0,zn (.store 5 (.t 8) (.t 169)) 1,zo 9 (.move (.c (.int .i64 70))) 3]
def f18r25:LO:=[zm 170 17 0,zm 171 2 0,zm 172 2 0,zm 173 14 0,zo 174 (.build (List.replicate 5 (.int .i64 0)) [(0,1,(.t 170)),(1,1,(.t 171)),(2,1,(.t 172)),(3,1,(.t 173))]) 15,zn (.store 5 (.t 8) (.t 174)) 31,zo 9 (.move (.c (.int .i64 0))) 63]
def f18c:ACode :=
 .seq (zr f18r0 [0,1,2,3,8] 1)
 (.seq (.seq (zr f18r1 [0,1,2,3,8,28] 0)
 (.cond (.t 28)
  (.seq (zr f18r2 [8,9] 0)
  (.ret))
  (.skip)))
 (.seq (zr f18r3 [0,1,2,3,8,10,11] 0)
 (.seq (zr f18r4 [0,1,2,3,8,10,11,12,13] 0)
 (.seq (zr f18r5 [0,1,2,3,8,10,11,12,13,14] 0)
 (.seq (.block 0 (.seq (zr f18r6 [0,1,2,3,8,10,11,12,13,14,43] 0)
  (.cond (.t 43)
   (.seq (zr f18r7 [8,9] 0)
   (.ret))
   (.seq (zr f18r8 [0,1,2,3,8,10,11,12,13,14,58] 0)
   (.cond (.t 58)
    (.seq (zr f18r9 [8,9] 0)
    (.ret))
    (.seq (zr f18r10 [0,1,2,3,8,10,11,13,14,75] 0)
    (.cond (.t 75)
     (.seq (zr f18r11 [8,9] 0)
     (.ret))
     (.seq (zr f18r12 [0,1,2,3,8,10,11,14,92] 0)
     (.cond (.t 92)
      (.seq (zr f18r13 [8,9] 0)
      (.ret))
      (.seq (zr f18r14 [0,1,2,3,8,14,109] 0)
      (.cond (.t 109)
       (.seq (zr f18r15 [8,9] 0)
       (.ret))
       (.seq (zr f18r16 [0,1,2,3,8,14,117] 0)
       (.cond (.t 117)
        (.seq (zr f18r17 [8,14,15,16] 1)
        (.seq (.seq (zr f18r18 [8,14,15,16,135] 0)
        (.cond (.t 135)
         (zr f18r19 [8,15,16] 0)
         (.skip)))
        (.seq (zr f18r20 [8,9] 0)
        (.ret))))
        (.skip))))))))))))))
 (.seq (zr f18r21 [0,2,3,8,14,17] 0)
 (.seq (zr f18r22 [0,2,3,8,14,17,18] 0)
 (.seq (.seq (zr f18r23 [2,8,14,17,168] 0)
 (.cond (.t 168)
  (.seq (zr f18r24 [8,9] 0)
  (.ret))
  (.skip)))
 (.seq (zr f18r25 [8,9] 0)
 (.ret))))))))))
def f18:AFn:=⟨4,175,[.cell 8 true 5,.tmp 9],f18c,1,none⟩
def f18k:=kI [0,1,2,3,4,5,6,20,8,15,10,13,12,11,14,9,16,17,18,19,7,21,22,23,24,25] f18c
def f18v:List Nat:=[]
def f19r0:LO:=[zo 6 (.move (.c (.int .i64 0))) 0,zo 7 (.move (.c (.int .i64 0))) 1]
def f19r1:LO:=[zm 10 0 0,zm 11 2 0,zo 12 (.buildSlice true 1 1 [(.int .i64 0)] [(0,1,(.t 11))]) 2,zo 13 (.call (.c (.fn 40 [] [])) [(.t 10),(.t 12)]) 7,zm 8 13 15]
def f19r2:LO:=[zm 14 8 0,zo 15 (.bin .neq (.t 14) (.c (.int .i64 0))) 1]
def f19r3:LO:=[zm 16 8 0,zo 6 (.move (.c (.int .i64 0))) 0,zm 7 16 3]
def f19r4:LO:=[zm 17 0 0,zo 18 (.build [.nilp] [(0,1,(.t 17))]) 1,zo 9 (.alloc false [.nilp]) 0,⟨none,.store 1 (.t 9) (.t 18),none,1,7⟩]
def f19r5:LO:=[zm 20 1 0,zo 21 (.bin .eql (.t 20) (.c (.str [33]))) 1,zm 22 21 3,zg 23 0 22 true 7,zg 24 2 22 true 7,zh 25 (.call (.c (.fn 56 [] [])) [(.t 23),(.t 24)]) 22 true 31,za 26 22 25 63,zm 19 26 127]
def f19r6:LO:=[zo 27 (.call (.c (.fn 49 [] [])) []) 0,zm 6 27 1,zo 7 (.move (.c (.int .i64 0))) 3]
def f19r7:LO:=[zm 29 1 0,zo 30 (.bin .eql (.t 29) (.c (.str [43]))) 1,zm 31 30 3,zg 32 1 31 false 7,zh 33 (.bin .eql (.t 32) (.c (.str [45]))) 31 false 15,zq 34 31 33 31,zm 35 34 63,zg 36 1 35 false 127,zh 37 (.bin .eql (.t 36) (.c (.str [126]))) 35 false 255,zq 38 35 37 511,zm 39 38 1023,zh 40 (.load true 1 (.t 9)) 39 true 2047,zg 41 2 39 true 2047,zh 42 (.call (.c (.fn 42 [] [])) [(.t 40),(.t 41)]) 39 true 8191,za 43 39 42 16383,zm 28 43 32767]
def f19r8:LO:=[zo 44 (.load true 1 (.t 9)) 0,zm 45 2 0,zo 46 (.call (.c (.fn 44 [] [])) [(.t 44),(.t 45)]) 3,zo 47 (.call (.c (.fn 12 [] [])) [(.t 46),(.c (.int .i64 (-1)))]) 7,zo 48 (.call (.c (.fn 57 [] [])) [(.t 47)]) 15,zm 6 48 31,zo 7 (.move (.c (.int .i64 0))) 63]
def f19r9:LO:=[zo 6 (.move (.c (.int .i64 0))) 0,zo 7 (.move (.c (.int .i64 70))) 1]
def f19c:ACode :=
 .seq (zr f19r0 [0,1,2] 0)
 (.seq (.seq (zr f19r1 [0,1,2,8] 0)
 (.seq (zr f19r2 [0,1,2,8,15] 0)
 (.cond (.t 15)
  (.seq (zr f19r3 [6,7] 0)
  (.ret))
  (.skip))))
 (.seq (zr f19r4 [0,1,2,9] 1)
 (.seq (.block 0 (.seq (zr f19r5 [1,2,9,19] 0)
  (.cond (.t 19)
   (.seq (zr f19r6 [6,7] 0)
   (.ret))
   (.seq (zr f19r7 [2,9,28] 0)
   (.cond (.t 28)
    (.seq (zr f19r8 [6,7] 0)
    (.ret))
    (.skip))))))
 (.seq (zr f19r9 [6,7] 0)
 (.ret)))))
def f19:AFn:=⟨3,49,[.tmp 6,.tmp 7],f19c,1,none⟩
def f19k:=kI [0,1,2,3,4,5,8,7,6,9] f19c
def f19v:List Nat:=[12]
def f20r0:LO:=[zo 6 (.move (.c (.int .i64 0))) 0,zo 7 (.move (.c (.int .i64 0))) 1]
def f20r1:LO:=[zm 8 0 0,zm 9 2 0,zo 10 (.call (.c (.fn 7 [] [])) [(.t 8),(.t 9)]) 3,zo 11 (.un .not (.t 10)) 7]
def f20r2:LO:=[zo 6 (.move (.c (.int .i64 0))) 0,zo 7 (.move (.c (.int .i64 30))) 1]
def f20r3:LO:=[zm 13 1 0,zo 14 (.bin .eql (.t 13) (.c (.str [43]))) 1,zm 15 14 3,zg 16 1 15 false 7,zh 17 (.bin .eql (.t 16) (.c (.str [45]))) 15 false 15,zq 18 15 17 31,zm 19 18 63,zg 20 1 19 false 127,zh 21 (.bin .eql (.t 20) (.c (.str [126]))) 19 false 255,zq 22 19 21 511,zm 23 22 1023,zg 24 0 23 true 2047,zg 25 2 23 true 2047,zh 26 (.call (.c (.fn 11 [] [])) [(.t 24),(.t 25)]) 23 true 8191,za 27 23 26 16383,zm 12 27 32767]
def f20r4:LO:=[zm 28 0 0,zm 29 2 0,zo 30 (.call (.c (.fn 10 [] [])) [(.t 28),(.t 29)]) 3,zo 31 (.call (.c (.fn 58 [] [])) [(.t 30),(.c (.int .i64 (-1)))]) 7,zo 32 (.call (.c (.fn 51 [] [])) [(.t 31)]) 15,zm 6 32 31,zo 7 (.move (.c (.int .i64 0))) 63]
def f20r5:LO:=[zm 34 1 0,zo 35 (.bin .eql (.t 34) (.c (.str [33]))) 1,zm 36 35 3,zg 37 0 36 true 7,zg 38 2 36 true 7,zh 39 (.call (.c (.fn 13 [] [])) [(.t 37),(.t 38)]) 36 true 31,za 40 36 39 63,zm 33 40 127]
def f20r6:LO:=[zo 41 (.call (.c (.fn 51 [] [])) [(.c (.int .i64 8))]) 0,zm 6 41 1,zo 7 (.move (.c (.int .i64 0))) 3]
def f20r7:LO:=[zo 6 (.move (.c (.int .i64 0))) 0,zo 7 (.move (.c (.int .i64 70))) 1]
def f20c:ACode :=
 .seq (zr f20r0 [0,1,2] 0)
 (.seq (.seq (zr f20r1 [0,1,2,11] 0)
 (.cond (.t 11)
  (.seq (zr f20r2 [6,7] 0)
  (.ret))
  (.skip)))
 (.seq (.block 0 (.seq (zr f20r3 [0,1,2,12] 0)
  (.cond (.t 12)
   (.seq (zr f20r4 [6,7] 0)
   (.ret))
   (.seq (zr f20r5 [33] 0)
   (.cond (.t 33)
    (.seq (zr f20r6 [6,7] 0)
    (.ret))
    (.skip))))))
 (.seq (zr f20r7 [6,7] 0)
 (.ret))))
def f20:AFn:=⟨3,42,[.tmp 6,.tmp 7],f20c,1,none⟩
def f20k:=kI [0,1,2,3,6,5,4,7] f20c
def f20v:List Nat:=[]
def f21r0:LO:=[zo 6 (.move (.c (.int .i64 0))) 0,zo 7 (.move (.c (.int .i64 0))) 1]
def f21r1:LO:=[zm 13 0 0,zm 14 1 0,zm 15 2 0,zo 16 (.buildSlice true 1 2 [(.int .i64 0),(.int .i64 0)] [(0,1,(.t 14)),(1,1,(.t 15))]) 6,zo 17 (.call (.c (.fn 40 [] [])) [(.t 13),(.t 16)]) 15,zm 8 17 31]
def f21r2:LO:=[zm 18 8 0,zo 19 (.bin .neq (.t 18) (.c (.int .i64 0))) 1]
def f21r3:LO:=[zm 20 8 0,zo 6 (.move (.c (.int .i64 0))) 0,zm 7 20 3]
def f21r4:LO:=[zm 21 0 0,zo 22 (.build [.nilp] [(0,1,(.t 21))]) 1,zo 9 (.alloc false [.nilp]) 0,⟨none,.store 1 (.t 9) (.t 22),none,1,7⟩]
def f21r5:LO:=[zo 23 (.load true 1 (.t 9)) 0,zm 24 1 0,zo 25 (.call (.c (.fn 42 [] [])) [(.t 23),(.t 24)]) 3,zm 26 25 7,zh 27 (.load true 1 (.t 9)) 26 true 15,zg 28 2 26 true 15,zh 29 (.call (.c (.fn 42 [] [])) [(.t 27),(.t 28)]) 26 true 63,za 30 26 29 127]
def f21q6:LO:=[zo 32 (.load true 1 (.t 9)) 0,zm 33 1 0,zo 34 (.call (.c (.fn 44 [] [])) [(.t 32),(.t 33)]) 3,zo 35 (.load true 1 (.t 9)) 0,zm 36 2 0,zo 37 (.call (.c (.fn 44 [] [])) [(.t 35),(.t 36)]) 31,zo 38 (.call (.c (.fn 9 [] [])) [(.t 34),(.t 37)]) 63,zm 31 38 127,ze 39 31 0 255,ze 40 31 1 255,zm 10 39 511,zm 11 40 2047]
def f21r6:LO:=f21q6
def f21r7:LO:=[zm 41 10 0,zo 42 (.call (.c (.fn 57 [] [])) [(.t 41)]) 1,zm 43 11 0,zm 6 42 3,zm 7 43 15]
def f21r8:LO:=[zo 44 (.load true 1 (.t 9)) 0,zm 45 1 0,zo 46 (.call (.c (.fn 44 [] [])) [(.t 44),(.t 45)]) 3,zm 12 46 7]
def f21r9:LO:=[zm 48 1 0,zm 49 2 0,zo 50 (.bin .eql (.t 48) (.t 49)) 3,zm 51 50 7,zg 52 12 51 true 15,zh 53 (.bin .eql (.t 52) (.c (.int .i64 13))) 51 true 31,zg 54 53 51 true 63,zg 55 12 54 false 127,zh 56 (.bin .eql (.t 55) (.c (.int .i64 1))) 54 false 255,zh 57 (.pick (.t 54) (.c (.bool true)) (.t 56)) 51 true 511,zg 58 57 51 true 1023,zg 59 12 58 false 2047,zh 60 (.bin .eql (.t 59) (.c (.int .i64 15))) 58 false 4095,zh 61 (.pick (.t 58) (.c (.bool true)) (.t 60)) 51 true 8191,zg 62 61 51 true 16383,zg 63 12 62 false 32767,zh 64 (.bin .eql (.t 63) (.c (.int .i64 16))) 62 false 65535,zh 65 (.pick (.t 62) (.c (.bool true)) (.t 64)) 51 true 131071,za 66 51 65 262143,zm 47 66 524287]
def f21r10:LO:=[zm 67 1 0,zm 6 67 1,zo 7 (.move (.c (.int .i64 0))) 3]
def f21r11:LO:=[zo 69 (.load true 1 (.t 9)) 0,zm 70 1 0,zo 71 (.call (.c (.fn 59 [] [])) [(.t 69),(.t 70)]) 3,zm 72 71 7,zh 73 (.load true 1 (.t 9)) 72 true 15,zg 74 2 72 true 15,zh 75 (.call (.c (.fn 45 [] [])) [(.t 73),(.t 74)]) 72 true 63,za 76 72 75 127,zm 68 76 255]
def f21r12:LO:=[zm 77 1 0,zm 6 77 1,zo 7 (.move (.c (.int .i64 0))) 3]
def f21r13:LO:=[zo 79 (.load true 1 (.t 9)) 0,zm 80 1 0,zo 81 (.call (.c (.fn 45 [] [])) [(.t 79),(.t 80)]) 3,zm 82 81 7,zh 83 (.load true 1 (.t 9)) 82 true 15,zg 84 2 82 true 15,zh 85 (.call (.c (.fn 59 [] [])) [(.t 83),(.t 84)]) 82 true 63,za 86 82 85 127,zm 78 86 255]
def f21r14:LO:=[zm 87 2 0,zm 6 87 1,zo 7 (.move (.c (.int .i64 0))) 3]
def f21r15:LO:=[zo 6 (.move (.c (.int .i64 0))) 0,zo 7 (.move (.c (.int .i64 70))) 1]
theorem f21r6_s:staticOK 0 f21r6=true:=by rfl
theorem f21r6_w:DW f21r6:=fun hr=>Brun_drawnS f21r6_s hr
theorem f21r6_u:DU f21r6 f21q6:=fun _ _ _ _ _=>rfl
def f21c:ACode :=
 .seq (zr f21r0 [0,1,2] 0)
 (.seq (.seq (zr f21r1 [0,1,2,8] 0)
 (.seq (zr f21r2 [0,1,2,8,19] 0)
 (.cond (.t 19)
  (.seq (zr f21r3 [6,7] 0)
  (.ret))
  (.skip))))
 (.seq (zr f21r4 [1,2,9] 1)
 (.seq (.seq (zr f21r5 [1,2,9,30] 0)
 (.cond (.t 30)
  (.seq (.region true f21r6 [10,11] 0)
  (.seq (zr f21r7 [6,7] 0)
  (.ret)))
  (.skip)))
 (.seq (.seq (zr f21r8 [1,2,9,12] 0)
 (.block 0 (.seq (zr f21r9 [1,2,9,47] 0)
  (.cond (.t 47)
   (.seq (zr f21r10 [6,7] 0)
   (.ret))
   (.seq (zr f21r11 [1,2,9,68] 0)
   (.cond (.t 68)
    (.seq (zr f21r12 [6,7] 0)
    (.ret))
    (.seq (zr f21r13 [2,78] 0)
    (.cond (.t 78)
     (.seq (zr f21r14 [6,7] 0)
     (.ret))
     (.skip)))))))))
 (.seq (zr f21r15 [6,7] 0)
 (.ret))))))
def f21:AFn:=⟨3,88,[.tmp 6,.tmp 7],f21c,1,none⟩
def f21k:=kI [0,1,2,3,4,5,6,7,8,9,14,11,12,13,10,15] f21c
def f21v:List Nat:=[16]
def f22r0:LO:=[zo 6 (.move (.c (.int .i64 0))) 0,zo 7 (.move (.c (.int .i64 0))) 1]
def f22r1:LO:=[zm 10 0 0,zm 11 1 0,zo 12 (.call (.c (.fn 7 [] [])) [(.t 10),(.t 11)]) 3,zo 13 (.un .not (.t 12)) 7,zm 14 13 15,zg 15 0 14 false 31,zg 16 2 14 false 31,zh 17 (.call (.c (.fn 7 [] [])) [(.t 15),(.t 16)]) 14 false 127,zh 18 (.un .not (.t 17)) 14 false 255,zq 19 14 18 511]
def f22r2:LO:=[zo 6 (.move (.c (.int .i64 0))) 0,zo 7 (.move (.c (.int .i64 30))) 1]
def f22r3:LO:=[zm 21 0 0,zm 22 1 0,zo 23 (.call (.c (.fn 11 [] [])) [(.t 21),(.t 22)]) 3,zm 24 23 7,zg 25 0 24 true 15,zg 26 2 24 true 15,zh 27 (.call (.c (.fn 11 [] [])) [(.t 25),(.t 26)]) 24 true 63,za 28 24 27 127,zm 20 28 255]
def f22r4:LO:=[zm 30 0 0,zm 31 1 0,zo 32 (.call (.c (.fn 10 [] [])) [(.t 30),(.t 31)]) 3,zm 33 0 0,zm 34 2 0,zo 35 (.call (.c (.fn 10 [] [])) [(.t 33),(.t 34)]) 31,zo 36 (.call (.c (.fn 60 [] [])) [(.t 32),(.t 35)]) 63,zm 29 36 127,ze 37 29 0 255,ze 38 29 1 255,zm 8 37 511,zm 9 38 2047]
def f22r5:LO:=[zm 39 8 0,zo 40 (.call (.c (.fn 51 [] [])) [(.t 39)]) 1,zm 6 40 3,zo 7 (.move (.c (.int .i64 0))) 7]
def f22r6:LO:=[zm 42 1 0,zm 43 2 0,zo 44 (.bin .eql (.t 42) (.t 43)) 3,zm 45 44 7,zg 46 0 45 true 15,zg 47 1 45 true 15,zh 48 (.call (.c (.fn 50 [] [])) [(.t 46),(.t 47)]) 45 true 63,zg 49 48 45 true 127,zg 50 0 49 false 255,zg 51 1 49 false 255,zh 52 (.call (.c (.fn 16 [] [])) [(.t 50),(.t 51)]) 49 false 1023,zh 53 (.pick (.t 49) (.c (.bool true)) (.t 52)) 45 true 2047,zg 54 53 45 true 4095,zg 55 0 54 false 8191,zg 56 1 54 false 8191,zh 57 (.call (.c (.fn 10 [] [])) [(.t 55),(.t 56)]) 54 false 32767,zh 58 (.bin .eql (.t 57) (.c (.int .i64 1))) 54 false 65535,zh 59 (.pick (.t 54) (.c (.bool true)) (.t 58)) 45 true 131071,za 60 45 59 262143,zm 41 60 524287]
def f22r7:LO:=[zm 61 1 0,zm 6 61 1,zo 7 (.move (.c (.int .i64 0))) 3]
def f22r8:LO:=[zm 63 0 0,zm 64 1 0,zo 65 (.call (.c (.fn 55 [] [])) [(.t 63),(.t 64)]) 3,zm 66 65 7,zg 67 0 66 true 15,zg 68 2 66 true 15,zh 69 (.call (.c (.fn 50 [] [])) [(.t 67),(.t 68)]) 66 true 63,za 70 66 69 127,zm 62 70 255]
def f22r9:LO:=[zm 71 1 0,zm 6 71 1,zo 7 (.move (.c (.int .i64 0))) 3]
def f22r10:LO:=[zm 73 0 0,zm 74 1 0,zo 75 (.call (.c (.fn 50 [] [])) [(.t 73),(.t 74)]) 3,zm 76 75 7,zg 77 0 76 true 15,zg 78 2 76 true 15,zh 79 (.call (.c (.fn 55 [] [])) [(.t 77),(.t 78)]) 76 true 63,za 80 76 79 127,zm 72 80 255]
def f22r11:LO:=[zm 81 2 0,zm 6 81 1,zo 7 (.move (.c (.int .i64 0))) 3]
def f22r12:LO:=[zo 6 (.move (.c (.int .i64 0))) 0,zo 7 (.move (.c (.int .i64 70))) 1]
def f22c:ACode :=
 .seq (zr f22r0 [0,1,2] 0)
 (.seq (.seq (zr f22r1 [0,1,2,19] 0)
 (.cond (.t 19)
  (.seq (zr f22r2 [6,7] 0)
  (.ret))
  (.skip)))
 (.seq (.block 0 (.seq (zr f22r3 [0,1,2,20] 0)
  (.cond (.t 20)
   (.seq (zr f22r4 [8] 0)
   (.seq (zr f22r5 [6,7] 0)
   (.ret)))
   (.seq (zr f22r6 [0,1,2,41] 0)
   (.cond (.t 41)
    (.seq (zr f22r7 [6,7] 0)
    (.ret))
    (.seq (zr f22r8 [0,1,2,62] 0)
    (.cond (.t 62)
     (.seq (zr f22r9 [6,7] 0)
     (.ret))
     (.seq (zr f22r10 [2,72] 0)
     (.cond (.t 72)
      (.seq (zr f22r11 [6,7] 0)
      (.ret))
      (.skip))))))))))
 (.seq (zr f22r12 [6,7] 0)
 (.ret))))
def f22:AFn:=⟨3,82,[.tmp 6,.tmp 7],f22c,1,none⟩
def f22k:=kI [0,1,2,3,4,11,6,9,8,7,10,5,12] f22c
def f22v:List Nat:=[]
def f23r0:LO:=[zo 6 (.move (.c (.int .i64 0))) 0]
def f23r1:LO:=[zm 7 0 0,zm 8 1 0,zo 9 (.call (.c (.fn 7 [] [])) [(.t 7),(.t 8)]) 3,zo 10 (.un .not (.t 9)) 7,zm 11 10 15,zg 12 0 11 false 31,zg 13 2 11 false 31,zh 14 (.call (.c (.fn 7 [] [])) [(.t 12),(.t 13)]) 11 false 127,zh 15 (.un .not (.t 14)) 11 false 255,zq 16 11 15 511]
def f23r2:LO:=[zo 6 (.move (.c (.int .i64 30))) 0]
def f23r3:LO:=[zm 18 0 0,zm 19 1 0,zo 20 (.call (.c (.fn 11 [] [])) [(.t 18),(.t 19)]) 3,zm 21 20 7,zg 22 0 21 true 15,zg 23 2 21 true 15,zh 24 (.call (.c (.fn 11 [] [])) [(.t 22),(.t 23)]) 21 true 63,za 25 21 24 127,zm 17 25 255]
def f23r4:LO:=[zo 6 (.move (.c (.int .i64 0))) 0]
def f23r5:LO:=[zm 27 0 0,zm 28 1 0,zo 29 (.call (.c (.fn 50 [] [])) [(.t 27),(.t 28)]) 3,zm 30 29 7,zg 31 0 30 true 15,zg 32 2 30 true 15,zh 33 (.call (.c (.fn 50 [] [])) [(.t 31),(.t 32)]) 30 true 63,za 34 30 33 127,zm 35 34 255,zg 36 1 35 true 511,zg 37 2 35 true 511,zh 38 (.bin .eql (.t 36) (.t 37)) 35 true 2047,zg 39 38 35 true 4095,zg 40 0 39 false 8191,zg 41 1 39 false 8191,zh 42 (.call (.c (.fn 55 [] [])) [(.t 40),(.t 41)]) 39 false 32767,zh 43 (.pick (.t 39) (.c (.bool true)) (.t 42)) 35 true 65535,zg 44 43 35 true 131071,zg 45 0 44 false 262143,zg 46 2 44 false 262143,zh 47 (.call (.c (.fn 55 [] [])) [(.t 45),(.t 46)]) 44 false 1048575,zh 48 (.pick (.t 44) (.c (.bool true)) (.t 47)) 35 true 2097151,za 49 35 48 4194303,zm 26 49 8388607]
def f23r6:LO:=[zo 6 (.move (.c (.int .i64 0))) 0]
def f23r7:LO:=[zm 51 0 0,zm 52 1 0,zo 53 (.call (.c (.fn 16 [] [])) [(.t 51),(.t 52)]) 3,zm 54 53 7,zg 55 1 54 true 15,zg 56 2 54 true 15,zh 57 (.bin .eql (.t 55) (.t 56)) 54 true 63,za 58 54 57 127,zm 59 58 255,zg 60 0 59 true 511,zh 61 (.nilCheck (.t 60)) 59 true 1023,zh 62 (.fieldAddr 0 (.t 61)) 59 true 2047,zh 63 (.load false 1 (.t 62)) 59 true 4095,zg 64 1 59 true 511,zh 65 (.idxAddr 6 (.t 63) (.t 64)) 59 true 16383,zh 66 (.fieldAddr 5 (.t 65)) 59 true 32767,zh 67 (.load false 1 (.t 66)) 59 true 65535,za 68 59 67 131071,zm 50 68 262143]
def f23r8:LO:=[zo 6 (.move (.c (.int .i64 0))) 0]
def f23r9:LO:=[zo 6 (.move (.c (.int .i64 70))) 0]
def f23c:ACode :=
 .seq (zr f23r0 [0,1,2] 0)
 (.seq (.seq (zr f23r1 [0,1,2,16] 0)
 (.cond (.t 16)
  (.seq (zr f23r2 [6] 0)
  (.ret))
  (.skip)))
 (.seq (.block 0 (.seq (zr f23r3 [0,1,2,17] 0)
  (.cond (.t 17)
   (.seq (zr f23r4 [6] 0)
   (.ret))
   (.seq (zr f23r5 [0,1,2,26] 0)
   (.cond (.t 26)
    (.seq (zr f23r6 [6] 0)
    (.ret))
    (.seq (zr f23r7 [50] 0)
    (.cond (.t 50)
     (.seq (zr f23r8 [6] 0)
     (.ret))
     (.skip))))))))
 (.seq (zr f23r9 [6] 0)
 (.ret))))
def f23:AFn:=⟨3,69,[.tmp 6],f23c,1,none⟩
def f23k:=kI [0,1,2,3,8,5,6,7,4,9] f23c
def f23v:List Nat:=[]
def f24r0:LO:=[zo 6 (.move (.c (.int .i64 0))) 0]
def f24r1:LO:=[zm 7 0 0,zm 8 1 0,zo 9 (.call (.c (.fn 7 [] [])) [(.t 7),(.t 8)]) 3,zo 10 (.un .not (.t 9)) 7,zm 11 10 15,zg 12 0 11 false 31,zg 13 2 11 false 31,zh 14 (.call (.c (.fn 7 [] [])) [(.t 12),(.t 13)]) 11 false 127,zh 15 (.un .not (.t 14)) 11 false 255,zq 16 11 15 511]
def f24r2:LO:=[zo 6 (.move (.c (.int .i64 30))) 0]
def f24r3:LO:=[zm 18 0 0,zm 19 1 0,zo 20 (.call (.c (.fn 10 [] [])) [(.t 18),(.t 19)]) 3,zo 21 (.bin .eql (.t 20) (.c (.int .i64 1))) 7,zm 17 21 15]
def f24r4:LO:=[zo 6 (.move (.c (.int .i64 0))) 0]
def f24r5:LO:=[zm 23 0 0,zm 24 1 0,zo 25 (.call (.c (.fn 11 [] [])) [(.t 23),(.t 24)]) 3,zm 26 25 7,zg 27 0 26 true 15,zg 28 2 26 true 15,zh 29 (.call (.c (.fn 11 [] [])) [(.t 27),(.t 28)]) 26 true 63,za 30 26 29 127,zm 22 30 255]
def f24r6:LO:=[zo 6 (.move (.c (.int .i64 0))) 0]
def f24r7:LO:=[zm 32 0 0,zm 33 1 0,zo 34 (.call (.c (.fn 50 [] [])) [(.t 32),(.t 33)]) 3,zm 35 34 7,zg 36 0 35 true 15,zg 37 2 35 true 15,zh 38 (.call (.c (.fn 50 [] [])) [(.t 36),(.t 37)]) 35 true 63,za 39 35 38 127,zm 31 39 255]
def f24r8:LO:=[zo 6 (.move (.c (.int .i64 0))) 0]
def f24r9:LO:=[zm 41 0 0,zm 42 1 0,zo 43 (.call (.c (.fn 10 [] [])) [(.t 41),(.t 42)]) 3,zo 44 (.bin .eql (.t 43) (.c (.int .i64 2))) 7,zm 45 44 15,zg 46 0 45 true 31,zg 47 2 45 true 31,zh 48 (.call (.c (.fn 50 [] [])) [(.t 46),(.t 47)]) 45 true 127,za 49 45 48 255,zm 40 49 511]
def f24r10:LO:=[zo 6 (.move (.c (.int .i64 0))) 0]
def f24r11:LO:=[zo 6 (.move (.c (.int .i64 70))) 0]
def f24c:ACode :=
 .seq (zr f24r0 [0,1,2] 0)
 (.seq (.seq (zr f24r1 [0,1,2,16] 0)
 (.cond (.t 16)
  (.seq (zr f24r2 [6] 0)
  (.ret))
  (.skip)))
 (.seq (.block 0 (.seq (zr f24r3 [0,1,2,17] 0)
  (.cond (.t 17)
   (.seq (zr f24r4 [6] 0)
   (.ret))
   (.seq (zr f24r5 [0,1,2,22] 0)
   (.cond (.t 22)
    (.seq (zr f24r6 [6] 0)
    (.ret))
    (.seq (zr f24r7 [0,1,2,31] 0)
    (.cond (.t 31)
     (.seq (zr f24r8 [6] 0)
     (.ret))
     (.seq (zr f24r9 [40] 0)
     (.cond (.t 40)
      (.seq (zr f24r10 [6] 0)
      (.ret))
      (.skip))))))))))
 (.seq (zr f24r11 [6] 0)
 (.ret))))
def f24:AFn:=⟨3,50,[.tmp 6],f24c,1,none⟩
def f24k:=kI [0,1,2,3,10,5,8,7,6,9,4,11] f24c
def f24v:List Nat:=[]
def f25r0:LO:=[zo 4 (.move (.c (.bool false))) 0]
def f25q1:LO:=[zm 5 0 0,zo 6 (.call (.c (.fn 62 [] [])) [(.t 5)]) 1,zm 7 1 0,zo 8 (.nilCheck (.t 7)) 4,zf 9 0 8 12,zl 10 9 28,zo 11 (.call (.c (.fn 61 [] [])) [(.t 6),(.t 10)]) 63,zm 12 11 127,zg 13 0 12 true 255,zh 14 (.call (.c (.fn 63 [] [])) [(.t 13)]) 12 true 511,zg 15 1 12 true 255,zh 16 (.nilCheck (.t 15)) 12 true 1279,zh 17 (.fieldAddr 0 (.t 16)) 12 true 3327,zh 18 (.load false 1 (.t 17)) 12 true 7423,zh 19 (.len 1 (.t 18)) 12 true 15615,zh 20 (.bin .eql (.t 14) (.t 19)) 12 true 32767,za 21 12 20 65535,zm 4 21 131071]
def f25r1:LO:=f25q1
theorem f25r1_s:staticOK 0 f25r1=true:=by rfl
theorem f25r1_w:DW f25r1:=fun hr=>Brun_drawnS f25r1_s hr
theorem f25r1_u:DU f25r1 f25q1:=fun _ _ _ _ _=>rfl
def f25c:ACode :=
 .seq (zr f25r0 [0,1] 0)
 (.seq (.region true f25r1 [4] 0)
 (.ret))
def f25:AFn:=⟨2,22,[.tmp 4],f25c,1,none⟩
def f25k:=kA f25c
def f25v:List Nat:=[]
def f32r0:LO:=[zo 2 (.move (.c .nilp)) 0,zo 3 (.move (.c (.int .i64 0))) 1]
def f32r1:LO:=[zm 8 0 0,zo 9 (.len 1 (.t 8)) 1,zo 10 (.bin .lss (.t 9) (.c (.int .i64 11))) 3,zm 11 10 7,zg 12 0 11 false 15,zh 13 (.len 1 (.t 12)) 11 false 31,zh 14 (.bin .gtr (.t 13) (.c (.int .i64 512))) 11 false 63,zq 15 11 14 127]
def f32r2:LO:=[zo 2 (.move (.c .nilp)) 0,zo 3 (.move (.c (.int .i64 30))) 1]
def f32r3:LO:=[zm 16 0 0,zo 17 (.build [(.is [] .nil)] [(0,1,(.t 16))]) 1,zo 18 (.box false (.t 17)) 3,⟨some 19,.call (.c (.fn 34 [] [])) [(.t 18)],none,1,7⟩,⟨some 4,.move (.t 19),none,1,15⟩]
def f32r4:LO:=[zo 5 (.move (.c (.int .i64 0))) 0]
def f32r5:LO:=[zm 20 5 0,zm 21 4 0,zo 22 (.nilCheck (.t 21)) 2,zf 23 0 22 6,zl 24 23 14,zo 25 (.len 1 (.t 24)) 30,zo 26 (.bin .lss (.t 20) (.t 25)) 63]
def f32r6:LO:=[zm 29 4 0,zm 30 5 0,zo 31 (.call (.c (.fn 81 [] [])) [(.t 29),(.t 30)]) 3,zo 32 (.un .not (.t 31)) 7,zm 33 32 15,zg 34 4 33 false 31,zg 35 5 33 false 31,zh 36 (.call (.c (.fn 82 [] [])) [(.t 34),(.t 35)]) 33 false 127,zq 37 33 36 255]
def f32r7:LO:=[zo 2 (.move (.c .nilp)) 0,zo 3 (.move (.c (.int .i64 30))) 1]
def f32r8:LO:=[zm 27 5 0,zo 28 (.bin .add (.t 27) (.c (.int .i64 1))) 1,zm 5 28 3]
def f32m5:ACode :=
 .seq (.seq (zr f32r5 [4,5,26] 0)
 (.cond (.t 26)
  (.skip)
  (.exit 0)))
 (.seq (.block 1 (.seq (zr f32r6 [4,5,37] 0)
  (.cond (.t 37)
   (.seq (zr f32r7 [2,3] 0)
   (.ret))
   (.skip))))
 (zr f32r8 [4,5] 0))
def f32l5:ACode:=f32m5
theorem f32l5_b:DB f32l5 f32m5:=rfl
def f32r9:LO:=[zm 38 4 0,zo 39 (.call (.c (.fn 83 [] [])) [(.t 38)]) 1,zm 6 39 3]
def f32r10:LO:=[zo 7 (.move (.c (.int .i64 0))) 0]
def f32r11:LO:=[zm 40 7 0,zm 41 6 0,zo 42 (.len 1 (.t 41)) 2,zo 43 (.bin .lss (.t 40) (.t 42)) 7]
def f32r12:LO:=[zm 46 6 0,zm 47 7 0,zo 48 (.idxAddr 1 (.t 46) (.t 47)) 3,zl 49 48 7,zo 50 (.un .not (.t 49)) 15]
def f32r13:LO:=[zo 2 (.move (.c .nilp)) 0,zo 3 (.move (.c (.int .i64 30))) 1]
def f32r14:LO:=[zm 44 7 0,zo 45 (.bin .add (.t 44) (.c (.int .i64 1))) 1,zm 7 45 3]
def f32m11:ACode :=
 .seq (.seq (zr f32r11 [4,6,7,43] 0)
 (.cond (.t 43)
  (.skip)
  (.exit 2)))
 (.seq (.block 3 (.seq (zr f32r12 [4,6,7,50] 0)
  (.cond (.t 50)
   (.seq (zr f32r13 [2,3] 0)
   (.ret))
   (.skip))))
 (zr f32r14 [4,6,7] 0))
def f32l11:ACode:=f32m11
theorem f32l11_b:DB f32l11 f32m11:=rfl
def f32r15:LO:=[zm 51 4 0,zm 2 51 1,zo 3 (.move (.c (.int .i64 0))) 3]
def f32c:ACode :=
 .seq (zr f32r0 [0] 0)
 (.seq (.seq (zr f32r1 [0,15] 0)
 (.cond (.t 15)
  (.seq (zr f32r2 [2,3] 0)
  (.ret))
  (.skip)))
 (.seq (zr f32r3 [4] 1)
 (.seq (.seq (zr f32r4 [4,5] 0)
 (.block 0 (.loop f32l5)))
 (.seq (zr f32r9 [4,6] 0)
 (.seq (.seq (zr f32r10 [4,6,7] 0)
 (.block 2 (.loop f32l11)))
 (.seq (zr f32r15 [2,3] 0)
 (.ret)))))))
def f32:AFn:=⟨1,52,[.tmp 2,.tmp 3],f32c,0,none⟩
def f32k:=kI [0,1,2,3,4,5,7,8,6,9,10,11,13,14,12,15] f32c
def f32v:List Nat:=[]
def f33r0:LO:=[zo 2 (.move (.c .nilp)) 0,zo 3 (.move (.c (.int .i64 0))) 1]
def f33r1:LO:=[zo 15 (.call (.c (.fn 35 [] [])) []) 0,zm 4 15 1]
def f33r2:LO:=[zm 16 4 0,zo 17 (.nilCheck (.t 16)) 1,zf 18 0 17 3,zl 19 18 7,zo 20 (.len 1 (.t 19)) 15,zm 5 20 31]
def f33r3:LO:=[zm 21 0 0,zo 22 (.len 1 (.t 21)) 1,zm 23 5 0,zo 24 (.bin .lss (.t 22) (.t 23)) 7,zm 25 24 15,zg 26 0 25 false 31,zh 27 (.len 1 (.t 26)) 25 false 63,zh 28 (.bin .gtr (.t 27) (.c (.int .i64 512))) 25 false 127,zq 29 25 28 255]
def f33r4:LO:=[zo 2 (.move (.c .nilp)) 0,zo 3 (.move (.c (.int .i64 30))) 1]
def f33r5:LO:=[zm 30 0 0,zo 31 (.len 1 (.t 30)) 1,zo 32 (.move (.c (.int .i64 0))) 0]
def f33r6:LO:=[zo 33 (.bin .lss (.t 32) (.t 31)) 0]
def f33r7:LO:=[zm 34 32 0,zo 35 (.idxAddr 6 (.t 30) (.t 32)) 0,zo 36 (.load true 6 (.t 35)) 2,zo 7 (.alloc false [(.int .i64 0),(.int .i64 0),(.int .i64 0),(.str []),(.is [] .nil),(.bool false)]) 0,⟨some 6,.move (.t 34),none,1,15⟩,⟨none,.store 6 (.t 7) (.t 36),none,1,31⟩]
def f33r8:LO:=[zm 37 6 0,zm 38 5 0,zo 39 (.bin .lss (.t 37) (.t 38)) 3]
def f33q9:LO:=[zf 40 0 7 0,zl 41 40 1,zm 42 4 0,zo 43 (.nilCheck (.t 42)) 4,zf 44 0 43 12,zl 45 44 28,zm 46 6 0,zo 47 (.idxAddr 6 (.t 45) (.t 46)) 124,zf 48 0 47 252,zl 49 48 508,zo 50 (.bin .neq (.t 41) (.t 49)) 1023,zm 51 50 2047,zh 52 (.fieldAddr 1 (.t 7)) 51 false 4095,zh 53 (.load false 1 (.t 52)) 51 false 8191,zh 54 (.bin .neq (.t 53) (.c (.int .i64 0))) 51 false 16383,zq 55 51 54 32767,zm 56 55 65535,zh 57 (.fieldAddr 2 (.t 7)) 56 false 131071,zh 58 (.load false 1 (.t 57)) 56 false 262143,zh 59 (.bin .neq (.t 58) (.c (.int .i64 0))) 56 false 524287,zq 60 56 59 1048575,zm 61 60 2097151,zh 62 (.fieldAddr 3 (.t 7)) 61 false 4194303,zh 63 (.load false 1 (.t 62)) 61 false 8388607,zh 64 (.bin .neq (.t 63) (.c (.str []))) 61 false 16777215,zq 65 61 64 33554431,zm 66 65 67108863,zh 67 (.fieldAddr 4 (.t 7)) 66 false 134217727,zh 68 (.load false 1 (.t 67)) 66 false 268435455,zh 69 (.len 1 (.t 68)) 66 false 536870911,zh 70 (.bin .gtr (.t 69) (.c (.int .i64 0))) 66 false 1073741823,zq 71 66 70 2147483647,zm 72 71 4294967295,zh 73 (.fieldAddr 5 (.t 7)) 72 false 8589934591,zh 74 (.load false 1 (.t 73)) 72 false 17179869183,zq 75 72 74 34359738367]
def f33r9:LO:=f33q9
def f33r10:LO:=[zo 2 (.move (.c .nilp)) 0,zo 3 (.move (.c (.int .i64 30))) 1]
def f33r11:LO:=[zm 76 4 0,zm 77 4 0,zo 78 (.nilCheck (.t 77)) 2,zf 79 0 78 6,zl 80 79 14,zo 81 (.load true 6 (.t 7)) 0,zo 82 (.call (.c (.fn 84 [] [])) [(.t 81)]) 32,zo 83 (.buildSlice false 6 1 [(.int .i64 0),(.int .i64 0),(.int .i64 0),(.str []),(.is [] .nil),(.bool false)] [(0,6,(.t 82))]) 96,⟨some 84,.append false 6 72 (.t 80) (.t 83),none,1,254⟩,⟨some 85,.nilCheck (.t 76),none,2,511⟩,⟨some 86,.fieldAddr 0 (.t 85),none,2,1023⟩,⟨none,.store 1 (.t 86) (.t 84),none,2,2047⟩]
def f33r12:LO:=[zm 87 4 0,zm 88 6 0,zo 89 (.call (.c (.fn 85 [] [])) [(.t 87),(.t 88)]) 3,zo 90 (.un .not (.t 89)) 7]
def f33r13:LO:=[zo 2 (.move (.c .nilp)) 0,zo 3 (.move (.c (.int .i64 30))) 1]
def f33r14:LO:=[zf 91 0 7 0,zl 92 91 1,zo 93 (.bin .eql (.t 92) (.c (.int .i64 13))) 3,zm 94 93 7,zh 95 (.fieldAddr 0 (.t 7)) 94 false 15,zh 96 (.load false 1 (.t 95)) 94 false 31,zh 97 (.bin .eql (.t 96) (.c (.int .i64 14))) 94 false 63,zq 98 94 97 127]
def f33r15:LO:=[zf 99 0 7 0,zl 100 99 1,zf 101 1 7 0,zl 102 101 4,zf 103 2 7 0,zl 104 103 16,zo 105 (.build [(.int .i64 0),(.int .i64 0),(.int .i64 0)] [(0,1,(.t 100)),(1,1,(.t 102)),(2,1,(.t 104))]) 63,zo 8 (.alloc false [(.int .i64 0),(.int .i64 0),(.int .i64 0)]) 0,⟨none,.store 3 (.t 8) (.t 105),none,1,255⟩]
def f33q16:LO:=[zm 107 4 0,zo 108 (.nilCheck (.t 107)) 1,zf 109 1 108 3,zl 110 109 7,zo 111 (.load true 3 (.t 8)) 0,zo 112 (.lookup true [.int .i64,.int .i64,.int .i64] (.int .i64 0) true (.t 110) (.t 111)) 31,zm 106 112 63,ze 113 106 0 127,ze 114 106 1 127,zm 9 113 255,zm 10 114 1023]
def f33r16:LO:=f33q16
def f33r17:LO:=[zm 115 10 0]
def f33r18:LO:=[zo 2 (.move (.c .nilp)) 0,zo 3 (.move (.c (.int .i64 30))) 1]
def f33q19:LO:=[zm 116 4 0,zo 117 (.nilCheck (.t 116)) 1,zf 118 1 117 3,zl 119 118 7,zo 120 (.load true 3 (.t 8)) 0,zm 121 6 0,zn (.mapUpdate true [.int .i64,.int .i64,.int .i64] (.t 119) (.t 120) (.t 121)) 63]
def f33r19:LO:=f33q19
def f33r20:LO:=[zo 122 (.bin .add (.t 32) (.c (.int .i64 1))) 0,zm 32 122 1]
def f33m6:ACode :=
 .seq (zr f33r6 [0,4,5,30,31,32,33] 0)
 (.seq (.cond (.t 33)
  (.skip)
  (.exit 0))
 (.seq (.block 1 (.seq (zr f33r7 [0,4,5,6,7,30,31,32] 1)
  (.seq (.seq (zr f33r8 [0,4,5,6,7,30,31,32,39] 0)
  (.cond (.t 39)
   (.seq (.seq (.region true f33r9 [0,4,5,30,31,32,75] 0)
   (.cond (.t 75)
    (.seq (zr f33r10 [2,3] 0)
    (.ret))
    (.skip)))
   (.exit 1))
   (.skip)))
  (.seq (.region true f33r11 [0,4,5,6,7,30,31,32] 2)
  (.seq (.seq (zr f33r12 [0,4,5,6,7,30,31,32,90] 0)
  (.cond (.t 90)
   (.seq (zr f33r13 [2,3] 0)
   (.ret))
   (.skip)))
  (.seq (zr f33r14 [0,4,5,6,7,30,31,32,98] 0)
  (.cond (.t 98)
   (.seq (zr f33r15 [0,4,5,6,8,30,31,32] 1)
   (.seq (.seq (.region true f33r16 [0,4,5,6,8,10,30,31,32] 0)
   (.seq (zr f33r17 [0,4,5,6,8,30,31,32,115] 0)
   (.cond (.t 115)
    (.seq (zr f33r18 [2,3] 0)
    (.ret))
    (.skip))))
   (.region true f33r19 [0,4,5,30,31,32] 0)))
   (.skip))))))))
 (zr f33r20 [0,4,5,30,31,32] 0)))
def f33l6:ACode:=f33m6
theorem f33l6_b:DB f33l6 f33m6:=rfl
def f33r21:LO:=[zm 123 0 0,zo 124 (.len 1 (.t 123)) 1,zo 125 (.mkSlice false 1 8 [(.int .i64 0)] (.t 124) (.t 124)) 3,⟨some 11,.move (.t 125),none,1,7⟩]
def f33r22:LO:=[zm 126 4 0,zo 127 (.nilCheck (.t 126)) 1,zf 128 0 127 3,zl 129 128 7,zo 130 (.len 1 (.t 129)) 15,zo 131 (.move (.c (.int .i64 0))) 0]
def f33r23:LO:=[zo 132 (.bin .lss (.t 131) (.t 130)) 0]
def f33r24:LO:=[zo 133 (.idxAddr 6 (.t 129) (.t 131)) 0,zo 134 (.load true 6 (.t 133)) 1,zo 13 (.alloc false [(.int .i64 0),(.int .i64 0),(.int .i64 0),(.str []),(.is [] .nil),(.bool false)]) 0,⟨none,.store 6 (.t 13) (.t 134),none,1,7⟩]
def f33r25:LO:=[zf 135 0 13 0,zl 136 135 1,zo 137 (.bin .eql (.t 136) (.c (.int .i64 14))) 3,zm 138 137 7,zg 139 4 138 true 15,zh 140 (.fieldAddr 1 (.t 13)) 138 true 15,zh 141 (.load false 1 (.t 140)) 138 true 47,zh 142 (.call (.c (.fn 86 [] [])) [(.t 139),(.t 141)]) 138 true 127,zh 143 (.un .not (.t 142)) 138 true 255,za 144 138 143 511,zm 145 144 1023,zh 146 (.fieldAddr 5 (.t 13)) 145 false 2047,zh 147 (.load false 1 (.t 146)) 145 false 4095,zg 148 147 145 false 8191,zg 149 4 148 true 16383,zh 150 (.fieldAddr 4 (.t 13)) 148 true 16383,zh 151 (.load false 1 (.t 150)) 148 true 49151,zh 152 (.call (.c (.fn 87 [] [])) [(.t 149),(.t 151)]) 148 true 131071,zh 153 (.bin .neq (.t 152) (.c (.int .i64 0))) 148 true 262143,zh 154 (.pick (.t 148) (.t 153) (.c (.bool false))) 145 false 524287,zq 155 145 154 1048575]
def f33r26:LO:=[zo 2 (.move (.c .nilp)) 0,zo 3 (.move (.c (.int .i64 30))) 1]
def f33r27:LO:=[zo 156 (.bin .add (.t 131) (.c (.int .i64 1))) 0,zm 131 156 1]
def f33m23:ACode :=
 .seq (zr f33r23 [4,11,129,130,131,132] 0)
 (.seq (.cond (.t 132)
  (.skip)
  (.exit 2))
 (.seq (.block 3 (.seq (zr f33r24 [4,11,13,129,130,131] 1)
  (.seq (zr f33r25 [4,11,129,130,131,155] 0)
  (.cond (.t 155)
   (.seq (zr f33r26 [2,3] 0)
   (.ret))
   (.skip)))))
 (zr f33r27 [4,11,129,130,131] 0)))
def f33l23:ACode:=f33m23
theorem f33l23_b:DB f33l23 f33m23:=rfl
def f33r28:LO:=[zm 157 4 0,zo 158 (.nilCheck (.t 157)) 1,zf 159 0 158 3,zl 160 159 7,zo 161 (.len 1 (.t 160)) 15,zo 162 (.move (.c (.int .i64 0))) 0]
def f33r29:LO:=[zo 163 (.bin .lss (.t 162) (.t 161)) 0]
def f33r30:LO:=[zm 164 162 0,zm 14 164 1]
def f33r31:LO:=[zm 165 4 0,zm 166 14 0,zm 167 11 0,zo 168 (.call (.c (.fn 88 [] [])) [(.t 165),(.t 166),(.t 167)]) 7,zo 169 (.un .not (.t 168)) 15]
def f33r32:LO:=[zo 2 (.move (.c .nilp)) 0,zo 3 (.move (.c (.int .i64 30))) 1]
def f33r33:LO:=[zo 170 (.bin .add (.t 162) (.c (.int .i64 1))) 0,zm 162 170 1]
def f33m29:ACode :=
 .seq (zr f33r29 [4,11,161,162,163] 0)
 (.seq (.cond (.t 163)
  (.skip)
  (.exit 4))
 (.seq (.block 5 (.seq (zr f33r30 [4,11,14,161,162] 0)
  (.seq (zr f33r31 [4,11,161,162,169] 0)
  (.cond (.t 169)
   (.seq (zr f33r32 [2,3] 0)
   (.ret))
   (.skip)))))
 (zr f33r33 [4,11,161,162] 0)))
def f33l29:ACode:=f33m29
theorem f33l29_b:DB f33l29 f33m29:=rfl
def f33r34:LO:=[zm 171 4 0,zm 2 171 1,zo 3 (.move (.c (.int .i64 0))) 3]
theorem f33r9_s:staticOK 0 f33r9=true:=by rfl
theorem f33r9_w:DW f33r9:=fun hr=>Brun_drawnS f33r9_s hr
theorem f33r9_u:DU f33r9 f33q9:=fun _ _ _ _ _=>rfl
theorem f33r16_s:staticOK 0 f33r16=true:=by rfl
theorem f33r16_w:DW f33r16:=fun hr=>Brun_drawnS f33r16_s hr
theorem f33r16_u:DU f33r16 f33q16:=fun _ _ _ _ _=>rfl
theorem f33r19_s:staticOK 0 f33r19=true:=by rfl
theorem f33r19_w:DW f33r19:=fun hr=>Brun_drawnS f33r19_s hr
theorem f33r19_u:DU f33r19 f33q19:=fun _ _ _ _ _=>rfl
def f33c:ACode :=
 .seq (zr f33r0 [0] 0)
 (.seq (zr f33r1 [0,4] 0)
 (.seq (zr f33r2 [0,4,5] 0)
 (.seq (.seq (zr f33r3 [0,4,5,29] 0)
 (.cond (.t 29)
  (.seq (zr f33r4 [2,3] 0)
  (.ret))
  (.skip)))
 (.seq (.seq (zr f33r5 [0,4,5,30,31,32] 0)
 (.block 0 (.loop f33l6)))
 (.seq (zr f33r21 [4,11] 1)
 (.seq (.seq (zr f33r22 [4,11,129,130,131] 0)
 (.block 2 (.loop f33l23)))
 (.seq (.seq (zr f33r28 [4,11,161,162] 0)
 (.block 4 (.loop f33l29)))
 (.seq (zr f33r34 [2,3] 0)
 (.ret)))))))))
def f33:AFn:=⟨1,172,[.tmp 2,.tmp 3],f33c,0,none⟩
def f33k:=kA f33c
def f33v:List Nat:=[]
def f34r0:LO:=[zo 2 (.move (.c .nilp)) 0]
def f34r1:LO:=[zo 5 (.build [(.is [] .nil)] []) 0,zo 6 (.box false (.t 5)) 1,⟨some 3,.move (.t 6),none,1,3⟩]
def f34r2:LO:=[zo 4 (.move (.c (.int .i64 0))) 0]
def f34r3:LO:=[zm 7 4 0,zm 8 0 0,zo 9 (.nilCheck (.t 8)) 2,zf 10 0 9 6,zl 11 10 14,zo 12 (.len 1 (.t 11)) 30,zo 13 (.bin .lss (.t 7) (.t 12)) 63]
def f34r4:LO:=[zm 16 3 0,zm 17 3 0,zo 18 (.nilCheck (.t 17)) 2,zf 19 0 18 6,zl 20 19 14,zm 21 0 0,zo 22 (.nilCheck (.t 21)) 32,zf 23 0 22 96,zl 24 23 224,zm 25 4 0,zo 26 (.idxAddr 6 (.t 24) (.t 25)) 992,zo 27 (.load true 6 (.t 26)) 2016,zo 28 (.call (.c (.fn 89 [] [])) [(.t 27)]) 4064,zo 29 (.buildSlice true 6 1 [(.int .i64 0),(.int .i64 0),(.int .i64 0),(.str []),(.is [] .nil),(.bool false)] [(0,6,(.t 28))]) 8160,zo 30 (.append true 6 72 (.t 20) (.t 29)) 16382,⟨some 31,.nilCheck (.t 16),none,1,32767⟩,⟨some 32,.fieldAddr 0 (.t 31),none,1,65535⟩,⟨none,.store 1 (.t 32) (.t 30),none,1,131071⟩]
def f34r5:LO:=[zm 14 4 0,zo 15 (.bin .add (.t 14) (.c (.int .i64 1))) 1,zm 4 15 3]
def f34m3:ACode :=
 .seq (.seq (zr f34r3 [0,3,4,13] 0)
 (.cond (.t 13)
  (.skip)
  (.exit 0)))
 (.seq (.block 1 (.region true f34r4 [0,3,4] 1))
 (zr f34r5 [0,3,4] 0))
def f34l3:ACode:=f34m3
theorem f34l3_b:DB f34l3 f34m3:=rfl
def f34r6:LO:=[zm 33 3 0,zm 2 33 1]
def f34c:ACode :=
 .seq (zr f34r0 [0] 0)
 (.seq (zr f34r1 [0,3] 1)
 (.seq (.seq (zr f34r2 [0,3,4] 0)
 (.block 0 (.loop f34l3)))
 (.seq (zr f34r6 [2] 0)
 (.ret))))
def f34:AFn:=⟨1,34,[.tmp 2],f34c,0,none⟩
def f34k:=kI [0,1,2,3,5,4,6] f34c
def f34v:List Nat:=[30,29]
def f35r0:LO:=[zo 0 (.move (.c .nilp)) 0]
def f35r1:LO:=[zo 3 (.mkMap) 0,⟨some 4,.build [(.is [] .nil),.nilm] [(1,1,(.t 3))],none,1,1⟩,⟨some 5,.box false (.t 4),none,1,3⟩,⟨some 1,.move (.t 5),none,2,7⟩]
def f35r2:LO:=[zo 2 (.move (.c (.int .i64 1))) 0]
def f35r3:LO:=[zm 6 2 0,zo 7 (.bin .leq (.t 6) (.c (.int .i64 11))) 1]
def f35r4:LO:=[zm 10 1 0,zm 11 1 0,zo 12 (.nilCheck (.t 11)) 2,zf 13 0 12 6,zl 14 13 14,zm 15 2 0,zo 16 (.build [(.int .i64 0),(.int .i64 0),(.int .i64 0),(.str []),(.is [] .nil),(.bool false)] [(0,1,(.t 15))]) 32,zo 17 (.buildSlice false 6 1 [(.int .i64 0),(.int .i64 0),(.int .i64 0),(.str []),(.is [] .nil),(.bool false)] [(0,6,(.t 16))]) 96,⟨some 18,.append false 6 72 (.t 14) (.t 17),none,1,254⟩,⟨some 19,.nilCheck (.t 10),none,2,511⟩,⟨some 20,.fieldAddr 0 (.t 19),none,2,1023⟩,⟨none,.store 1 (.t 20) (.t 18),none,2,2047⟩]
def f35r5:LO:=[zm 8 2 0,zo 9 (.bin .add (.t 8) (.c (.int .i64 1))) 1,zm 2 9 3]
def f35m3:ACode :=
 .seq (.seq (zr f35r3 [1,2,7] 0)
 (.cond (.t 7)
  (.skip)
  (.exit 0)))
 (.seq (.block 1 (zr f35r4 [1,2] 2))
 (zr f35r5 [1,2] 0))
def f35l3:ACode:=f35m3
theorem f35l3_b:DB f35l3 f35m3:=rfl
def f35r6:LO:=[zm 21 1 0,zm 0 21 1]
def f35c:ACode :=
 .seq (zr f35r0 [] 0)
 (.seq (zr f35r1 [1] 2)
 (.seq (.seq (zr f35r2 [1,2] 0)
 (.block 0 (.loop f35l3)))
 (.seq (zr f35r6 [0] 0)
 (.ret))))
def f35:AFn:=⟨0,22,[.tmp 0],f35c,0,none⟩
def f35k:=kI [0,1,2,3,5,4,6] f35c
def f35v:List Nat:=[]
def f36r0:LO:=[zo 4 (.move (.c (.int .i64 0))) 0,zo 5 (.move (.c (.int .i64 0))) 1]
def f36r1:LO:=[zm 7 0 0,zo 8 (.call (.c (.fn 90 [] [])) [(.t 7)]) 1,zo 9 (.un .not (.t 8)) 3,zm 6 9 7]
def f36r2:LO:=[zo 4 (.move (.c (.int .i64 0))) 0,zo 5 (.move (.c (.int .i64 1))) 1]
def f36r3:LO:=[zm 11 0 0,zm 12 1 0,zo 13 (.call (.c (.fn 91 [] [])) [(.t 11),(.t 12)]) 3,zo 14 (.un .not (.t 13)) 7,zm 10 14 15]
def f36r4:LO:=[zo 4 (.move (.c (.int .i64 0))) 0,zo 5 (.move (.c (.int .i64 30))) 1]
def f36r5:LO:=[zm 15 0 0,zm 16 1 0,zo 17 (.build [(.int .i64 0),(.int .i64 0),(.int .i64 0)] [(0,1,(.c (.int .i64 13))),(1,1,(.t 16)),(2,1,(.c (.int .i64 0)))]) 2,zo 18 (.call (.c (.fn 92 [] [])) [(.t 15),(.t 17)]) 7,ze 19 18 0 15,ze 20 18 1 15,zm 4 19 63,zm 5 20 127]
def f36c:ACode :=
 .seq (zr f36r0 [0,1] 0)
 (.seq (.block 0 (.seq (zr f36r1 [0,1,6] 0)
  (.cond (.t 6)
   (.seq (zr f36r2 [4,5] 0)
   (.ret))
   (.seq (zr f36r3 [0,1,10] 0)
   (.cond (.t 10)
    (.seq (zr f36r4 [4,5] 0)
    (.ret))
    (.skip))))))
 (.seq (zr f36r5 [4,5] 0)
 (.ret)))
def f36:AFn:=⟨2,21,[.tmp 4,.tmp 5],f36c,1,none⟩
def f36k:=kI [0,1,4,3,2,5] f36c
def f36v:List Nat:=[]
def f37r0:LO:=[zo 8 (.move (.c (.int .u32 0))) 0,zo 9 (.move (.c (.int .i64 0))) 1]
def f37r1:LO:=[zm 13 0 0,zo 14 (.call (.c (.fn 38 [] [])) [(.t 13)]) 1,zo 15 (.un .not (.t 14)) 3,zm 16 15 7,zg 17 1 16 false 15,zh 18 (.call (.c (.fn 93 [] [])) [(.t 17)]) 16 false 31,zh 19 (.bin .eql (.t 18) (.c (.str []))) 16 false 63,zq 20 16 19 127]
def f37r2:LO:=[zo 8 (.move (.c (.int .u32 0))) 0,zo 9 (.move (.c (.int .i64 70))) 1]
def f37r3:LO:=[zo 10 (.move (.c (.fn 94 [] []))) 0]
def f37r4:LO:=[zm 22 10 0,zm 23 1 0,zm 24 2 0,zm 25 3 0,zo 26 (.call (.t 22) [(.t 23),(.t 24),(.t 25)]) 15,zm 21 26 31,ze 27 21 0 63,ze 28 21 1 63,zm 11 27 127,zm 12 28 511]
def f37r5:LO:=[zm 29 12 0,zo 30 (.un .not (.t 29)) 1]
def f37r6:LO:=[zo 8 (.move (.c (.int .u32 0))) 0,zo 9 (.move (.c (.int .i64 71))) 1]
def f37r7:LO:=[zm 31 0 0,zm 32 11 0,zo 33 (.call (.c (.fn 95 [] [])) [(.t 31),(.t 32)]) 3,zm 8 33 7,zo 9 (.move (.c (.int .i64 0))) 15]
def f37c:ACode :=
 .seq (zr f37r0 [0,1,2,3] 0)
 (.seq (.seq (zr f37r1 [0,1,2,3,20] 0)
 (.cond (.t 20)
  (.seq (zr f37r2 [8,9] 0)
  (.ret))
  (.skip)))
 (.seq (zr f37r3 [0,1,2,3,10] 0)
 (.seq (zr f37r4 [0,11,12] 0)
 (.seq (.seq (zr f37r5 [0,11,30] 0)
 (.cond (.t 30)
  (.seq (zr f37r6 [8,9] 0)
  (.ret))
  (.skip)))
 (.seq (zr f37r7 [8,9] 0)
 (.ret))))))
def f37:AFn:=⟨4,34,[.tmp 8,.tmp 9],f37c,1,none⟩
def f37k:=kA f37c
def f37v:List Nat:=[]
def f38r0:LO:=[zo 2 (.move (.c (.bool false))) 0]
def f38r1:LO:=[zm 3 0 0,zo 4 (.bin .geq (.t 3) (.c (.int .i64 2))) 1,zm 5 4 3,zg 6 0 5 true 7,zh 7 (.bin .leq (.t 6) (.c (.int .i64 12))) 5 true 15,za 8 5 7 31,zm 2 8 63]
def f38c:ACode :=
 .seq (zr f38r0 [0] 0)
 (.seq (zr f38r1 [2] 0)
 (.ret))
def f38:AFn:=⟨1,9,[.tmp 2],f38c,1,none⟩
def f38k:=kA f38c
def f38v:List Nat:=[]
def f39r0:LO:=[zo 4 (.move (.c (.bool false))) 0]
def f39r1:LO:=[zl 5 1 0,zm 6 0 0,zo 7 (.bin .eql (.t 5) (.t 6)) 3,zm 8 7 7,zh 9 (.load false 1 (.t 2)) 8 false 15,zg 10 0 8 false 15,zh 11 (.bin .eql (.t 9) (.t 10)) 8 false 63,zq 12 8 11 127,zm 4 12 255]
def f39c:ACode :=
 .seq (zr f39r0 [0,1,2] 0)
 (.seq (zr f39r1 [4] 0)
 (.ret))
def f39:AFn:=⟨3,13,[.tmp 4],f39c,1,none⟩
def f39k:=kA f39c
def f39v:List Nat:=[]
def f40r0:LO:=[zo 4 (.move (.c (.int .i64 0))) 0]
def f40r1:LO:=[zm 7 0 0,zo 8 (.call (.c (.fn 63 [] [])) [(.t 7)]) 1,zo 9 (.bin .eql (.t 8) (.c (.int .i64 0))) 3]
def f40r2:LO:=[zo 4 (.move (.c (.int .i64 1))) 0]
def f40r3:LO:=[zm 10 1 0,zo 11 (.len 1 (.t 10)) 1,zo 12 (.move (.c (.int .i64 0))) 0]
def f40r4:LO:=[zo 13 (.bin .lss (.t 12) (.t 11)) 0]
def f40r5:LO:=[zo 14 (.idxAddr 1 (.t 10) (.t 12)) 0,zl 15 14 1,zm 6 15 3]
def f40r6:LO:=[zm 16 6 0,zo 17 (.bin .lss (.t 16) (.c (.int .i64 0))) 1,zm 18 17 3,zg 19 6 18 false 7,zg 20 0 18 false 7,zh 21 (.call (.c (.fn 63 [] [])) [(.t 20)]) 18 false 23,zh 22 (.bin .geq (.t 19) (.t 21)) 18 false 63,zq 23 18 22 127]
def f40r7:LO:=[zo 4 (.move (.c (.int .i64 30))) 0]
def f40r8:LO:=[zo 24 (.bin .add (.t 12) (.c (.int .i64 1))) 0,zm 12 24 1]
def f40m4:ACode :=
 .seq (zr f40r4 [0,10,11,12,13] 0)
 (.seq (.cond (.t 13)
  (.skip)
  (.exit 0))
 (.seq (.block 1 (.seq (zr f40r5 [0,6,10,11,12] 0)
  (.seq (zr f40r6 [0,10,11,12,23] 0)
  (.cond (.t 23)
   (.seq (zr f40r7 [4] 0)
   (.ret))
   (.skip)))))
 (zr f40r8 [0,10,11,12] 0)))
def f40l4:ACode:=f40m4
theorem f40l4_b:DB f40l4 f40m4:=rfl
def f40r9:LO:=[zo 4 (.move (.c (.int .i64 0))) 0]
def f40c:ACode :=
 .seq (zr f40r0 [0,1] 0)
 (.seq (.seq (zr f40r1 [0,1,9] 0)
 (.cond (.t 9)
  (.seq (zr f40r2 [4] 0)
  (.ret))
  (.skip)))
 (.seq (.seq (zr f40r3 [0,10,11,12] 0)
 (.block 0 (.loop f40l4)))
 (.seq (zr f40r9 [4] 0)
 (.ret))))
def f40:AFn:=⟨2,25,[.tmp 4],f40c,1,none⟩
def f40k:=kA f40c
def f40v:List Nat:=[]
def f41r0:LO:=[zo 2 (.box false (.t 0)) 0,⟨some 4,.alloc false [(.int .i64 0),(.int .i64 0),(.int .i64 0),(.str []),(.is [] .nil),(.bool false)],none,1,0⟩]
def f41r1:LO:=[zf 8 0 2 0,zl 9 8 1,zm 10 1 0,zo 11 (.call (.c (.fn 71 [] [])) [(.t 9),(.t 10)]) 7,zm 7 11 15,ze 12 7 0 31,ze 13 7 1 31,zo 5 (.alloc false [(.int .i64 0),(.int .i64 0),(.int .i64 0),(.str []),(.is [] .nil),(.bool false)]) 0,⟨none,.store 6 (.t 5) (.t 12),none,1,191⟩,⟨some 6,.move (.t 13),none,1,511⟩]
def f41r2:LO:=[zo 14 (.load true 6 (.t 5)) 0,zn (.store 6 (.t 4) (.t 14)) 1]
def f41c:ACode :=
 .seq (zr f41r0 [1,2,4] 2)
 (.seq (zr f41r1 [4,5] 1)
 (.seq (zr f41r2 [4] 0)
 (.ret)))
def f41:AFn:=⟨2,15,[.cell 4 true 6],f41c,1,none⟩
def f41k:=kA f41c
def f41v:List Nat:=[]
def f42r0:LO:=[zo 2 (.box false (.t 0)) 0,⟨some 4,.move (.c (.bool false)),none,1,0⟩]
def f42r1:LO:=[zo 5 (.load true 1 (.t 2)) 0,zm 6 1 0,zo 7 (.call (.c (.fn 44 [] [])) [(.t 5),(.t 6)]) 3,zo 8 (.call (.c (.fn 38 [] [])) [(.t 7)]) 7,zm 4 8 15]
def f42c:ACode :=
 .seq (zr f42r0 [1,2] 1)
 (.seq (zr f42r1 [4] 0)
 (.ret))
def f42:AFn:=⟨2,9,[.tmp 4],f42c,1,none⟩
def f42k:=kA f42c
def f42v:List Nat:=[]
def f43r0:LO:=[zo 3 (.box false (.t 0)) 0,⟨some 6,.move (.c (.bool false)),none,1,0⟩]
def f43r1:LO:=[zo 7 (.load true 1 (.t 3)) 0,zm 8 1 0,zo 9 (.call (.c (.fn 45 [] [])) [(.t 7),(.t 8)]) 3,zm 10 9 7,zh 11 (.load true 1 (.t 3)) 10 true 15,zg 12 2 10 true 15,zh 13 (.call (.c (.fn 45 [] [])) [(.t 11),(.t 12)]) 10 true 63,za 14 10 13 127,zm 15 14 255,zg 16 1 15 true 511,zg 17 2 15 true 511,zh 18 (.bin .eql (.t 16) (.t 17)) 15 true 2047,zg 19 18 15 true 4095,zh 20 (.load true 1 (.t 3)) 19 false 8191,zg 21 1 19 false 8191,zh 22 (.call (.c (.fn 59 [] [])) [(.t 20),(.t 21)]) 19 false 32767,zh 23 (.pick (.t 19) (.c (.bool true)) (.t 22)) 15 true 65535,zg 24 23 15 true 131071,zh 25 (.load true 1 (.t 3)) 24 false 262143,zg 26 2 24 false 262143,zh 27 (.call (.c (.fn 59 [] [])) [(.t 25),(.t 26)]) 24 false 1048575,zh 28 (.pick (.t 24) (.c (.bool true)) (.t 27)) 15 true 2097151,za 29 15 28 4194303,zm 6 29 8388607]
def f43c:ACode :=
 .seq (zr f43r0 [1,2,3] 1)
 (.seq (zr f43r1 [6] 0)
 (.ret))
def f43:AFn:=⟨3,30,[.tmp 6],f43c,1,none⟩
def f43k:=kA f43c
def f43v:List Nat:=[]
def f44r0:LO:=[zo 2 (.box false (.t 0)) 0,⟨some 4,.move (.c (.int .i64 0)),none,1,0⟩]
def f44r1:LO:=[zo 5 (.load true 1 (.t 2)) 0,zm 6 1 0,zo 7 (.call (.c (.fn 41 [] [])) [(.t 5),(.t 6)]) 3,zo 8 (.field false 0 1 (.t 7)) 7,zm 4 8 15]
def f44c:ACode :=
 .seq (zr f44r0 [1,2] 1)
 (.seq (zr f44r1 [4] 0)
 (.ret))
def f44:AFn:=⟨2,9,[.tmp 4],f44c,1,none⟩
def f44k:=kA f44c
def f44v:List Nat:=[]
def f45r0:LO:=[zo 2 (.box false (.t 0)) 0,⟨some 4,.move (.c (.bool false)),none,1,0⟩]
def f45r1:LO:=[zo 5 (.load true 1 (.t 2)) 0,zm 6 1 0,zo 7 (.call (.c (.fn 44 [] [])) [(.t 5),(.t 6)]) 3,zo 8 (.bin .eql (.t 7) (.c (.int .i64 13))) 7,zm 4 8 15]
def f45c:ACode :=
 .seq (zr f45r0 [1,2] 1)
 (.seq (zr f45r1 [4] 0)
 (.ret))
def f45:AFn:=⟨2,9,[.tmp 4],f45c,1,none⟩
def f45k:=kA f45c
def f45v:List Nat:=[]
def f46r0:LO:=[zo 6 (.alloc false (List.replicate 5 (.int .i64 0))) 0,⟨some 7,.move (.c (.int .i64 0)),none,1,0⟩]
def f46r1:LO:=[zm 16 1 0,zm 17 2 0,zo 18 (.call (.c (.fn 9 [] [])) [(.t 16),(.t 17)]) 3,zm 15 18 7,ze 19 15 0 15,ze 20 15 1 15,zm 8 19 31,zm 9 20 127]
def f46r2:LO:=[zm 21 8 0,zo 22 (.call (.c (.fn 57 [] [])) [(.t 21)]) 1,zo 10 (.alloc false [(.int .i64 0)]) 0,⟨none,.store 1 (.t 10) (.t 22),none,1,7⟩]
def f46r3:LO:=[zo 23 (.fn 96 [] [(.t 10)]) 0,zm 11 23 1]
def f46r4:LO:=[zo 24 (.call (.c (.fn 57 [] [])) [(.c (.int .i64 8))]) 0,zm 12 24 1]
def f46r5:LO:=[zm 25 0 0]
def f46r6:LO:=[zo 27 (.bin .eql (.t 25) (.c (.str [43]))) 0,zm 26 27 1]
def f46r7:LO:=[zm 28 11 0,zl 29 10 0,zo 30 (.call (.t 28) [(.c (.int .i64 1)),(.t 29)]) 3,ze 31 30 0 7,ze 32 30 1 7,zn (.store 5 (.t 6) (.t 31)) 31,zm 7 32 63]
def f46r8:LO:=[zo 34 (.bin .eql (.t 25) (.c (.str [45]))) 0,zm 33 34 1]
def f46r9:LO:=[zm 35 11 0,zl 36 10 0,zo 37 (.call (.t 35) [(.c (.int .i64 2)),(.t 36)]) 3,ze 38 37 0 7,ze 39 37 1 7,zn (.store 5 (.t 6) (.t 38)) 31,zm 7 39 63]
def f46r10:LO:=[zo 41 (.bin .eql (.t 25) (.c (.str [42]))) 0,zm 40 41 1]
def f46r11:LO:=[zm 42 11 0,zl 43 10 0,zo 44 (.call (.t 42) [(.c (.int .i64 3)),(.t 43)]) 3,ze 45 44 0 7,ze 46 44 1 7,zn (.store 5 (.t 6) (.t 45)) 31,zm 7 46 63]
def f46r12:LO:=[zo 48 (.bin .eql (.t 25) (.c (.str [47]))) 0,zm 47 48 1]
def f46q13:LO:=[zm 49 11 0,zm 50 8 0,zo 51 (.call (.c (.fn 97 [] [])) [(.t 50),(.c (.int .i64 4)),(.c (.int .i64 5))]) 2,zl 52 10 0,zo 53 (.call (.t 49) [(.t 51),(.t 52)]) 15,ze 54 53 0 31,ze 55 53 1 31,zn (.store 5 (.t 6) (.t 54)) 127,zm 7 55 255]
def f46r13:LO:=f46q13
def f46r14:LO:=[zo 57 (.bin .eql (.t 25) (.c (.str [37]))) 0,zm 56 57 1]
def f46q15:LO:=[zm 58 11 0,zm 59 8 0,zo 60 (.call (.c (.fn 97 [] [])) [(.t 59),(.c (.int .i64 6)),(.c (.int .i64 7))]) 2,zl 61 10 0,zo 62 (.call (.t 58) [(.t 60),(.t 61)]) 15,ze 63 62 0 31,ze 64 62 1 31,zn (.store 5 (.t 6) (.t 63)) 127,zm 7 64 255]
def f46r15:LO:=f46q15
def f46r16:LO:=[zo 66 (.bin .eql (.t 25) (.c (.str [38]))) 0,zm 65 66 1]
def f46r17:LO:=[zm 67 11 0,zl 68 10 0,zo 69 (.call (.t 67) [(.c (.int .i64 8)),(.t 68)]) 3,ze 70 69 0 7,ze 71 69 1 7,zn (.store 5 (.t 6) (.t 70)) 31,zm 7 71 63]
def f46r18:LO:=[zo 73 (.bin .eql (.t 25) (.c (.str [124]))) 0,zm 72 73 1]
def f46r19:LO:=[zm 74 11 0,zl 75 10 0,zo 76 (.call (.t 74) [(.c (.int .i64 9)),(.t 75)]) 3,ze 77 76 0 7,ze 78 76 1 7,zn (.store 5 (.t 6) (.t 77)) 31,zm 7 78 63]
def f46r20:LO:=[zo 80 (.bin .eql (.t 25) (.c (.str [94]))) 0,zm 79 80 1]
def f46r21:LO:=[zm 81 11 0,zl 82 10 0,zo 83 (.call (.t 81) [(.c (.int .i64 10)),(.t 82)]) 3,ze 84 83 0 7,ze 85 83 1 7,zn (.store 5 (.t 6) (.t 84)) 31,zm 7 85 63]
def f46r22:LO:=[zo 87 (.bin .eql (.t 25) (.c (.str [61,61]))) 0,zm 86 87 1]
def f46r23:LO:=[zm 88 11 0,zm 89 12 0,zo 90 (.call (.t 88) [(.c (.int .i64 14)),(.t 89)]) 3,ze 91 90 0 7,ze 92 90 1 7,zn (.store 5 (.t 6) (.t 91)) 31,zm 7 92 63]
def f46r24:LO:=[zo 94 (.bin .eql (.t 25) (.c (.str [33,61]))) 0,zm 93 94 1]
def f46r25:LO:=[zm 95 11 0,zm 96 12 0,zo 97 (.call (.t 95) [(.c (.int .i64 15)),(.t 96)]) 3,ze 98 97 0 7,ze 99 97 1 7,zn (.store 5 (.t 6) (.t 98)) 31,zm 7 99 63]
def f46r26:LO:=[zo 101 (.bin .eql (.t 25) (.c (.str [60]))) 0,zm 100 101 1]
def f46r27:LO:=[zo 102 (.bin .eql (.t 25) (.c (.str [62]))) 0,zm 100 102 1]
def f46r28:LO:=[zm 103 11 0,zm 104 8 0,zo 105 (.call (.c (.fn 97 [] [])) [(.t 104),(.c (.int .i64 16)),(.c (.int .i64 17))]) 2,zm 106 12 0,zo 107 (.call (.t 103) [(.t 105),(.t 106)]) 15,ze 108 107 0 31,ze 109 107 1 31,zn (.store 5 (.t 6) (.t 108)) 127,zm 7 109 255]
def f46r29:LO:=[zo 111 (.bin .eql (.t 25) (.c (.str [60,61]))) 0,zm 110 111 1]
def f46r30:LO:=[zo 112 (.bin .eql (.t 25) (.c (.str [62,61]))) 0,zm 110 112 1]
def f46r31:LO:=[zm 113 11 0,zm 114 8 0,zo 115 (.call (.c (.fn 97 [] [])) [(.t 114),(.c (.int .i64 18)),(.c (.int .i64 19))]) 2,zm 116 12 0,zo 117 (.call (.t 113) [(.t 115),(.t 116)]) 15,ze 118 117 0 31,ze 119 117 1 31,zn (.store 5 (.t 6) (.t 118)) 127,zm 7 119 255]
def f46r32:LO:=[zo 121 (.bin .eql (.t 25) (.c (.str [60,60]))) 0,zm 120 121 1]
def f46r33:LO:=[zo 122 (.bin .eql (.t 25) (.c (.str [62,62]))) 0,zm 120 122 1]
def f46r34:LO:=[zm 123 1 0,zo 124 (.call (.c (.fn 12 [] [])) [(.t 123),(.c (.int .i64 (-1)))]) 1,zm 13 124 3]
def f46r35:LO:=[zo 14 (.move (.c (.int .i64 11))) 0]
def f46r36:LO:=[zm 125 0 0,zo 126 (.bin .eql (.t 125) (.c (.str [62,62]))) 1]
def f46r37:LO:=[zm 127 13 0,zo 128 (.call (.c (.fn 97 [] [])) [(.t 127),(.c (.int .i64 12)),(.c (.int .i64 13))]) 1,zm 14 128 3]
def f46r38:LO:=[zm 129 14 0,zm 130 13 0,zo 131 (.call (.c (.fn 57 [] [])) [(.t 130)]) 2,zm 132 12 0,zm 133 13 0,zo 134 (.call (.c (.fn 57 [] [])) [(.t 133)]) 22,zo 135 (.build (List.replicate 5 (.int .i64 0)) [(0,1,(.t 129)),(1,1,(.t 131)),(2,1,(.t 132)),(3,1,(.t 134))]) 63,zn (.store 5 (.t 6) (.t 135)) 127,zo 7 (.move (.c (.int .i64 0))) 255]
def f46r39:LO:=[zo 136 (.build (List.replicate 5 (.int .i64 0)) []) 0,zn (.store 5 (.t 6) (.t 136)) 1,zo 7 (.move (.c (.int .i64 70))) 3]
theorem f46r13_s:staticOK 0 f46r13=true:=by rfl
theorem f46r13_w:DW f46r13:=fun hr=>Brun_drawnS f46r13_s hr
theorem f46r13_u:DU f46r13 f46q13:=fun _ _ _ _ _=>rfl
theorem f46r15_s:staticOK 0 f46r15=true:=by rfl
theorem f46r15_w:DW f46r15:=fun hr=>Brun_drawnS f46r15_s hr
theorem f46r15_u:DU f46r15 f46q15:=fun _ _ _ _ _=>rfl
def f46c:ACode :=
 .seq (zr f46r0 [0,1,2,6] 1)
 (.seq (zr f46r1 [0,1,6,8] 0)
 (.seq (zr f46r2 [0,1,6,8,10] 1)
 (.seq (zr f46r3 [0,1,6,8,10,11] 0)
 (.seq (zr f46r4 [0,1,6,8,10,11,12] 0)
 (.seq (.seq (zr f46r5 [0,1,6,8,10,11,12,25] 0)
 (.block 0 (.seq (zr f46r6 [0,1,6,8,10,11,12,25,26] 0)
  (.cond (.t 26)
   (.seq (zr f46r7 [6,7] 0)
   (.ret))
   (.seq (zr f46r8 [0,1,6,8,10,11,12,25,33] 0)
   (.cond (.t 33)
    (.seq (zr f46r9 [6,7] 0)
    (.ret))
    (.seq (zr f46r10 [0,1,6,8,10,11,12,25,40] 0)
    (.cond (.t 40)
     (.seq (zr f46r11 [6,7] 0)
     (.ret))
     (.seq (zr f46r12 [0,1,6,8,10,11,12,25,47] 0)
     (.cond (.t 47)
      (.seq (.region true f46r13 [6,7] 0)
      (.ret))
      (.seq (zr f46r14 [0,1,6,8,10,11,12,25,56] 0)
      (.cond (.t 56)
       (.seq (.region true f46r15 [6,7] 0)
       (.ret))
       (.seq (zr f46r16 [0,1,6,8,10,11,12,25,65] 0)
       (.cond (.t 65)
        (.seq (zr f46r17 [6,7] 0)
        (.ret))
        (.seq (zr f46r18 [0,1,6,8,10,11,12,25,72] 0)
        (.cond (.t 72)
         (.seq (zr f46r19 [6,7] 0)
         (.ret))
         (.seq (zr f46r20 [0,1,6,8,10,11,12,25,79] 0)
         (.cond (.t 79)
          (.seq (zr f46r21 [6,7] 0)
          (.ret))
          (.seq (zr f46r22 [0,1,6,8,11,12,25,86] 0)
          (.cond (.t 86)
           (.seq (zr f46r23 [6,7] 0)
           (.ret))
           (.seq (zr f46r24 [0,1,6,8,11,12,25,93] 0)
           (.cond (.t 93)
            (.seq (zr f46r25 [6,7] 0)
            (.ret))
            (.seq (.seq (zr f46r26 [0,1,6,8,11,12,25,100] 0)
            (.cond (.t 100)
             (.skip)
             (zr f46r27 [0,1,6,8,11,12,25,100] 0)))
            (.cond (.t 100)
             (.seq (zr f46r28 [6,7] 0)
             (.ret))
             (.seq (.seq (zr f46r29 [0,1,6,8,11,12,25,110] 0)
             (.cond (.t 110)
              (.skip)
              (zr f46r30 [0,1,6,8,11,12,25,110] 0)))
             (.cond (.t 110)
              (.seq (zr f46r31 [6,7] 0)
              (.ret))
              (.seq (.seq (zr f46r32 [0,1,6,12,25,120] 0)
              (.cond (.t 120)
               (.skip)
               (zr f46r33 [0,1,6,12,120] 0)))
              (.cond (.t 120)
               (.seq (zr f46r34 [0,6,12,13] 0)
               (.seq (zr f46r35 [0,6,12,13,14] 0)
               (.seq (.seq (zr f46r36 [6,12,13,14,126] 0)
               (.cond (.t 126)
                (zr f46r37 [6,12,13,14] 0)
                (.skip)))
               (.seq (zr f46r38 [6,7] 0)
               (.ret)))))
               (.skip)))))))))))))))))))))))))))))
 (.seq (zr f46r39 [6,7] 0)
 (.ret)))))))
def f46:AFn:=⟨3,137,[.cell 6 true 5,.tmp 7],f46c,1,none⟩
def f46k:=kI [0,1,2,3,4,5,6,38,8,31,10,28,12,25,14,23,16,21,18,19,20,17,22,15,24,13,26,27,11,29,30,9,32,33,34,35,36,37,7,39] f46c
def f46v:List Nat:=[]
def f47r0:LO:=[zo 4 (.box false (.t 0)) 0,⟨some 8,.alloc false (List.replicate 5 (.int .i64 0)),none,1,0⟩,⟨some 9,.move (.c (.int .i64 0)),none,2,0⟩]
def f47r1:LO:=[zm 14 2 0,zm 15 2 0,zo 16 (.call (.c (.fn 57 [] [])) [(.c (.int .i64 8))]) 0,zo 17 (.build (List.replicate 5 (.int .i64 0)) [(1,1,(.t 14)),(2,1,(.t 15)),(3,1,(.t 16))]) 7,zo 10 (.alloc false (List.replicate 5 (.int .i64 0))) 0,⟨none,.store 5 (.t 10) (.t 17),none,1,31⟩]
def f47r2:LO:=[zm 18 2 0,zm 19 3 0,zo 20 (.bin .eql (.t 18) (.t 19)) 3,zm 11 20 7]
def f47r3:LO:=[zm 21 1 0]
def f47r4:LO:=[zo 23 (.bin .eql (.t 21) (.c (.str [45]))) 0,zm 22 23 1]
def f47r5:LO:=[zm 24 11 0,zo 25 (.un .not (.t 24)) 1]
def f47q6:LO:=[zf 27 0 4 0,zl 28 27 1,zo 29 (.load true 1 (.t 4)) 0,zm 30 2 0,zo 31 (.call (.c (.fn 41 [] [])) [(.t 29),(.t 30)]) 12,zo 32 (.field false 1 1 (.t 31)) 28,zo 33 (.call (.c (.fn 66 [] [])) [(.t 28),(.t 32)]) 63,zm 26 33 127,ze 34 26 0 255,ze 35 26 1 255,zm 12 34 511,zm 13 35 2047]
def f47r6:LO:=f47q6
def f47r7:LO:=[zm 36 13 0,zo 37 (.bin .neq (.t 36) (.c (.int .i64 0))) 1]
def f47r8:LO:=[zo 38 (.build (List.replicate 5 (.int .i64 0)) []) 0,zm 39 13 0,zn (.store 5 (.t 8) (.t 38)) 1,zm 9 39 7]
def f47r9:LO:=[zm 40 12 0,zf 41 0 10 0,zn (.store 1 (.t 41) (.c (.int .i64 2))) 2,zf 42 4 10 7,zn (.store 1 (.t 42) (.t 40)) 15]
def f47r10:LO:=[zo 43 (.load true 5 (.t 10)) 0,zn (.store 5 (.t 8) (.t 43)) 1,zo 9 (.move (.c (.int .i64 0))) 3]
def f47r11:LO:=[zo 45 (.bin .eql (.t 21) (.c (.str [61,61]))) 0,zm 44 45 1]
def f47r12:LO:=[zo 46 (.bin .eql (.t 21) (.c (.str [33,61]))) 0,zm 44 46 1]
def f47r13:LO:=[zm 47 11 0,zo 48 (.un .not (.t 47)) 1,zm 49 48 3,zh 50 (.load true 1 (.t 4)) 49 true 7,zg 51 2 49 true 7,zh 52 (.call (.c (.fn 59 [] [])) [(.t 50),(.t 51)]) 49 true 31,zh 53 (.un .not (.t 52)) 49 true 63,za 54 49 53 127,zm 55 54 255,zh 56 (.load true 1 (.t 4)) 55 true 511,zg 57 3 55 true 511,zh 58 (.call (.c (.fn 59 [] [])) [(.t 56),(.t 57)]) 55 true 2047,zh 59 (.un .not (.t 58)) 55 true 4095,za 60 55 59 8191]
def f47r14:LO:=[zf 61 0 10 0,zn (.store 1 (.t 61) (.c (.int .i64 14))) 1]
def f47r15:LO:=[zm 62 1 0,zo 63 (.bin .eql (.t 62) (.c (.str [33,61]))) 1]
def f47r16:LO:=[zf 64 0 10 0,zn (.store 1 (.t 64) (.c (.int .i64 15))) 1]
def f47r17:LO:=[zo 65 (.load true 5 (.t 10)) 0,zn (.store 5 (.t 8) (.t 65)) 1,zo 9 (.move (.c (.int .i64 0))) 3]
def f47r18:LO:=[zo 67 (.bin .eql (.t 21) (.c (.str [60]))) 0,zm 66 67 1]
def f47r19:LO:=[zo 68 (.bin .eql (.t 21) (.c (.str [62]))) 0,zm 66 68 1]
def f47r20:LO:=[zf 69 0 10 0,zn (.store 1 (.t 69) (.c (.int .i64 17))) 1]
def f47r21:LO:=[zo 71 (.bin .eql (.t 21) (.c (.str [60,61]))) 0,zm 70 71 1]
def f47r22:LO:=[zo 72 (.bin .eql (.t 21) (.c (.str [62,61]))) 0,zm 70 72 1]
def f47r23:LO:=[zf 73 0 10 0,zn (.store 1 (.t 73) (.c (.int .i64 19))) 1]
def f47r24:LO:=[zf 74 0 10 0,zl 75 74 1,zo 76 (.bin .eql (.t 75) (.c (.int .i64 0))) 3,zm 77 76 7,zg 78 11 77 false 15,zh 79 (.un .not (.t 78)) 77 false 31,zq 80 77 79 63]
def f47r25:LO:=[zo 81 (.build (List.replicate 5 (.int .i64 0)) []) 0,zn (.store 5 (.t 8) (.t 81)) 1,zo 9 (.move (.c (.int .i64 70))) 3]
def f47r26:LO:=[zo 82 (.load true 5 (.t 10)) 0,zn (.store 5 (.t 8) (.t 82)) 1,zo 9 (.move (.c (.int .i64 0))) 3]
theorem f47r6_s:staticOK 0 f47r6=true:=by rfl
theorem f47r6_w:DW f47r6:=fun hr=>Brun_drawnS f47r6_s hr
theorem f47r6_u:DU f47r6 f47q6:=fun _ _ _ _ _=>rfl
def f47c:ACode :=
 .seq (zr f47r0 [1,2,3,4,8] 2)
 (.seq (zr f47r1 [1,2,3,4,8,10] 1)
 (.seq (zr f47r2 [1,2,3,4,8,10,11] 0)
 (.seq (.seq (zr f47r3 [1,2,3,4,8,10,11,21] 0)
 (.block 0 (.seq (zr f47r4 [1,2,3,4,8,10,11,21,22] 0)
  (.cond (.t 22)
   (.seq (.seq (zr f47r5 [2,4,8,10,11,25] 0)
   (.cond (.t 25)
    (.exit 0)
    (.skip)))
   (.seq (.region true f47r6 [8,10,12,13] 0)
   (.seq (.seq (zr f47r7 [8,10,12,13,37] 0)
   (.cond (.t 37)
    (.seq (zr f47r8 [8,9] 0)
    (.ret))
    (.skip)))
   (.seq (zr f47r9 [8,10] 0)
   (.seq (zr f47r10 [8,9] 0)
   (.ret))))))
   (.seq (.seq (zr f47r11 [1,2,3,4,8,10,11,21,44] 0)
   (.cond (.t 44)
    (.skip)
    (zr f47r12 [1,2,3,4,8,10,11,21,44] 0)))
   (.cond (.t 44)
    (.seq (.seq (zr f47r13 [1,8,10,11,60] 0)
    (.cond (.t 60)
     (.exit 0)
     (.skip)))
    (.seq (zr f47r14 [1,8,10] 0)
    (.seq (.seq (zr f47r15 [8,10,63] 0)
    (.cond (.t 63)
     (zr f47r16 [8,10] 0)
     (.skip)))
    (.seq (zr f47r17 [8,9] 0)
    (.ret)))))
    (.seq (.seq (zr f47r18 [8,10,11,21,66] 0)
    (.cond (.t 66)
     (.skip)
     (zr f47r19 [8,10,11,21,66] 0)))
    (.cond (.t 66)
     (zr f47r20 [8,10,11] 0)
     (.seq (.seq (zr f47r21 [8,10,11,21,70] 0)
     (.cond (.t 70)
      (.skip)
      (zr f47r22 [8,10,11,70] 0)))
     (.cond (.t 70)
      (zr f47r23 [8,10,11] 0)
      (.skip)))))))))))
 (.seq (.seq (zr f47r24 [8,10,80] 0)
 (.cond (.t 80)
  (.seq (zr f47r25 [8,9] 0)
  (.ret))
  (.skip)))
 (.seq (zr f47r26 [8,9] 0)
 (.ret))))))
def f47:AFn:=⟨4,83,[.cell 8 true 5,.tmp 9],f47c,1,none⟩
def f47k:=kI [0,1,2,3,4,5,6,7,17,16,8,11,12,13,14,15,9,10,18,19,23,21,22,20,24,25,26] f47c
def f47v:List Nat:=[]
def f48r0:LO:=[zo 3 (.box false (.t 0)) 0,⟨some 4,.box false (.t 1),none,1,0⟩,⟨some 6,.alloc false (List.replicate 5 (.int .i64 0)),none,2,0⟩,⟨some 7,.move (.c (.int .i64 0)),none,3,0⟩]
def f48q1:LO:=[zf 11 0 3 0,zl 12 11 1,zo 13 (.load true 1 (.t 3)) 0,zm 14 2 0,zo 15 (.call (.c (.fn 41 [] [])) [(.t 13),(.t 14)]) 12,zo 16 (.field false 1 1 (.t 15)) 28,zo 17 (.call (.c (.fn 66 [] [])) [(.t 12),(.t 16)]) 63,zm 10 17 127,ze 18 10 0 255,ze 19 10 1 255,zm 8 18 511,zm 9 19 2047]
def f48r1:LO:=f48q1
def f48r2:LO:=[zm 20 9 0,zo 21 (.bin .neq (.t 20) (.c (.int .i64 0))) 1]
def f48r3:LO:=[zo 22 (.build (List.replicate 5 (.int .i64 0)) []) 0,zm 23 9 0,zn (.store 5 (.t 6) (.t 22)) 1,zm 7 23 7]
def f48r4:LO:=[zm 24 2 0,zm 25 8 0,zf 26 3 4 1,zn (.store 1 (.t 26) (.t 24)) 5,zf 27 4 4 15,zn (.store 1 (.t 27) (.t 25)) 31]
def f48r5:LO:=[zo 28 (.load true 5 (.t 4)) 0,zn (.store 5 (.t 6) (.t 28)) 1,zo 7 (.move (.c (.int .i64 0))) 3]
theorem f48r1_s:staticOK 0 f48r1=true:=by rfl
theorem f48r1_w:DW f48r1:=fun hr=>Brun_drawnS f48r1_s hr
theorem f48r1_u:DU f48r1 f48q1:=fun _ _ _ _ _=>rfl
def f48c:ACode :=
 .seq (zr f48r0 [2,3,4,6] 3)
 (.seq (.region true f48r1 [2,4,6,8,9] 0)
 (.seq (.seq (zr f48r2 [2,4,6,8,9,21] 0)
 (.cond (.t 21)
  (.seq (zr f48r3 [6,7] 0)
  (.ret))
  (.skip)))
 (.seq (zr f48r4 [4,6] 0)
 (.seq (zr f48r5 [6,7] 0)
 (.ret)))))
def f48:AFn:=⟨3,29,[.cell 6 true 5,.tmp 7],f48c,1,none⟩
def f48k:=kA f48c
def f48v:List Nat:=[]
def f49r0:LO:=[zo 0 (.move (.c (.int .i64 0))) 0]
def f49r1:LO:=[zo 1 (.call (.c (.fn 57 [] [])) [(.c (.int .i64 8))]) 0,zm 0 1 1]
def f49c:ACode :=
 .seq (zr f49r0 [] 0)
 (.seq (zr f49r1 [0] 0)
 (.ret))
def f49:AFn:=⟨0,2,[.tmp 0],f49c,1,none⟩
def f49k:=kA f49c
def f49v:List Nat:=[]
def f50r0:LO:=[zo 4 (.move (.c (.bool false))) 0]
def f50r1:LO:=[zm 5 0 0,zm 6 1 0,zo 7 (.call (.c (.fn 10 [] [])) [(.t 5),(.t 6)]) 3,zo 8 (.bin .eql (.t 7) (.c (.int .i64 13))) 7,zm 4 8 15]
def f50c:ACode :=
 .seq (zr f50r0 [0,1] 0)
 (.seq (zr f50r1 [4] 0)
 (.ret))
def f50:AFn:=⟨2,9,[.tmp 4],f50c,1,none⟩
def f50k:=kA f50c
def f50v:List Nat:=[]
def f51r0:LO:=[zo 2 (.move (.c (.int .i64 0))) 0]
def f51r1:LO:=[zm 3 0 0,zo 4 (.bin .sub (.t 3) (.c (.int .i64 1))) 1,zm 2 4 3]
def f51c:ACode :=
 .seq (zr f51r0 [0] 0)
 (.seq (zr f51r1 [2] 0)
 (.ret))
def f51:AFn:=⟨1,5,[.tmp 2],f51c,1,none⟩
def f51k:=kA f51c
def f51v:List Nat:=[]
def f52r0:LO:=[zo 6 (.alloc false (List.replicate 5 (.int .i64 0))) 0,⟨some 7,.move (.c (.int .i64 0)),none,1,0⟩]
def f52r1:LO:=[zm 16 1 0,zm 17 2 0,zo 18 (.call (.c (.fn 60 [] [])) [(.t 16),(.t 17)]) 3,zm 15 18 7,ze 19 15 0 15,ze 20 15 1 15,zm 8 19 31,zm 9 20 127]
def f52r2:LO:=[zm 21 8 0,zo 22 (.call (.c (.fn 51 [] [])) [(.t 21)]) 1,zm 10 22 3]
def f52r3:LO:=[zm 23 0 0,zo 24 (.bin .eql (.t 23) (.c (.str [60,60]))) 1,zm 25 24 3,zg 26 0 25 false 7,zh 27 (.bin .eql (.t 26) (.c (.str [62,62]))) 25 false 15,zq 28 25 27 31]
def f52r4:LO:=[zm 29 1 0,zo 30 (.call (.c (.fn 58 [] [])) [(.t 29),(.c (.int .i64 (-1)))]) 1,zm 11 30 3]
def f52r5:LO:=[zm 31 11 0,zo 32 (.call (.c (.fn 51 [] [])) [(.t 31)]) 1,zo 33 (.call (.c (.fn 51 [] [])) [(.c (.int .i64 8))]) 3,zm 34 11 0,zo 35 (.call (.c (.fn 51 [] [])) [(.t 34)]) 15,zo 36 (.build (List.replicate 5 (.int .i64 0)) [(0,1,(.c (.int .i64 11))),(1,1,(.t 32)),(2,1,(.t 33)),(3,1,(.t 35))]) 31,zo 12 (.alloc false (List.replicate 5 (.int .i64 0))) 0,⟨none,.store 5 (.t 12) (.t 36),none,1,127⟩]
def f52r6:LO:=[zm 37 0 0,zo 38 (.bin .eql (.t 37) (.c (.str [62,62]))) 1]
def f52r7:LO:=[zm 39 11 0,zo 40 (.call (.c (.fn 98 [] [])) [(.t 39),(.c (.int .i64 12)),(.c (.int .i64 13))]) 1,zf 41 0 12 3,zn (.store 1 (.t 41) (.t 40)) 7]
def f52r8:LO:=[zo 42 (.load true 5 (.t 12)) 0,zn (.store 5 (.t 6) (.t 42)) 1,zo 7 (.move (.c (.int .i64 0))) 3]
def f52r9:LO:=[zm 43 0 0,zm 44 8 0,zo 45 (.call (.c (.fn 54 [] [])) [(.t 43),(.t 44)]) 3,zm 13 45 7]
def f52r10:LO:=[zm 46 13 0,zo 47 (.bin .neq (.t 46) (.c (.int .i64 0))) 1]
def f52r11:LO:=[zm 48 13 0,zm 49 10 0,zm 50 10 0,zo 51 (.call (.c (.fn 51 [] [])) [(.c (.int .i64 8))]) 0,zo 52 (.build (List.replicate 5 (.int .i64 0)) [(0,1,(.t 48)),(1,1,(.t 49)),(2,1,(.t 50)),(3,1,(.t 51))]) 15,zn (.store 5 (.t 6) (.t 52)) 31,zo 7 (.move (.c (.int .i64 0))) 63]
def f52r12:LO:=[zm 53 0 0,zm 54 8 0,zo 55 (.call (.c (.fn 99 [] [])) [(.t 53),(.t 54)]) 3,zm 14 55 7]
def f52r13:LO:=[zm 56 14 0,zo 57 (.bin .neq (.t 56) (.c (.int .i64 0))) 1]
def f52r14:LO:=[zm 58 14 0,zm 59 10 0,zm 60 10 0,zm 61 10 0,zo 62 (.build (List.replicate 5 (.int .i64 0)) [(0,1,(.t 58)),(1,1,(.t 59)),(2,1,(.t 60)),(3,1,(.t 61))]) 15,zn (.store 5 (.t 6) (.t 62)) 31,zo 7 (.move (.c (.int .i64 0))) 63]
def f52r15:LO:=[zo 63 (.build (List.replicate 5 (.int .i64 0)) []) 0,zn (.store 5 (.t 6) (.t 63)) 1,zo 7 (.move (.c (.int .i64 70))) 3]
def f52c:ACode :=
 .seq (zr f52r0 [0,1,2,6] 1)
 (.seq (zr f52r1 [0,1,6,8] 0)
 (.seq (zr f52r2 [0,1,6,8,10] 0)
 (.seq (.seq (zr f52r3 [0,1,6,8,10,28] 0)
 (.cond (.t 28)
  (.seq (zr f52r4 [0,6,11] 0)
  (.seq (zr f52r5 [0,6,11,12] 1)
  (.seq (.seq (zr f52r6 [6,11,12,38] 0)
  (.cond (.t 38)
   (zr f52r7 [6,12] 0)
   (.skip)))
  (.seq (zr f52r8 [6,7] 0)
  (.ret)))))
  (.skip)))
 (.seq (zr f52r9 [0,6,8,10,13] 0)
 (.seq (.seq (zr f52r10 [0,6,8,10,13,47] 0)
 (.cond (.t 47)
  (.seq (zr f52r11 [6,7] 0)
  (.ret))
  (.skip)))
 (.seq (zr f52r12 [6,10,14] 0)
 (.seq (.seq (zr f52r13 [6,10,14,57] 0)
 (.cond (.t 57)
  (.seq (zr f52r14 [6,7] 0)
  (.ret))
  (.skip)))
 (.seq (zr f52r15 [6,7] 0)
 (.ret)))))))))
def f52:AFn:=⟨3,64,[.cell 6 true 5,.tmp 7],f52c,1,none⟩
def f52k:=kA f52c
def f52v:List Nat:=[]
def f53r0:LO:=[zo 7 (.box false (.t 3)) 0,⟨some 8,.alloc false (List.replicate 5 (.int .i64 0)),none,1,0⟩,⟨some 9,.move (.c (.int .i64 0)),none,2,0⟩]
def f53r1:LO:=[zm 13 0 0,zm 14 0 0,zo 15 (.nilCheck (.t 14)) 2,zf 16 0 15 6,zl 17 16 14,zm 18 2 0,zo 19 (.idxAddr 6 (.t 17) (.t 18)) 62,zf 20 1 19 126,zl 21 20 254,zo 22 (.call (.c (.fn 76 [] [])) [(.t 13),(.t 21)]) 511,zm 12 22 1023,ze 23 12 0 2047,ze 24 12 1 2047,zm 10 23 4095,zm 11 24 16383]
def f53r2:LO:=[zm 25 11 0,zo 26 (.bin .neq (.t 25) (.c (.int .i64 0))) 1]
def f53r3:LO:=[zo 27 (.build (List.replicate 5 (.int .i64 0)) []) 0,zm 28 11 0,zn (.store 5 (.t 8) (.t 27)) 1,zm 9 28 7]
def f53r4:LO:=[zm 29 1 0,zf 30 0 7 1,zn (.store 1 (.t 30) (.t 29)) 3]
def f53r5:LO:=[zm 31 2 0,zf 32 3 7 1,zn (.store 1 (.t 32) (.t 31)) 3]
def f53r6:LO:=[zm 33 10 0,zf 34 4 7 1,zn (.store 1 (.t 34) (.t 33)) 3]
def f53r7:LO:=[zo 35 (.load true 5 (.t 7)) 0,zn (.store 5 (.t 8) (.t 35)) 1,zo 9 (.move (.c (.int .i64 0))) 3]
def f53c:ACode :=
 .seq (zr f53r0 [0,1,2,7,8] 2)
 (.seq (zr f53r1 [1,2,7,8,10,11] 0)
 (.seq (.seq (zr f53r2 [1,2,7,8,10,11,26] 0)
 (.cond (.t 26)
  (.seq (zr f53r3 [8,9] 0)
  (.ret))
  (.skip)))
 (.seq (zr f53r4 [2,7,8,10] 0)
 (.seq (zr f53r5 [7,8,10] 0)
 (.seq (zr f53r6 [7,8] 0)
 (.seq (zr f53r7 [8,9] 0)
 (.ret)))))))
def f53:AFn:=⟨4,36,[.cell 8 true 5,.tmp 9],f53c,1,none⟩
def f53k:=kA f53c
def f53v:List Nat:=[]
def f54r0:LO:=[zo 4 (.move (.c (.int .i64 0))) 0]
def f54r1:LO:=[zm 5 0 0]
def f54r2:LO:=[zo 7 (.bin .eql (.t 5) (.c (.str [61,61]))) 0,zm 6 7 1]
def f54r3:LO:=[zo 4 (.move (.c (.int .i64 14))) 0]
def f54r4:LO:=[zo 9 (.bin .eql (.t 5) (.c (.str [33,61]))) 0,zm 8 9 1]
def f54r5:LO:=[zo 4 (.move (.c (.int .i64 15))) 0]
def f54r6:LO:=[zo 11 (.bin .eql (.t 5) (.c (.str [60]))) 0,zm 10 11 1]
def f54r7:LO:=[zo 12 (.bin .eql (.t 5) (.c (.str [62]))) 0,zm 10 12 1]
def f54r8:LO:=[zm 13 1 0,zo 14 (.call (.c (.fn 98 [] [])) [(.t 13),(.c (.int .i64 16)),(.c (.int .i64 17))]) 1,zm 4 14 3]
def f54r9:LO:=[zo 16 (.bin .eql (.t 5) (.c (.str [60,61]))) 0,zm 15 16 1]
def f54r10:LO:=[zo 17 (.bin .eql (.t 5) (.c (.str [62,61]))) 0,zm 15 17 1]
def f54r11:LO:=[zm 18 1 0,zo 19 (.call (.c (.fn 98 [] [])) [(.t 18),(.c (.int .i64 18)),(.c (.int .i64 19))]) 1,zm 4 19 3]
def f54r12:LO:=[zo 4 (.move (.c (.int .i64 0))) 0]
def f54c:ACode :=
 .seq (zr f54r0 [0,1] 0)
 (.seq (.seq (zr f54r1 [1,5] 0)
 (.block 0 (.seq (zr f54r2 [1,5,6] 0)
  (.cond (.t 6)
   (.seq (zr f54r3 [4] 0)
   (.ret))
   (.seq (zr f54r4 [1,5,8] 0)
   (.cond (.t 8)
    (.seq (zr f54r5 [4] 0)
    (.ret))
    (.seq (.seq (zr f54r6 [1,5,10] 0)
    (.cond (.t 10)
     (.skip)
     (zr f54r7 [1,5,10] 0)))
    (.cond (.t 10)
     (.seq (zr f54r8 [4] 0)
     (.ret))
     (.seq (.seq (zr f54r9 [1,5,15] 0)
     (.cond (.t 15)
      (.skip)
      (zr f54r10 [1,15] 0)))
     (.cond (.t 15)
      (.seq (zr f54r11 [4] 0)
      (.ret))
      (.skip)))))))))))
 (.seq (zr f54r12 [4] 0)
 (.ret)))
def f54:AFn:=⟨2,20,[.tmp 4],f54c,1,none⟩
def f54k:=kI [0,1,2,11,4,8,6,7,5,9,10,3,12] f54c
def f54v:List Nat:=[]
def f55r0:LO:=[zo 4 (.move (.c (.bool false))) 0]
def f55r1:LO:=[zm 5 0 0,zm 6 1 0,zo 7 (.call (.c (.fn 50 [] [])) [(.t 5),(.t 6)]) 3,zm 8 7 7,zg 9 0 8 true 15,zh 10 (.nilCheck (.t 9)) 8 true 31,zh 11 (.fieldAddr 0 (.t 10)) 8 true 63,zh 12 (.load false 1 (.t 11)) 8 true 127,zg 13 1 8 true 15,zh 14 (.idxAddr 6 (.t 12) (.t 13)) 8 true 511,zh 15 (.fieldAddr 1 (.t 14)) 8 true 1023,zh 16 (.load false 1 (.t 15)) 8 true 2047,zh 17 (.bin .eql (.t 16) (.c (.int .i64 0))) 8 true 4095,za 18 8 17 8191,zm 4 18 16383]
def f55c:ACode :=
 .seq (zr f55r0 [0,1] 0)
 (.seq (zr f55r1 [4] 0)
 (.ret))
def f55:AFn:=⟨2,19,[.tmp 4],f55c,1,none⟩
def f55k:=kA f55c
def f55v:List Nat:=[]
def f56r0:LO:=[zo 4 (.move (.c (.bool false))) 0]
def f56r1:LO:=[zm 6 0 0,zm 7 1 0,zo 8 (.call (.c (.fn 100 [] [])) [(.t 6),(.t 7)]) 3,zm 5 8 7]
def f56r2:LO:=[zm 9 5 0,zo 10 (.bin .geq (.t 9) (.c (.int .i64 2))) 1,zm 11 10 3,zg 12 5 11 true 7,zh 13 (.bin .leq (.t 12) (.c (.int .i64 13))) 11 true 15,za 14 11 13 31,zm 4 14 63]
def f56c:ACode :=
 .seq (zr f56r0 [0,1] 0)
 (.seq (zr f56r1 [5] 0)
 (.seq (zr f56r2 [4] 0)
 (.ret)))
def f56:AFn:=⟨2,15,[.tmp 4],f56c,1,none⟩
def f56k:=kA f56c
def f56v:List Nat:=[]
def f57r0:LO:=[zo 2 (.move (.c (.int .i64 0))) 0]
def f57r1:LO:=[zm 3 0 0,zo 4 (.bin .sub (.t 3) (.c (.int .i64 1))) 1,zm 2 4 3]
def f57c:ACode :=
 .seq (zr f57r0 [0] 0)
 (.seq (zr f57r1 [2] 0)
 (.ret))
def f57:AFn:=⟨1,5,[.tmp 2],f57c,1,none⟩
def f57k:=kA f57c
def f57v:List Nat:=[]
def f58r0:LO:=[zo 4 (.move (.c (.int .i64 0))) 0]
def f58r1:LO:=[zm 5 0 0,zo 6 (.call (.c (.fn 101 [] [])) [(.t 5)]) 1,zo 7 (.un .not (.t 6)) 3]
def f58r2:LO:=[zm 8 0 0,zm 4 8 1]
def f58r3:LO:=[zm 9 0 0,zo 10 (.call (.c (.fn 102 [] [])) [(.t 9)]) 1,zo 11 (.bin .lss (.t 10) (.c (.int .i64 4))) 3,zm 12 11 7,zg 13 0 12 false 15,zh 14 (.bin .eql (.t 13) (.c (.int .i64 12))) 12 false 31,zq 15 12 14 63,zm 16 15 127,zg 17 1 16 false 255,zh 18 (.bin .geq (.t 17) (.c (.int .i64 0))) 16 false 511,zg 19 18 16 false 1023,zg 20 1 19 true 2047,zh 21 (.bin .leq (.t 20) (.c (.int .i64 31))) 19 true 4095,zh 22 (.pick (.t 19) (.t 21) (.c (.bool false))) 16 false 8191,zq 23 16 22 16383]
def f58r4:LO:=[zo 4 (.move (.c (.int .i64 8))) 0]
def f58r5:LO:=[zm 24 0 0,zm 4 24 1]
def f58c:ACode :=
 .seq (zr f58r0 [0,1] 0)
 (.seq (.seq (zr f58r1 [0,1,7] 0)
 (.cond (.t 7)
  (.seq (zr f58r2 [4] 0)
  (.ret))
  (.skip)))
 (.seq (.seq (zr f58r3 [0,23] 0)
 (.cond (.t 23)
  (.seq (zr f58r4 [4] 0)
  (.ret))
  (.skip)))
 (.seq (zr f58r5 [4] 0)
 (.ret))))
def f58:AFn:=⟨2,25,[.tmp 4],f58c,1,none⟩
def f58k:=kA f58c
def f58v:List Nat:=[]
def f59r0:LO:=[zo 2 (.box false (.t 0)) 0,⟨some 4,.move (.c (.bool false)),none,1,0⟩]
def f59r1:LO:=[zo 5 (.load true 1 (.t 2)) 0,zm 6 1 0,zo 7 (.call (.c (.fn 45 [] [])) [(.t 5),(.t 6)]) 3,zm 8 7 7,zh 9 (.load true 1 (.t 2)) 8 true 15,zg 10 1 8 true 15,zh 11 (.call (.c (.fn 41 [] [])) [(.t 9),(.t 10)]) 8 true 63,zh 12 (.field false 1 1 (.t 11)) 8 true 127,zh 13 (.call (.c (.fn 57 [] [])) [(.c (.int .i64 1))]) 8 true 127,zh 14 (.bin .eql (.t 12) (.t 13)) 8 true 511,za 15 8 14 1023,zm 4 15 2047]
def f59c:ACode :=
 .seq (zr f59r0 [1,2] 1)
 (.seq (zr f59r1 [4] 0)
 (.ret))
def f59:AFn:=⟨2,16,[.tmp 4],f59c,1,none⟩
def f59k:=kA f59c
def f59v:List Nat:=[]
def f60r0:LO:=[zo 4 (.move (.c (.int .i64 0))) 0,zo 5 (.move (.c (.int .i64 0))) 1]
def f60r1:LO:=[zm 8 0 0,zo 9 (.call (.c (.fn 101 [] [])) [(.t 8)]) 1,zo 10 (.un .not (.t 9)) 3,zm 11 10 7,zg 12 1 11 false 15,zh 13 (.call (.c (.fn 101 [] [])) [(.t 12)]) 11 false 31,zh 14 (.un .not (.t 13)) 11 false 63,zq 15 11 14 127]
def f60r2:LO:=[zo 4 (.move (.c (.int .i64 0))) 0,zo 5 (.move (.c (.int .i64 70))) 1]
def f60r3:LO:=[zm 16 0 0,zo 17 (.call (.c (.fn 58 [] [])) [(.t 16),(.c (.int .i64 (-1)))]) 1,zm 6 17 3]
def f60r4:LO:=[zm 18 1 0,zo 19 (.call (.c (.fn 58 [] [])) [(.t 18),(.c (.int .i64 (-1)))]) 1,zm 7 19 3]
def f60r5:LO:=[zm 21 6 0,zo 22 (.bin .eql (.t 21) (.c (.int .i64 11))) 1,zm 23 22 3,zg 24 7 23 false 7,zh 25 (.bin .eql (.t 24) (.c (.int .i64 11))) 23 false 15,zq 26 23 25 31,zm 20 26 63]
def f60r6:LO:=[zo 4 (.move (.c (.int .i64 11))) 0,zo 5 (.move (.c (.int .i64 0))) 1]
def f60r7:LO:=[zm 28 6 0,zo 29 (.bin .eql (.t 28) (.c (.int .i64 10))) 1,zm 30 29 3,zg 31 7 30 true 7,zh 32 (.bin .eql (.t 31) (.c (.int .i64 9))) 30 true 15,za 33 30 32 31,zm 34 33 63,zg 35 6 34 false 127,zh 36 (.bin .eql (.t 35) (.c (.int .i64 9))) 34 false 255,zg 37 36 34 false 511,zg 38 7 37 true 1023,zh 39 (.bin .eql (.t 38) (.c (.int .i64 10))) 37 true 2047,zh 40 (.pick (.t 37) (.t 39) (.c (.bool false))) 34 false 4095,zq 41 34 40 8191,zm 27 41 16383]
def f60r8:LO:=[zo 4 (.move (.c (.int .i64 11))) 0,zo 5 (.move (.c (.int .i64 0))) 1]
def f60r9:LO:=[zm 43 6 0,zo 44 (.bin .eql (.t 43) (.c (.int .i64 10))) 1,zm 45 44 3,zg 46 7 45 false 7,zh 47 (.bin .eql (.t 46) (.c (.int .i64 10))) 45 false 15,zq 48 45 47 31,zm 42 48 63]
def f60r10:LO:=[zo 4 (.move (.c (.int .i64 10))) 0,zo 5 (.move (.c (.int .i64 0))) 1]
def f60r11:LO:=[zm 50 6 0,zo 51 (.bin .eql (.t 50) (.c (.int .i64 9))) 1,zm 52 51 3,zg 53 7 52 false 7,zh 54 (.bin .eql (.t 53) (.c (.int .i64 9))) 52 false 15,zq 55 52 54 31,zm 49 55 63]
def f60r12:LO:=[zo 4 (.move (.c (.int .i64 9))) 0,zo 5 (.move (.c (.int .i64 0))) 1]
def f60r13:LO:=[zo 4 (.move (.c (.int .i64 8))) 0,zo 5 (.move (.c (.int .i64 0))) 1]
def f60c:ACode :=
 .seq (zr f60r0 [0,1] 0)
 (.seq (.seq (zr f60r1 [0,1,15] 0)
 (.cond (.t 15)
  (.seq (zr f60r2 [4,5] 0)
  (.ret))
  (.skip)))
 (.seq (zr f60r3 [1,6] 0)
 (.seq (zr f60r4 [6,7] 0)
 (.seq (.block 0 (.seq (zr f60r5 [6,7,20] 0)
  (.cond (.t 20)
   (.seq (zr f60r6 [4,5] 0)
   (.ret))
   (.seq (zr f60r7 [6,7,27] 0)
   (.cond (.t 27)
    (.seq (zr f60r8 [4,5] 0)
    (.ret))
    (.seq (zr f60r9 [6,7,42] 0)
    (.cond (.t 42)
     (.seq (zr f60r10 [4,5] 0)
     (.ret))
     (.seq (zr f60r11 [49] 0)
     (.cond (.t 49)
      (.seq (zr f60r12 [4,5] 0)
      (.ret))
      (.skip))))))))))
 (.seq (zr f60r13 [4,5] 0)
 (.ret))))))
def f60:AFn:=⟨2,56,[.tmp 4,.tmp 5],f60c,1,none⟩
def f60k:=kI [0,1,2,3,4,5,12,7,10,9,8,11,6,13] f60c
def f60v:List Nat:=[]
def f61r0:LO:=[zo 4 (.move (.c (.bool false))) 0]
def f61r1:LO:=[zm 6 0 0,zo 7 (.len 1 (.t 6)) 1,zm 8 1 0,zo 9 (.len 1 (.t 8)) 4,zo 10 (.bin .neq (.t 7) (.t 9)) 15]
def f61r2:LO:=[zo 4 (.move (.c (.bool false))) 0]
def f61r3:LO:=[zo 5 (.move (.c (.int .i64 0))) 0]
def f61r4:LO:=[zm 11 5 0,zm 12 0 0,zo 13 (.len 1 (.t 12)) 2,zo 14 (.bin .lss (.t 11) (.t 13)) 7]
def f61q5:LO:=[zm 17 0 0,zm 18 5 0,zo 19 (.idxAddr 6 (.t 17) (.t 18)) 3,zo 20 (.load true 6 (.t 19)) 7,zm 21 1 0,zm 22 5 0,zo 23 (.idxAddr 6 (.t 21) (.t 22)) 48,zo 24 (.load true 6 (.t 23)) 112,zo 25 (.call (.c (.fn 103 [] [])) [(.t 20),(.t 24)]) 255,zo 26 (.un .not (.t 25)) 511]
def f61r5:LO:=f61q5
def f61r6:LO:=[zo 4 (.move (.c (.bool false))) 0]
def f61r7:LO:=[zm 15 5 0,zo 16 (.bin .add (.t 15) (.c (.int .i64 1))) 1,zm 5 16 3]
def f61m4:ACode :=
 .seq (.seq (zr f61r4 [0,1,5,14] 0)
 (.cond (.t 14)
  (.skip)
  (.exit 0)))
 (.seq (.block 1 (.seq (.region true f61r5 [0,1,5,26] 0)
  (.cond (.t 26)
   (.seq (zr f61r6 [4] 0)
   (.ret))
   (.skip))))
 (zr f61r7 [0,1,5] 0))
def f61l4:ACode:=f61m4
theorem f61l4_b:DB f61l4 f61m4:=rfl
def f61r8:LO:=[zo 4 (.move (.c (.bool true))) 0]
theorem f61r5_s:staticOK 0 f61r5=true:=by rfl
theorem f61r5_w:DW f61r5:=fun hr=>Brun_drawnS f61r5_s hr
theorem f61r5_u:DU f61r5 f61q5:=fun _ _ _ _ _=>rfl
def f61c:ACode :=
 .seq (zr f61r0 [0,1] 0)
 (.seq (.seq (zr f61r1 [0,1,10] 0)
 (.cond (.t 10)
  (.seq (zr f61r2 [4] 0)
  (.ret))
  (.skip)))
 (.seq (.seq (zr f61r3 [0,1,5] 0)
 (.block 0 (.loop f61l4)))
 (.seq (zr f61r8 [4] 0)
 (.ret))))
def f61:AFn:=⟨2,27,[.tmp 4],f61c,1,none⟩
def f61k:=kI [0,1,2,3,4,6,7,5,8] f61c
def f61v:List Nat:=[]
def f62r0:LO:=[zo 2 (.move (.c (.is [] .nil))) 0]
def f62r1:LO:=[zo 3 (.move (.c (.is [] .nil))) 0]
def f62r2:LO:=[zm 5 0 0,zo 6 (.call (.c (.fn 63 [] [])) [(.t 5)]) 1,zo 7 (.move (.c (.int .i64 0))) 0]
def f62r3:LO:=[zo 8 (.bin .lss (.t 7) (.t 6)) 0]
def f62r4:LO:=[zm 9 7 0,zm 4 9 1]
def f62r5:LO:=[zm 10 3 0,zm 11 0 0,zo 12 (.nilCheck (.t 11)) 2,zf 13 0 12 6,zl 14 13 14,zm 15 4 0,zo 16 (.idxAddr 6 (.t 14) (.t 15)) 62,zo 17 (.load true 6 (.t 16)) 126,zo 18 (.call (.c (.fn 84 [] [])) [(.t 17)]) 254,zo 19 (.buildSlice true 6 1 [(.int .i64 0),(.int .i64 0),(.int .i64 0),(.str []),(.is [] .nil),(.bool false)] [(0,6,(.t 18))]) 510,zo 20 (.append true 6 72 (.t 10) (.t 19)) 1023,⟨some 3,.move (.t 20),none,1,2047⟩]
def f62r6:LO:=[zo 21 (.bin .add (.t 7) (.c (.int .i64 1))) 0,zm 7 21 1]
def f62m3:ACode :=
 .seq (zr f62r3 [0,3,6,7,8] 0)
 (.seq (.cond (.t 8)
  (.skip)
  (.exit 0))
 (.seq (.block 1 (.seq (zr f62r4 [0,3,4,6,7] 0)
  (zr f62r5 [0,3,6,7] 1)))
 (zr f62r6 [0,3,6,7] 0)))
def f62l3:ACode:=f62m3
theorem f62l3_b:DB f62l3 f62m3:=rfl
def f62r7:LO:=[zm 22 3 0,zm 2 22 1]
def f62c:ACode :=
 .seq (zr f62r0 [0] 0)
 (.seq (zr f62r1 [0,3] 0)
 (.seq (.seq (zr f62r2 [0,3,6,7] 0)
 (.block 0 (.loop f62l3)))
 (.seq (zr f62r7 [2] 0)
 (.ret))))
def f62:AFn:=⟨1,23,[.tmp 2],f62c,1,none⟩
def f62k:=kA f62c
def f62v:List Nat:=[20,19]
def f63r0:LO:=[zo 2 (.move (.c (.int .i64 0))) 0]
def f63r1:LO:=[zm 3 0 0,zo 4 (.call (.c (.fn 90 [] [])) [(.t 3)]) 1,zo 5 (.un .not (.t 4)) 3]
def f63r2:LO:=[zo 2 (.move (.c (.int .i64 0))) 0]
def f63r3:LO:=[zm 6 0 0,zo 7 (.nilCheck (.t 6)) 1,zf 8 0 7 3,zl 9 8 7,zo 10 (.len 1 (.t 9)) 15,zm 2 10 31]
def f63c:ACode :=
 .seq (zr f63r0 [0] 0)
 (.seq (.seq (zr f63r1 [0,5] 0)
 (.cond (.t 5)
  (.seq (zr f63r2 [2] 0)
  (.ret))
  (.skip)))
 (.seq (zr f63r3 [2] 0)
 (.ret)))
def f63:AFn:=⟨1,11,[.tmp 2],f63c,1,none⟩
def f63k:=kA f63c
def f63v:List Nat:=[]
def f66r0:LO:=[zo 4 (.move (.c (.int .i64 0))) 0,zo 5 (.move (.c (.int .i64 0))) 1]
def f66r1:LO:=[zm 10 0 0,zm 11 1 0,zo 12 (.call (.c (.fn 70 [] [])) [(.t 10),(.t 11)]) 3,zm 9 12 7,ze 13 9 0 15,ze 14 9 1 15,ze 15 9 2 15,zo 7 (.alloc false [(.int .i64 0),(.int .i64 0),(.is [] .nil)]) 0,⟨some 6,.move (.t 13),none,1,159⟩,⟨none,.store 3 (.t 7) (.t 14),none,1,447⟩,⟨some 8,.move (.t 15),none,1,1023⟩]
def f66r2:LO:=[zf 16 0 7 0,zl 17 16 1,zm 18 8 0,zm 4 17 3,zm 5 18 15]
def f66c:ACode :=
 .seq (zr f66r0 [0,1] 0)
 (.seq (zr f66r1 [7,8] 1)
 (.seq (zr f66r2 [4,5] 0)
 (.ret)))
def f66:AFn:=⟨2,19,[.tmp 4,.tmp 5],f66c,1,none⟩
def f66k:=kA f66c
def f66v:List Nat:=[]
end Go.Proofs.YtfhijkapcdmdnaaGreatDoor
