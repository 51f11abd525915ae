/- The seat's functions as the machine's, part 0. Printed by a program. -/
import Derived.Test.YtfhijkapcdmdnaaDoorLib
namespace Go.Proofs.YtfhijkapcdmdnaaDoor
open Go.AM
set_option maxRecDepth 100000
def f5r0 : List AOper := [⟨some 4,.move (.c (.bool false)),none,0,0⟩]
def f5r1 : List AOper := [⟨some 32,.move (.t 0),none,0,0⟩,⟨some 33,.call (.c (.fn 9 [] [])) [(.t 32)],none,0,1⟩,⟨some 31,.move (.t 33),none,0,3⟩,⟨some 34,.extract (.t 31) 0,none,0,7⟩,⟨some 35,.extract (.t 31) 1,none,0,7⟩,⟨some 36,.extract (.t 31) 2,none,0,7⟩,⟨some 5,.move (.t 34),none,0,15⟩,⟨some 6,.move (.t 35),none,0,95⟩,⟨some 7,.move (.t 36),none,0,255⟩]
def f5r2 : List AOper := [⟨some 37,.move (.t 7),none,0,0⟩,⟨some 38,.un .not (.t 37),none,0,1⟩,⟨some 39,.move (.t 38),none,0,3⟩,⟨some 40,.move (.t 6),(some (39,false)),0,7⟩,⟨some 41,.move (.t 1),(some (39,false)),0,7⟩,⟨some 42,.call (.c (.fn 14 [] [])) [(.t 40),(.t 41)],(some (39,false)),0,31⟩,⟨some 43,.un .not (.t 42),(some (39,false)),0,63⟩,⟨some 44,.pick (.t 39) (.c (.bool true)) (.t 43),none,0,127⟩]
def f5r3 : List AOper := [⟨some 45,.call (.c (.fn 10 [] [])) [],none,0,0⟩,⟨some 4,.move (.t 45),none,0,1⟩]
def f5r4 : List AOper := [⟨some 47,.move (.t 5),none,0,0⟩,⟨some 48,.move (.t 1),none,0,0⟩,⟨some 49,.call (.c (.fn 15 [] [])) [(.t 47),(.t 48)],none,0,3⟩,⟨some 46,.move (.t 49),none,0,7⟩,⟨some 50,.extract (.t 46) 0,none,0,15⟩,⟨some 51,.extract (.t 46) 1,none,0,15⟩,⟨some 8,.move (.t 50),none,0,31⟩,⟨some 9,.move (.t 51),none,0,127⟩]
def f5r5 : List AOper := [⟨some 53,.move (.t 5),none,0,0⟩,⟨some 54,.move (.t 1),none,0,0⟩,⟨some 55,.call (.c (.fn 18 [] [])) [(.t 53),(.t 54)],none,0,3⟩,⟨some 52,.move (.t 55),none,0,7⟩,⟨some 56,.extract (.t 52) 0,none,0,15⟩,⟨some 57,.extract (.t 52) 1,none,0,15⟩,⟨some 10,.move (.t 56),none,0,31⟩,⟨some 11,.move (.t 57),none,0,127⟩]
def f5r6 : List AOper := [⟨some 59,.move (.t 5),none,0,0⟩,⟨some 60,.move (.t 1),none,0,0⟩,⟨some 61,.call (.c (.fn 13 [] [])) [(.t 59),(.t 60)],none,0,3⟩,⟨some 58,.move (.t 61),none,0,7⟩,⟨some 62,.extract (.t 58) 0,none,0,15⟩,⟨some 63,.extract (.t 58) 1,none,0,15⟩,⟨some 12,.move (.t 62),none,0,31⟩,⟨some 13,.move (.t 63),none,0,127⟩]
def f5r7 : List AOper := [⟨some 64,.move (.t 9),none,0,0⟩,⟨some 65,.bin .neq (.t 64) (.c (.int .i64 0)),none,0,1⟩,⟨some 66,.move (.t 65),none,0,3⟩,⟨some 67,.move (.t 11),(some (66,false)),0,7⟩,⟨some 68,.bin .neq (.t 67) (.c (.int .i64 0)),(some (66,false)),0,15⟩,⟨some 69,.pick (.t 66) (.c (.bool true)) (.t 68),none,0,31⟩,⟨some 70,.move (.t 69),none,0,63⟩,⟨some 71,.move (.t 13),(some (70,false)),0,127⟩,⟨some 72,.bin .neq (.t 71) (.c (.int .i64 0)),(some (70,false)),0,255⟩,⟨some 73,.pick (.t 70) (.c (.bool true)) (.t 72),none,0,511⟩,⟨some 74,.move (.t 73),none,0,1023⟩,⟨some 75,.move (.t 8),(some (74,false)),0,2047⟩,⟨some 76,.bin .lss (.t 75) (.c (.int .i64 1)),(some (74,false)),0,4095⟩,⟨some 77,.pick (.t 74) (.c (.bool true)) (.t 76),none,0,8191⟩,⟨some 78,.move (.t 77),none,0,16383⟩,⟨some 79,.move (.t 8),(some (78,false)),0,32767⟩,⟨some 80,.bin .gtr (.t 79) (.c (.int .i64 16384)),(some (78,false)),0,65535⟩,⟨some 81,.pick (.t 78) (.c (.bool true)) (.t 80),none,0,131071⟩]
def f5r8 : List AOper := [⟨some 82,.move (.t 9),none,0,0⟩,⟨some 83,.bin .neq (.t 82) (.c (.int .i64 0)),none,0,1⟩,⟨some 84,.move (.t 83),none,0,3⟩,⟨some 85,.move (.t 9),(some (84,true)),0,7⟩,⟨some 86,.move (.t 11),(some (84,true)),0,7⟩,⟨some 87,.bin .eql (.t 85) (.t 86),(some (84,true)),0,31⟩,⟨some 88,.pick (.t 84) (.t 87) (.c (.bool false)),none,0,63⟩,⟨some 89,.move (.t 88),none,0,127⟩,⟨some 90,.call (.c (.fn 10 [] [])) [],(some (89,true)),0,255⟩,⟨some 91,.pick (.t 89) (.t 90) (.c (.bool false)),none,0,511⟩,⟨some 4,.move (.t 91),none,0,1023⟩]
def f5r9 : List AOper := [⟨some 92,.move (.t 8),none,0,0⟩,⟨some 93,.bin .mul (.c (.int .i64 8)) (.t 92),none,0,1⟩,⟨some 94,.mkSlice false 1 1 [(.bool false)] (.t 93) (.t 93),none,0,3⟩,⟨some 14,.move (.t 94),none,1,7⟩]
def f5r10 : List AOper := [⟨some 15,.move (.c (.int .i64 (-1))),none,0,0⟩]
def f5r11 : List AOper := [⟨some 16,.move (.c (.int .i64 0)),none,0,0⟩]
def f5r12 : List AOper := [⟨some 95,.move (.t 16),none,0,0⟩,⟨some 96,.move (.t 10),none,0,0⟩,⟨some 97,.len 1 (.t 96),none,0,2⟩,⟨some 98,.bin .lss (.t 95) (.t 97),none,0,7⟩]
def f5q13 : List AOper := [⟨some 101,.move (.t 10),none,0,0⟩,⟨some 102,.move (.t 16),none,0,0⟩,⟨some 103,.idxAddr 2 (.t 101) (.t 102),none,0,3⟩,⟨some 104,.fieldAddr 0 (.t 103),none,0,7⟩,⟨some 105,.load false 1 (.t 104),none,0,15⟩,⟨some 106,.move (.t 15),none,0,0⟩,⟨some 107,.bin .leq (.t 105) (.t 106),none,0,63⟩,⟨some 108,.move (.t 107),none,0,127⟩,⟨some 109,.move (.t 10),(some (108,false)),0,255⟩,⟨some 110,.move (.t 16),(some (108,false)),0,255⟩,⟨some 111,.idxAddr 2 (.t 109) (.t 110),(some (108,false)),0,1023⟩,⟨some 112,.fieldAddr 1 (.t 111),(some (108,false)),0,2047⟩,⟨some 113,.load false 1 (.t 112),(some (108,false)),0,4095⟩,⟨some 114,.bin .lss (.t 113) (.c (.int .i64 1)),(some (108,false)),0,8191⟩,⟨some 115,.pick (.t 108) (.c (.bool true)) (.t 114),none,0,16383⟩,⟨some 116,.move (.t 115),none,0,32767⟩,⟨some 117,.move (.t 10),(some (116,false)),0,65535⟩,⟨some 118,.move (.t 16),(some (116,false)),0,65535⟩,⟨some 119,.idxAddr 2 (.t 117) (.t 118),(some (116,false)),0,262143⟩,⟨some 120,.fieldAddr 0 (.t 119),(some (116,false)),0,524287⟩,⟨some 121,.load false 1 (.t 120),(some (116,false)),0,1048575⟩,⟨some 122,.move (.t 14),(some (116,false)),0,65535⟩,⟨some 123,.len 1 (.t 122),(some (116,false)),0,2162687⟩,⟨some 124,.move (.t 10),(some (116,false)),0,65535⟩,⟨some 125,.move (.t 16),(some (116,false)),0,65535⟩,⟨some 126,.idxAddr 2 (.t 124) (.t 125),(some (116,false)),0,25231359⟩,⟨some 127,.fieldAddr 1 (.t 126),(some (116,false)),0,58785791⟩,⟨some 128,.load false 1 (.t 127),(some (116,false)),0,125894655⟩,⟨some 129,.bin .sub (.t 123) (.t 128),(some (116,false)),0,266403839⟩,⟨some 130,.bin .gtr (.t 121) (.t 129),(some (116,false)),0,536870911⟩,⟨some 131,.pick (.t 116) (.c (.bool true)) (.t 130),none,0,1073741823⟩]
def f5r13 : List AOper := f5q13
def f5r14 : List AOper := [⟨some 4,.move (.c (.bool false)),none,0,0⟩]
def f5r15 : List AOper := [⟨some 17,.move (.c (.int .i64 0)),none,0,0⟩]
def f5r16 : List AOper := [⟨some 132,.move (.t 17),none,0,0⟩,⟨some 133,.move (.t 10),none,0,0⟩,⟨some 134,.move (.t 16),none,0,0⟩,⟨some 135,.idxAddr 2 (.t 133) (.t 134),none,0,6⟩,⟨some 136,.fieldAddr 1 (.t 135),none,0,14⟩,⟨some 137,.load false 1 (.t 136),none,0,30⟩,⟨some 138,.bin .lss (.t 132) (.t 137),none,0,63⟩]
def f5r17 : List AOper := [⟨some 141,.move (.t 14),none,0,0⟩,⟨some 142,.move (.t 10),none,0,0⟩,⟨some 143,.move (.t 16),none,0,0⟩,⟨some 144,.idxAddr 2 (.t 142) (.t 143),none,0,6⟩,⟨some 145,.fieldAddr 0 (.t 144),none,0,14⟩,⟨some 146,.load false 1 (.t 145),none,0,30⟩,⟨some 147,.move (.t 17),none,0,0⟩,⟨some 148,.bin .add (.t 146) (.t 147),none,0,126⟩,⟨some 149,.idxAddr 1 (.t 141) (.t 148),none,0,255⟩,⟨none,.store 1 (.t 149) (.c (.bool true)),none,0,511⟩]
def f5r18 : List AOper := [⟨some 139,.move (.t 17),none,0,0⟩,⟨some 140,.bin .add (.t 139) (.c (.int .i64 1)),none,0,1⟩,⟨some 17,.move (.t 140),none,0,3⟩]
def f5m16 : ACode :=
 .seq (.seq (.region false f5r16 [1,5,6,8,10,12,14,16,17,138] 0)
 (.cond (.t 138)
  (.skip)
  (.exit 2)))
 (.seq (.block 3 (.region false f5r17 [1,5,6,8,10,12,14,16,17] 0))
 (.region false f5r18 [1,5,6,8,10,12,14,16,17] 0))
def f5l16 : ACode := f5m16
theorem f5l16_b {A : Tab} {nt : Nat} {e : Env} {h : Heap} : Brun A nt f5l16 e h = Brun A nt f5m16 e h := rfl
def f5q19 : List AOper := [⟨some 150,.move (.t 10),none,0,0⟩,⟨some 151,.move (.t 16),none,0,0⟩,⟨some 152,.idxAddr 2 (.t 150) (.t 151),none,0,3⟩,⟨some 153,.fieldAddr 0 (.t 152),none,0,7⟩,⟨some 154,.load false 1 (.t 153),none,0,15⟩,⟨some 155,.move (.t 10),none,0,0⟩,⟨some 156,.move (.t 16),none,0,0⟩,⟨some 157,.idxAddr 2 (.t 155) (.t 156),none,0,96⟩,⟨some 158,.fieldAddr 1 (.t 157),none,0,224⟩,⟨some 159,.load false 1 (.t 158),none,0,480⟩,⟨some 160,.bin .add (.t 154) (.t 159),none,0,1023⟩,⟨some 15,.move (.t 160),none,0,2047⟩]
def f5r19 : List AOper := f5q19
def f5r20 : List AOper := [⟨some 99,.move (.t 16),none,0,0⟩,⟨some 100,.bin .add (.t 99) (.c (.int .i64 1)),none,0,1⟩,⟨some 16,.move (.t 100),none,0,3⟩]
def f5m12 : ACode :=
 .seq (.seq (.region false f5r12 [1,5,6,8,10,12,14,15,16,98] 0)
 (.cond (.t 98)
  (.skip)
  (.exit 0)))
 (.seq (.block 1 (.seq (.seq (.region true f5r13 [1,5,6,8,10,12,14,16,131] 0)
  (.cond (.t 131)
   (.seq (.region false f5r14 [4] 0)
   (.ret))
   (.skip)))
  (.seq (.seq (.region false f5r15 [1,5,6,8,10,12,14,16,17] 0)
  (.block 2 (.loop f5l16)))
  (.region true f5r19 [1,5,6,8,10,12,14,15,16] 0))))
 (.region false f5r20 [1,5,6,8,10,12,14,15,16] 0))
def f5l12 : ACode := f5m12
theorem f5l12_b {A : Tab} {nt : Nat} {e : Env} {h : Heap} : Brun A nt f5l12 e h = Brun A nt f5m12 e h := rfl
def f5r21 : List AOper := [⟨some 161,.move (.t 8),none,0,0⟩,⟨some 162,.bin .mul (.c (.int .i64 8)) (.t 161),none,0,1⟩,⟨some 163,.mkSlice false 1 1 [(.bool false)] (.t 162) (.t 162),none,0,3⟩,⟨some 18,.move (.t 163),none,1,7⟩]
def f5r22 : List AOper := [⟨some 19,.move (.c (.int .i64 0)),none,0,0⟩]
def f5r23 : List AOper := [⟨some 164,.move (.t 19),none,0,0⟩,⟨some 165,.move (.t 12),none,0,0⟩,⟨some 166,.len 1 (.t 165),none,0,2⟩,⟨some 167,.bin .lss (.t 164) (.t 166),none,0,7⟩]
def f5r24 : List AOper := [⟨some 170,.move (.t 12),none,0,0⟩,⟨some 171,.move (.t 19),none,0,0⟩,⟨some 172,.idxAddr 5 (.t 170) (.t 171),none,0,3⟩,⟨some 173,.load true 5 (.t 172),none,0,7⟩,⟨some 20,.alloc false (List.replicate 5 (.int .i64 0)),none,0,0⟩,⟨none,.store 5 (.t 20) (.t 173),none,1,31⟩]
def f5r25 : List AOper := [⟨some 174,.fieldAddr 4 (.t 20),none,0,0⟩,⟨some 175,.load false 1 (.t 174),none,0,1⟩,⟨some 176,.bin .gtr (.t 175) (.c (.int .i64 0)),none,0,3⟩]
def f5r26 : List AOper := [⟨some 21,.move (.c (.int .i64 0)),none,0,0⟩]
def f5q27 : List AOper := [⟨some 177,.move (.t 21),none,0,0⟩,⟨some 178,.fieldAddr 4 (.t 20),none,0,0⟩,⟨some 179,.load false 1 (.t 178),none,0,2⟩,⟨some 180,.bin .lss (.t 177) (.t 179),none,0,7⟩,⟨some 181,.move (.t 180),none,0,15⟩,⟨some 182,.move (.t 6),(some (181,true)),0,31⟩,⟨some 183,.nilCheck (.t 182),(some (181,true)),0,63⟩,⟨some 184,.fieldAddr 0 (.t 183),(some (181,true)),0,127⟩,⟨some 185,.load false 1 (.t 184),(some (181,true)),0,255⟩,⟨some 186,.move (.t 1),(some (181,true)),0,31⟩,⟨some 187,.idxAddr 6 (.t 185) (.t 186),(some (181,true)),0,1023⟩,⟨some 188,.fieldAddr 4 (.t 187),(some (181,true)),0,2047⟩,⟨some 189,.load false 1 (.t 188),(some (181,true)),0,4095⟩,⟨some 190,.fieldAddr 0 (.t 20),(some (181,true)),0,31⟩,⟨some 191,.load false 1 (.t 190),(some (181,true)),0,8223⟩,⟨some 192,.idxAddr 3 (.t 189) (.t 191),(some (181,true)),0,32767⟩,⟨some 193,.fieldAddr 0 (.t 192),(some (181,true)),0,65535⟩,⟨some 194,.load false 1 (.t 193),(some (181,true)),0,131071⟩,⟨some 195,.bin .neq (.t 194) (.c (.str [])),(some (181,true)),0,262143⟩,⟨some 196,.pick (.t 181) (.t 195) (.c (.bool false)),none,0,524287⟩]
def f5r27 : List AOper := f5q27
def f5r28 : List AOper := [⟨some 199,.move (.t 18),none,0,0⟩,⟨some 200,.fieldAddr 2 (.t 20),none,0,0⟩,⟨some 201,.load false 1 (.t 200),none,0,2⟩,⟨some 202,.bin .mul (.c (.int .i64 8)) (.t 201),none,0,6⟩,⟨some 203,.fieldAddr 3 (.t 20),none,0,0⟩,⟨some 204,.load false 1 (.t 203),none,0,16⟩,⟨some 205,.bin .add (.t 202) (.t 204),none,0,62⟩,⟨some 206,.move (.t 21),none,0,0⟩,⟨some 207,.bin .add (.t 205) (.t 206),none,0,254⟩,⟨some 208,.idxAddr 1 (.t 199) (.t 207),none,0,511⟩,⟨none,.store 1 (.t 208) (.c (.bool true)),none,0,1023⟩]
def f5r29 : List AOper := [⟨some 197,.move (.t 21),none,0,0⟩,⟨some 198,.bin .add (.t 197) (.c (.int .i64 1)),none,0,1⟩,⟨some 21,.move (.t 198),none,0,3⟩]
def f5m27 : ACode :=
 .seq (.seq (.region true f5r27 [1,5,6,12,14,18,19,20,21,196] 0)
 (.cond (.t 196)
  (.skip)
  (.exit 6)))
 (.seq (.block 7 (.region false f5r28 [1,5,6,12,14,18,19,20,21] 0))
 (.region false f5r29 [1,5,6,12,14,18,19,20,21] 0))
def f5l27 : ACode := f5m27
theorem f5l27_b {A : Tab} {nt : Nat} {e : Env} {h : Heap} : Brun A nt f5l27 e h = Brun A nt f5m27 e h := rfl
def f5r30 : List AOper := [⟨some 210,.move (.t 5),none,0,0⟩,⟨some 211,.fieldAddr 1 (.t 20),none,0,0⟩,⟨some 212,.load false 1 (.t 211),none,0,2⟩,⟨some 213,.call (.c (.fn 18 [] [])) [(.t 210),(.t 212)],none,0,7⟩,⟨some 209,.move (.t 213),none,0,15⟩,⟨some 214,.extract (.t 209) 0,none,0,31⟩,⟨some 215,.extract (.t 209) 1,none,0,31⟩,⟨some 22,.move (.t 214),none,0,63⟩,⟨some 23,.move (.t 215),none,0,255⟩]
def f5r31 : List AOper := [⟨some 217,.move (.t 5),none,0,0⟩,⟨some 218,.fieldAddr 1 (.t 20),none,0,0⟩,⟨some 219,.load false 1 (.t 218),none,0,2⟩,⟨some 220,.call (.c (.fn 15 [] [])) [(.t 217),(.t 219)],none,0,7⟩,⟨some 216,.move (.t 220),none,0,15⟩,⟨some 221,.extract (.t 216) 0,none,0,31⟩,⟨some 222,.extract (.t 216) 1,none,0,31⟩,⟨some 24,.move (.t 221),none,0,63⟩,⟨some 25,.move (.t 222),none,0,255⟩]
def f5r32 : List AOper := [⟨some 223,.move (.t 23),none,0,0⟩,⟨some 224,.bin .neq (.t 223) (.c (.int .i64 0)),none,0,1⟩,⟨some 225,.move (.t 224),none,0,3⟩,⟨some 226,.move (.t 25),(some (225,false)),0,7⟩,⟨some 227,.bin .neq (.t 226) (.c (.int .i64 0)),(some (225,false)),0,15⟩,⟨some 228,.pick (.t 225) (.c (.bool true)) (.t 227),none,0,31⟩]
def f5r33 : List AOper := [⟨some 4,.move (.c (.bool false)),none,0,0⟩]
def f5r34 : List AOper := [⟨some 229,.move (.t 24),none,0,0⟩,⟨some 230,.bin .mul (.c (.int .i64 8)) (.t 229),none,0,1⟩,⟨some 231,.mkSlice false 1 1 [(.bool false)] (.t 230) (.t 230),none,0,3⟩,⟨some 26,.move (.t 231),none,1,7⟩]
def f5r35 : List AOper := [⟨some 27,.move (.c (.int .i64 0)),none,0,0⟩]
def f5r36 : List AOper := [⟨some 232,.move (.t 27),none,0,0⟩,⟨some 233,.move (.t 22),none,0,0⟩,⟨some 234,.len 1 (.t 233),none,0,2⟩,⟨some 235,.bin .lss (.t 232) (.t 234),none,0,7⟩]
def f5r37 : List AOper := [⟨some 28,.move (.c (.int .i64 0)),none,0,0⟩]
def f5r38 : List AOper := [⟨some 238,.move (.t 28),none,0,0⟩,⟨some 239,.move (.t 22),none,0,0⟩,⟨some 240,.move (.t 27),none,0,0⟩,⟨some 241,.idxAddr 2 (.t 239) (.t 240),none,0,6⟩,⟨some 242,.fieldAddr 1 (.t 241),none,0,14⟩,⟨some 243,.load false 1 (.t 242),none,0,30⟩,⟨some 244,.bin .lss (.t 238) (.t 243),none,0,63⟩,⟨some 245,.move (.t 244),none,0,127⟩,⟨some 246,.move (.t 22),(some (245,true)),0,255⟩,⟨some 247,.move (.t 27),(some (245,true)),0,255⟩,⟨some 248,.idxAddr 2 (.t 246) (.t 247),(some (245,true)),0,1023⟩,⟨some 249,.fieldAddr 0 (.t 248),(some (245,true)),0,2047⟩,⟨some 250,.load false 1 (.t 249),(some (245,true)),0,4095⟩,⟨some 251,.bin .geq (.t 250) (.c (.int .i64 0)),(some (245,true)),0,8191⟩,⟨some 252,.pick (.t 245) (.t 251) (.c (.bool false)),none,0,16383⟩,⟨some 253,.move (.t 252),none,0,32767⟩,⟨some 254,.move (.t 22),(some (253,true)),0,65535⟩,⟨some 255,.move (.t 27),(some (253,true)),0,65535⟩,⟨some 256,.idxAddr 2 (.t 254) (.t 255),(some (253,true)),0,262143⟩,⟨some 257,.fieldAddr 0 (.t 256),(some (253,true)),0,524287⟩,⟨some 258,.load false 1 (.t 257),(some (253,true)),0,1048575⟩,⟨some 259,.move (.t 28),(some (253,true)),0,65535⟩,⟨some 260,.bin .add (.t 258) (.t 259),(some (253,true)),0,4194303⟩,⟨some 261,.move (.t 26),(some (253,true)),0,65535⟩,⟨some 262,.len 1 (.t 261),(some (253,true)),0,8454143⟩,⟨some 263,.bin .lss (.t 260) (.t 262),(some (253,true)),0,33554431⟩,⟨some 264,.pick (.t 253) (.t 263) (.c (.bool false)),none,0,67108863⟩]
def f5r39 : List AOper := [⟨some 267,.move (.t 26),none,0,0⟩,⟨some 268,.move (.t 22),none,0,0⟩,⟨some 269,.move (.t 27),none,0,0⟩,⟨some 270,.idxAddr 2 (.t 268) (.t 269),none,0,6⟩,⟨some 271,.fieldAddr 0 (.t 270),none,0,14⟩,⟨some 272,.load false 1 (.t 271),none,0,30⟩,⟨some 273,.move (.t 28),none,0,0⟩,⟨some 274,.bin .add (.t 272) (.t 273),none,0,126⟩,⟨some 275,.idxAddr 1 (.t 267) (.t 274),none,0,255⟩,⟨none,.store 1 (.t 275) (.c (.bool true)),none,0,511⟩]
def f5r40 : List AOper := [⟨some 265,.move (.t 28),none,0,0⟩,⟨some 266,.bin .add (.t 265) (.c (.int .i64 1)),none,0,1⟩,⟨some 28,.move (.t 266),none,0,3⟩]
def f5m38 : ACode :=
 .seq (.seq (.region false f5r38 [1,5,6,12,14,18,19,20,22,26,27,28,264] 0)
 (.cond (.t 264)
  (.skip)
  (.exit 10)))
 (.seq (.block 11 (.region false f5r39 [1,5,6,12,14,18,19,20,22,26,27,28] 0))
 (.region false f5r40 [1,5,6,12,14,18,19,20,22,26,27,28] 0))
def f5l38 : ACode := f5m38
theorem f5l38_b {A : Tab} {nt : Nat} {e : Env} {h : Heap} : Brun A nt f5l38 e h = Brun A nt f5m38 e h := rfl
def f5r41 : List AOper := [⟨some 236,.move (.t 27),none,0,0⟩,⟨some 237,.bin .add (.t 236) (.c (.int .i64 1)),none,0,1⟩,⟨some 27,.move (.t 237),none,0,3⟩]
def f5m36 : ACode :=
 .seq (.seq (.region false f5r36 [1,5,6,12,14,18,19,20,22,26,27,235] 0)
 (.cond (.t 235)
  (.skip)
  (.exit 8)))
 (.seq (.block 9 (.seq (.region false f5r37 [1,5,6,12,14,18,19,20,22,26,27,28] 0)
  (.block 10 (.loop f5l38))))
 (.region false f5r41 [1,5,6,12,14,18,19,20,22,26,27] 0))
def f5l36 : ACode := f5m36
theorem f5l36_b {A : Tab} {nt : Nat} {e : Env} {h : Heap} : Brun A nt f5l36 e h = Brun A nt f5m36 e h := rfl
def f5r42 : List AOper := [⟨some 29,.move (.c (.int .i64 0)),none,0,0⟩]
def f5r43 : List AOper := [⟨some 276,.move (.t 29),none,0,0⟩,⟨some 277,.move (.t 26),none,0,0⟩,⟨some 278,.len 1 (.t 277),none,0,2⟩,⟨some 279,.bin .lss (.t 276) (.t 278),none,0,7⟩]
def f5q44 : List AOper := [⟨some 282,.move (.t 18),none,0,0⟩,⟨some 283,.fieldAddr 2 (.t 20),none,0,0⟩,⟨some 284,.load false 1 (.t 283),none,0,2⟩,⟨some 285,.bin .mul (.c (.int .i64 8)) (.t 284),none,0,6⟩,⟨some 286,.move (.t 29),none,0,0⟩,⟨some 287,.bin .add (.t 285) (.t 286),none,0,30⟩,⟨some 288,.move (.t 18),none,0,0⟩,⟨some 289,.fieldAddr 2 (.t 20),none,0,0⟩,⟨some 290,.load false 1 (.t 289),none,0,128⟩,⟨some 291,.bin .mul (.c (.int .i64 8)) (.t 290),none,0,384⟩,⟨some 292,.move (.t 29),none,0,0⟩,⟨some 293,.bin .add (.t 291) (.t 292),none,0,1920⟩,⟨some 294,.idxAddr 1 (.t 288) (.t 293),none,0,4032⟩,⟨some 295,.load false 1 (.t 294),none,0,8128⟩,⟨some 296,.move (.t 295),none,0,16320⟩,⟨some 297,.move (.t 26),(some (296,false)),0,32704⟩,⟨some 298,.move (.t 29),(some (296,false)),0,32704⟩,⟨some 299,.idxAddr 1 (.t 297) (.t 298),(some (296,false)),0,131008⟩,⟨some 300,.load false 1 (.t 299),(some (296,false)),0,262080⟩,⟨some 301,.un .not (.t 300),(some (296,false)),0,524224⟩,⟨some 302,.pick (.t 296) (.c (.bool true)) (.t 301),none,0,1048512⟩,⟨some 303,.idxAddr 1 (.t 282) (.t 287),none,0,2097151⟩,⟨none,.store 1 (.t 303) (.t 302),none,0,4194303⟩]
def f5r44 : List AOper := f5q44
def f5r45 : List AOper := [⟨some 280,.move (.t 29),none,0,0⟩,⟨some 281,.bin .add (.t 280) (.c (.int .i64 1)),none,0,1⟩,⟨some 29,.move (.t 281),none,0,3⟩]
def f5m43 : ACode :=
 .seq (.seq (.region false f5r43 [1,5,6,12,14,18,19,20,26,29,279] 0)
 (.cond (.t 279)
  (.skip)
  (.exit 12)))
 (.seq (.block 13 (.region true f5r44 [1,5,6,12,14,18,19,20,26,29] 0))
 (.region false f5r45 [1,5,6,12,14,18,19,20,26,29] 0))
def f5l43 : ACode := f5m43
theorem f5l43_b {A : Tab} {nt : Nat} {e : Env} {h : Heap} : Brun A nt f5l43 e h = Brun A nt f5m43 e h := rfl
def f5r46 : List AOper := [⟨some 168,.move (.t 19),none,0,0⟩,⟨some 169,.bin .add (.t 168) (.c (.int .i64 1)),none,0,1⟩,⟨some 19,.move (.t 169),none,0,3⟩]
def f5m23 : ACode :=
 .seq (.seq (.region false f5r23 [1,5,6,12,14,18,19,167] 0)
 (.cond (.t 167)
  (.skip)
  (.exit 4)))
 (.seq (.block 5 (.seq (.region false f5r24 [1,5,6,12,14,18,19,20] 1)
  (.seq (.seq (.region false f5r25 [1,5,6,12,14,18,19,20,176] 0)
  (.cond (.t 176)
   (.seq (.seq (.region false f5r26 [1,5,6,12,14,18,19,20,21] 0)
   (.block 6 (.loop f5l27)))
   (.exit 5))
   (.skip)))
  (.seq (.region false f5r30 [1,5,6,12,14,18,19,20,22,23] 0)
  (.seq (.region false f5r31 [1,5,6,12,14,18,19,20,22,23,24,25] 0)
  (.seq (.seq (.region false f5r32 [1,5,6,12,14,18,19,20,22,24,228] 0)
  (.cond (.t 228)
   (.seq (.region false f5r33 [4] 0)
   (.ret))
   (.skip)))
  (.seq (.region false f5r34 [1,5,6,12,14,18,19,20,22,26] 1)
  (.seq (.seq (.region false f5r35 [1,5,6,12,14,18,19,20,22,26,27] 0)
  (.block 8 (.loop f5l36)))
  (.seq (.region false f5r42 [1,5,6,12,14,18,19,20,26,29] 0)
  (.block 12 (.loop f5l43)))))))))))
 (.region false f5r46 [1,5,6,12,14,18,19] 0))
def f5l23 : ACode := f5m23
theorem f5l23_b {A : Tab} {nt : Nat} {e : Env} {h : Heap} : Brun A nt f5l23 e h = Brun A nt f5m23 e h := rfl
def f5r47 : List AOper := [⟨some 30,.move (.c (.int .i64 0)),none,0,0⟩]
def f5r48 : List AOper := [⟨some 304,.move (.t 30),none,0,0⟩,⟨some 305,.move (.t 14),none,0,0⟩,⟨some 306,.len 1 (.t 305),none,0,2⟩,⟨some 307,.bin .lss (.t 304) (.t 306),none,0,7⟩]
def f5q49 : List AOper := [⟨some 310,.move (.t 14),none,0,0⟩,⟨some 311,.move (.t 30),none,0,0⟩,⟨some 312,.idxAddr 1 (.t 310) (.t 311),none,0,3⟩,⟨some 313,.load false 1 (.t 312),none,0,7⟩,⟨some 314,.move (.t 18),none,0,0⟩,⟨some 315,.move (.t 30),none,0,0⟩,⟨some 316,.idxAddr 1 (.t 314) (.t 315),none,0,48⟩,⟨some 317,.load false 1 (.t 316),none,0,112⟩,⟨some 318,.eq false .bool (.t 313) (.t 317),none,0,255⟩]
def f5r49 : List AOper := f5q49
def f5r50 : List AOper := [⟨some 4,.move (.c (.bool false)),none,0,0⟩]
def f5r51 : List AOper := [⟨some 308,.move (.t 30),none,0,0⟩,⟨some 309,.bin .add (.t 308) (.c (.int .i64 1)),none,0,1⟩,⟨some 30,.move (.t 309),none,0,3⟩]
def f5m48 : ACode :=
 .seq (.seq (.region false f5r48 [14,18,30,307] 0)
 (.cond (.t 307)
  (.skip)
  (.exit 14)))
 (.seq (.block 15 (.seq (.region true f5r49 [14,18,30,318] 0)
  (.cond (.t 318)
   (.seq (.region false f5r50 [4] 0)
   (.ret))
   (.skip))))
 (.region false f5r51 [14,18,30] 0))
def f5l48 : ACode := f5m48
theorem f5l48_b {A : Tab} {nt : Nat} {e : Env} {h : Heap} : Brun A nt f5l48 e h = Brun A nt f5m48 e h := rfl
def f5r52 : List AOper := [⟨some 319,.call (.c (.fn 10 [] [])) [],none,0,0⟩,⟨some 4,.move (.t 319),none,0,1⟩]
theorem f5r13_s : staticOK 0 f5r13 = true := by rfl
theorem f5r13_w {A : Tab} {nt : Nat} {keep : List Nat} {n : Nat} {e : Env} {h : Heap} (hr : (bkeep keep (stepsF nt (stepF A true) h.length f5r13 e (h ++ List.replicate n .free))).isSome = true) : Brun A nt (.region true f5r13 keep n) e h = bkeep keep (stepsF nt (stepF A true) h.length f5r13 e (h ++ List.replicate n .free)) := Brun_drawnS f5r13_s hr
theorem f5r13_u (nt base : Nat) (step : Nat → AOp → Env → Heap → Option (AV × Heap)) (e : Env) (h : Heap) : stepsF nt step base f5r13 e h = stepsF nt step base f5q13 e h := rfl
theorem f5r19_s : staticOK 0 f5r19 = true := by rfl
theorem f5r19_w {A : Tab} {nt : Nat} {keep : List Nat} {n : Nat} {e : Env} {h : Heap} (hr : (bkeep keep (stepsF nt (stepF A true) h.length f5r19 e (h ++ List.replicate n .free))).isSome = true) : Brun A nt (.region true f5r19 keep n) e h = bkeep keep (stepsF nt (stepF A true) h.length f5r19 e (h ++ List.replicate n .free)) := Brun_drawnS f5r19_s hr
theorem f5r19_u (nt base : Nat) (step : Nat → AOp → Env → Heap → Option (AV × Heap)) (e : Env) (h : Heap) : stepsF nt step base f5r19 e h = stepsF nt step base f5q19 e h := rfl
theorem f5r27_s : staticOK 0 f5r27 = true := by rfl
theorem f5r27_w {A : Tab} {nt : Nat} {keep : List Nat} {n : Nat} {e : Env} {h : Heap} (hr : (bkeep keep (stepsF nt (stepF A true) h.length f5r27 e (h ++ List.replicate n .free))).isSome = true) : Brun A nt (.region true f5r27 keep n) e h = bkeep keep (stepsF nt (stepF A true) h.length f5r27 e (h ++ List.replicate n .free)) := Brun_drawnS f5r27_s hr
theorem f5r27_u (nt base : Nat) (step : Nat → AOp → Env → Heap → Option (AV × Heap)) (e : Env) (h : Heap) : stepsF nt step base f5r27 e h = stepsF nt step base f5q27 e h := rfl
theorem f5r44_s : staticOK 0 f5r44 = true := by rfl
theorem f5r44_w {A : Tab} {nt : Nat} {keep : List Nat} {n : Nat} {e : Env} {h : Heap} (hr : (bkeep keep (stepsF nt (stepF A true) h.length f5r44 e (h ++ List.replicate n .free))).isSome = true) : Brun A nt (.region true f5r44 keep n) e h = bkeep keep (stepsF nt (stepF A true) h.length f5r44 e (h ++ List.replicate n .free)) := Brun_drawnS f5r44_s hr
theorem f5r44_u (nt base : Nat) (step : Nat → AOp → Env → Heap → Option (AV × Heap)) (e : Env) (h : Heap) : stepsF nt step base f5r44 e h = stepsF nt step base f5q44 e h := rfl
theorem f5r49_s : staticOK 0 f5r49 = true := by rfl
theorem f5r49_w {A : Tab} {nt : Nat} {keep : List Nat} {n : Nat} {e : Env} {h : Heap} (hr : (bkeep keep (stepsF nt (stepF A true) h.length f5r49 e (h ++ List.replicate n .free))).isSome = true) : Brun A nt (.region true f5r49 keep n) e h = bkeep keep (stepsF nt (stepF A true) h.length f5r49 e (h ++ List.replicate n .free)) := Brun_drawnS f5r49_s hr
theorem f5r49_u (nt base : Nat) (step : Nat → AOp → Env → Heap → Option (AV × Heap)) (e : Env) (h : Heap) : stepsF nt step base f5r49 e h = stepsF nt step base f5q49 e h := rfl
def f5c : ACode :=
 .seq (.region false f5r0 [0,1] 0)
 (.seq (.region false f5r1 [1,5,6,7] 0)
 (.seq (.seq (.region false f5r2 [1,5,6,44] 0)
 (.cond (.t 44)
  (.seq (.region false f5r3 [4] 0)
  (.ret))
  (.skip)))
 (.seq (.region false f5r4 [1,5,6,8,9] 0)
 (.seq (.region false f5r5 [1,5,6,8,9,10,11] 0)
 (.seq (.region false f5r6 [1,5,6,8,9,10,11,12,13] 0)
 (.seq (.seq (.region false f5r7 [1,5,6,8,9,10,11,12,81] 0)
 (.cond (.t 81)
  (.seq (.region false f5r8 [4] 0)
  (.ret))
  (.skip)))
 (.seq (.region false f5r9 [1,5,6,8,10,12,14] 1)
 (.seq (.region false f5r10 [1,5,6,8,10,12,14,15] 0)
 (.seq (.seq (.region false f5r11 [1,5,6,8,10,12,14,15,16] 0)
 (.block 0 (.loop f5l12)))
 (.seq (.region false f5r21 [1,5,6,12,14,18] 1)
 (.seq (.seq (.region false f5r22 [1,5,6,12,14,18,19] 0)
 (.block 4 (.loop f5l23)))
 (.seq (.seq (.region false f5r47 [14,18,30] 0)
 (.block 14 (.loop f5l48)))
 (.seq (.region false f5r52 [4] 0)
 (.ret))))))))))))))
def f5 : AFn := ⟨2,320,[.tmp 4],f5c,1,none⟩
def f5k : List (Nat × List Nat) := [(0,[0,1]),(1,[1,5,6,7]),(2,[1,5,6,44]),(3,[4]),(4,[1,5,6,8,9]),(5,[1,5,6,8,9,10,11]),(6,[1,5,6,8,9,10,11,12,13]),(7,[1,5,6,8,9,10,11,12,81]),(8,[4]),(9,[1,5,6,8,10,12,14]),(10,[1,5,6,8,10,12,14,15]),(11,[1,5,6,8,10,12,14,15,16]),(12,[1,5,6,8,10,12,14,15,16,98]),(14,[1,5,6,8,10,12,14,16,131]),(15,[4]),(16,[1,5,6,8,10,12,14,16,17]),(17,[1,5,6,8,10,12,14,16,17,138]),(19,[1,5,6,8,10,12,14,16,17]),(18,[1,5,6,8,10,12,14,16,17]),(20,[1,5,6,8,10,12,14,15,16]),(13,[1,5,6,8,10,12,14,15,16]),(21,[1,5,6,12,14,18]),(22,[1,5,6,12,14,18,19]),(23,[1,5,6,12,14,18,19,167]),(25,[1,5,6,12,14,18,19,20]),(26,[1,5,6,12,14,18,19,20,176]),(27,[1,5,6,12,14,18,19,20,21]),(28,[1,5,6,12,14,18,19,20,21,196]),(30,[1,5,6,12,14,18,19,20,21]),(29,[1,5,6,12,14,18,19,20,21]),(31,[1,5,6,12,14,18,19,20,22,23]),(32,[1,5,6,12,14,18,19,20,22,23,24,25]),(33,[1,5,6,12,14,18,19,20,22,24,228]),(34,[4]),(35,[1,5,6,12,14,18,19,20,22,26]),(36,[1,5,6,12,14,18,19,20,22,26,27]),(37,[1,5,6,12,14,18,19,20,22,26,27,235]),(39,[1,5,6,12,14,18,19,20,22,26,27,28]),(40,[1,5,6,12,14,18,19,20,22,26,27,28,264]),(42,[1,5,6,12,14,18,19,20,22,26,27,28]),(41,[1,5,6,12,14,18,19,20,22,26,27,28]),(38,[1,5,6,12,14,18,19,20,22,26,27]),(43,[1,5,6,12,14,18,19,20,26,29]),(44,[1,5,6,12,14,18,19,20,26,29,279]),(46,[1,5,6,12,14,18,19,20,26,29]),(45,[1,5,6,12,14,18,19,20,26,29]),(24,[1,5,6,12,14,18,19]),(47,[14,18,30]),(48,[14,18,30,307]),(50,[14,18,30,318]),(51,[4]),(49,[14,18,30]),(52,[4])]
def f5v : List Nat := []
def f9r0 : List AOper := [⟨some 2,.move (.c .nilp),none,0,0⟩,⟨some 3,.move (.c .nilp),none,0,1⟩,⟨some 4,.move (.c (.bool false)),none,0,3⟩]
def f9r1 : List AOper := [⟨some 10,.move (.t 0),none,0,0⟩,⟨some 11,.call (.c (.fn 23 [] [])) [(.t 10)],none,0,1⟩,⟨some 9,.move (.t 11),none,0,3⟩,⟨some 12,.extract (.t 9) 0,none,0,7⟩,⟨some 13,.extract (.t 9) 1,none,0,7⟩,⟨some 5,.move (.t 12),none,0,15⟩,⟨some 6,.move (.t 13),none,0,63⟩]
def f9r2 : List AOper := [⟨some 14,.move (.t 6),none,0,0⟩,⟨some 15,.bin .neq (.t 14) (.c (.int .i64 0)),none,0,1⟩]
def f9r3 : List AOper := [⟨some 2,.move (.c .nilp),none,0,0⟩,⟨some 3,.move (.c .nilp),none,0,1⟩,⟨some 4,.move (.c (.bool false)),none,0,3⟩]
def f9r4 : List AOper := [⟨some 17,.move (.t 0),none,0,0⟩,⟨some 18,.build [(.is [] .nil)] [(0,1,(.t 17))],none,0,1⟩,⟨some 19,.box false (.t 18),none,0,3⟩,⟨some 20,.call (.c (.fn 21 [] [])) [(.t 19)],none,1,7⟩,⟨some 21,.nilCheck (.t 20),none,1,15⟩,⟨some 22,.fieldAddr 0 (.t 21),none,1,31⟩,⟨some 23,.load false 1 (.t 22),none,1,63⟩,⟨some 24,.call (.c (.fn 22 [] [])) [(.t 23)],none,1,127⟩,⟨some 16,.move (.t 24),none,1,255⟩,⟨some 25,.extract (.t 16) 0,none,1,511⟩,⟨some 26,.extract (.t 16) 1,none,1,511⟩,⟨some 7,.move (.t 25),none,1,1023⟩,⟨some 8,.move (.t 26),none,1,4095⟩]
def f9r5 : List AOper := [⟨some 27,.move (.t 7),none,0,0⟩,⟨some 28,.move (.t 5),none,0,0⟩,⟨some 2,.move (.t 27),none,0,1⟩,⟨some 3,.move (.t 28),none,0,7⟩,⟨some 4,.move (.c (.bool true)),none,0,15⟩]
def f9c : ACode :=
 .seq (.region false f9r0 [0] 0)
 (.seq (.region false f9r1 [0,5,6] 0)
 (.seq (.seq (.region false f9r2 [0,5,15] 0)
 (.cond (.t 15)
  (.seq (.region false f9r3 [2,3,4] 0)
  (.ret))
  (.skip)))
 (.seq (.region false f9r4 [5,7] 1)
 (.seq (.region false f9r5 [2,3,4] 0)
 (.ret)))))
def f9 : AFn := ⟨1,29,[.tmp 2,.tmp 3,.tmp 4],f9c,0,none⟩
def f9k : List (Nat × List Nat) := [(0,[0]),(1,[0,5,6]),(2,[0,5,15]),(3,[2,3,4]),(4,[5,7]),(5,[2,3,4])]
def f9v : List Nat := []
def f10r0 : List AOper := [⟨some 0,.move (.c (.bool false)),none,0,0⟩]
def f10r1 : List AOper := [⟨some 26,.call (.c (.fn 26 [] [])) [],none,0,0⟩,⟨some 1,.move (.t 26),none,0,1⟩]
def f10r2 : List AOper := [⟨some 28,.move (.t 1),none,0,0⟩,⟨some 29,.call (.c (.fn 11 [] [])) [(.t 28),(.c (.str [83]))],none,0,1⟩,⟨some 27,.move (.t 29),none,0,3⟩,⟨some 30,.extract (.t 27) 0,none,0,7⟩,⟨some 31,.extract (.t 27) 1,none,0,7⟩,⟨some 2,.move (.t 30),none,0,15⟩,⟨some 3,.move (.t 31),none,0,63⟩]
def f10r3 : List AOper := [⟨some 32,.move (.t 1),none,0,0⟩,⟨some 33,.move (.t 2),none,0,0⟩,⟨some 34,.build [(.str []),(.int .i64 0),(.int .i64 0)] [(0,1,(.c (.str [99]))),(1,1,(.c (.int .i64 2))),(2,1,(.c (.int .i64 (-1))))],none,0,0⟩,⟨some 35,.build [(.str []),(.int .i64 0),(.int .i64 0)] [(0,1,(.c (.str [105]))),(1,1,(.c (.int .i64 7))),(2,1,(.c (.int .i64 (-1))))],none,0,0⟩,⟨some 36,.build [(.str []),(.int .i64 0),(.int .i64 0)] [(0,1,(.c (.str [115]))),(1,1,(.c (.int .i64 5))),(2,1,(.c (.int .i64 (-1))))],none,0,0⟩,⟨some 37,.buildSlice true 3 3 [(.str []),(.int .i64 0),(.int .i64 0),(.str []),(.int .i64 0),(.int .i64 0),(.str []),(.int .i64 0),(.int .i64 0)] [(0,3,(.t 34)),(3,3,(.t 35)),(6,3,(.t 36))],none,0,28⟩,⟨some 38,.call (.c (.fn 12 [] [])) [(.t 32),(.t 33),(.t 37)],none,0,63⟩,⟨some 4,.move (.t 38),none,0,127⟩]
def f10r4 : List AOper := [⟨some 40,.move (.t 1),none,0,0⟩,⟨some 41,.move (.t 2),none,0,0⟩,⟨some 42,.call (.c (.fn 15 [] [])) [(.t 40),(.t 41)],none,0,3⟩,⟨some 39,.move (.t 42),none,0,7⟩,⟨some 43,.extract (.t 39) 0,none,0,15⟩,⟨some 44,.extract (.t 39) 1,none,0,15⟩,⟨some 5,.move (.t 43),none,0,31⟩,⟨some 6,.move (.t 44),none,0,127⟩]
def f10r5 : List AOper := [⟨some 46,.move (.t 1),none,0,0⟩,⟨some 47,.move (.t 2),none,0,0⟩,⟨some 48,.call (.c (.fn 16 [] [])) [(.t 46),(.t 47)],none,0,3⟩,⟨some 45,.move (.t 48),none,0,7⟩,⟨some 49,.extract (.t 45) 0,none,0,15⟩,⟨some 50,.extract (.t 45) 1,none,0,15⟩,⟨some 7,.move (.t 49),none,0,31⟩,⟨some 8,.move (.t 50),none,0,127⟩]
def f10r6 : List AOper := [⟨some 52,.move (.t 1),none,0,0⟩,⟨some 53,.move (.t 2),none,0,0⟩,⟨some 54,.call (.c (.fn 13 [] [])) [(.t 52),(.t 53)],none,0,3⟩,⟨some 51,.move (.t 54),none,0,7⟩,⟨some 55,.extract (.t 51) 0,none,0,15⟩,⟨some 56,.extract (.t 51) 1,none,0,15⟩,⟨some 9,.move (.t 55),none,0,31⟩,⟨some 10,.move (.t 56),none,0,127⟩]
def f10r7 : List AOper := [⟨some 58,.move (.t 1),none,0,0⟩,⟨some 59,.move (.t 2),none,0,0⟩,⟨some 60,.call (.c (.fn 18 [] [])) [(.t 58),(.t 59)],none,0,3⟩,⟨some 57,.move (.t 60),none,0,7⟩,⟨some 61,.extract (.t 57) 0,none,0,15⟩,⟨some 62,.extract (.t 57) 1,none,0,15⟩,⟨some 11,.move (.t 61),none,0,31⟩,⟨some 12,.move (.t 62),none,0,127⟩]
def f10r8 : List AOper := [⟨some 64,.move (.t 1),none,0,0⟩,⟨some 65,.move (.t 2),none,0,0⟩,⟨some 66,.call (.c (.fn 27 [] [])) [(.t 64),(.t 65),(.c (.str [115]))],none,0,3⟩,⟨some 63,.move (.t 66),none,0,7⟩,⟨some 67,.extract (.t 63) 0,none,0,15⟩,⟨some 68,.extract (.t 63) 1,none,0,15⟩,⟨some 69,.extract (.t 63) 2,none,0,15⟩,⟨some 13,.alloc false (List.replicate 5 (.int .i64 0)),none,0,0⟩,⟨none,.store 5 (.t 13) (.t 67),none,1,159⟩,⟨some 14,.move (.t 68),none,1,447⟩,⟨some 15,.move (.t 69),none,1,1023⟩]
def f10r9 : List AOper := [⟨some 71,.move (.t 1),none,0,0⟩,⟨some 72,.call (.c (.fn 11 [] [])) [(.t 71),(.c (.str [66]))],none,0,1⟩,⟨some 70,.move (.t 72),none,0,3⟩,⟨some 73,.extract (.t 70) 0,none,0,7⟩,⟨some 74,.extract (.t 70) 1,none,0,7⟩,⟨some 16,.move (.t 73),none,0,15⟩,⟨some 17,.move (.t 74),none,0,63⟩]
def f10r10 : List AOper := [⟨some 75,.move (.t 1),none,0,0⟩,⟨some 76,.move (.t 16),none,0,0⟩,⟨some 77,.build [(.str []),(.int .i64 0),(.int .i64 0)] [(0,1,(.c (.str [97]))),(1,1,(.c (.int .i64 7))),(2,1,(.c (.int .i64 3)))],none,0,0⟩,⟨some 78,.build [(.str []),(.int .i64 0),(.int .i64 0)] [(0,1,(.c (.str [98]))),(1,1,(.c (.int .i64 7))),(2,1,(.c (.int .i64 30)))],none,0,0⟩,⟨some 79,.build [(.str []),(.int .i64 0),(.int .i64 0)] [(0,1,(.c (.str [99]))),(1,1,(.c (.int .i64 2))),(2,1,(.c (.int .i64 (-1))))],none,0,0⟩,⟨some 80,.buildSlice true 3 3 [(.str []),(.int .i64 0),(.int .i64 0),(.str []),(.int .i64 0),(.int .i64 0),(.str []),(.int .i64 0),(.int .i64 0)] [(0,3,(.t 77)),(3,3,(.t 78)),(6,3,(.t 79))],none,0,28⟩,⟨some 81,.call (.c (.fn 12 [] [])) [(.t 75),(.t 76),(.t 80)],none,0,63⟩]
def f10r11 : List AOper := [⟨some 83,.move (.t 1),none,0,0⟩,⟨some 84,.move (.t 16),none,0,0⟩,⟨some 85,.call (.c (.fn 27 [] [])) [(.t 83),(.t 84),(.c (.str [98]))],none,0,3⟩,⟨some 82,.move (.t 85),none,0,7⟩,⟨some 86,.extract (.t 82) 0,none,0,15⟩,⟨some 87,.extract (.t 82) 1,none,0,15⟩,⟨some 88,.extract (.t 82) 2,none,0,15⟩,⟨some 18,.alloc false (List.replicate 5 (.int .i64 0)),none,0,0⟩,⟨none,.store 5 (.t 18) (.t 86),none,1,159⟩,⟨some 19,.move (.t 87),none,1,447⟩,⟨some 20,.move (.t 88),none,1,1023⟩]
def f10r12 : List AOper := [⟨some 90,.move (.t 1),none,0,0⟩,⟨some 91,.move (.t 16),none,0,0⟩,⟨some 92,.call (.c (.fn 27 [] [])) [(.t 90),(.t 91),(.c (.str [99]))],none,0,3⟩,⟨some 89,.move (.t 92),none,0,7⟩,⟨some 93,.extract (.t 89) 0,none,0,15⟩,⟨some 94,.extract (.t 89) 1,none,0,15⟩,⟨some 95,.extract (.t 89) 2,none,0,15⟩,⟨some 21,.alloc false (List.replicate 5 (.int .i64 0)),none,0,0⟩,⟨none,.store 5 (.t 21) (.t 93),none,1,159⟩,⟨some 22,.move (.t 94),none,1,447⟩,⟨some 23,.move (.t 95),none,1,1023⟩]
def f10r13 : List AOper := [⟨some 97,.move (.t 1),none,0,0⟩,⟨some 98,.call (.c (.fn 15 [] [])) [(.t 97),(.c (.int .i64 0))],none,0,1⟩,⟨some 96,.move (.t 98),none,0,3⟩,⟨some 99,.extract (.t 96) 0,none,0,7⟩,⟨some 100,.extract (.t 96) 1,none,0,7⟩,⟨some 24,.move (.t 99),none,0,15⟩,⟨some 25,.move (.t 100),none,0,63⟩]
def f10r14 : List AOper := [⟨some 101,.move (.t 4),none,0,0⟩,⟨some 102,.bin .neq (.t 101) (.c (.int .i64 0)),none,0,1⟩,⟨some 103,.move (.t 102),none,0,3⟩,⟨some 104,.move (.t 6),(some (103,false)),0,7⟩,⟨some 105,.bin .neq (.t 104) (.c (.int .i64 0)),(some (103,false)),0,15⟩,⟨some 106,.pick (.t 103) (.c (.bool true)) (.t 105),none,0,31⟩,⟨some 107,.move (.t 106),none,0,63⟩,⟨some 108,.move (.t 8),(some (107,false)),0,127⟩,⟨some 109,.bin .neq (.t 108) (.c (.int .i64 0)),(some (107,false)),0,255⟩,⟨some 110,.pick (.t 107) (.c (.bool true)) (.t 109),none,0,511⟩,⟨some 111,.move (.t 110),none,0,1023⟩,⟨some 112,.move (.t 10),(some (111,false)),0,2047⟩,⟨some 113,.bin .neq (.t 112) (.c (.int .i64 0)),(some (111,false)),0,4095⟩,⟨some 114,.pick (.t 111) (.c (.bool true)) (.t 113),none,0,8191⟩,⟨some 115,.move (.t 114),none,0,16383⟩,⟨some 116,.move (.t 12),(some (115,false)),0,32767⟩,⟨some 117,.bin .neq (.t 116) (.c (.int .i64 0)),(some (115,false)),0,65535⟩,⟨some 118,.pick (.t 115) (.c (.bool true)) (.t 117),none,0,131071⟩,⟨some 119,.move (.t 118),none,0,262143⟩,⟨some 120,.move (.t 15),(some (119,false)),0,524287⟩,⟨some 121,.bin .neq (.t 120) (.c (.int .i64 0)),(some (119,false)),0,1048575⟩,⟨some 122,.pick (.t 119) (.c (.bool true)) (.t 121),none,0,2097151⟩,⟨some 123,.move (.t 122),none,0,4194303⟩,⟨some 124,.move (.t 20),(some (123,false)),0,8388607⟩,⟨some 125,.bin .neq (.t 124) (.c (.int .i64 0)),(some (123,false)),0,16777215⟩,⟨some 126,.pick (.t 123) (.c (.bool true)) (.t 125),none,0,33554431⟩,⟨some 127,.move (.t 126),none,0,67108863⟩,⟨some 128,.move (.t 23),(some (127,false)),0,134217727⟩,⟨some 129,.bin .neq (.t 128) (.c (.int .i64 0)),(some (127,false)),0,268435455⟩,⟨some 130,.pick (.t 127) (.c (.bool true)) (.t 129),none,0,536870911⟩,⟨some 131,.move (.t 130),none,0,1073741823⟩,⟨some 132,.move (.t 25),(some (131,false)),0,2147483647⟩,⟨some 133,.bin .neq (.t 132) (.c (.int .i64 50)),(some (131,false)),0,4294967295⟩,⟨some 134,.pick (.t 131) (.c (.bool true)) (.t 133),none,0,8589934591⟩,⟨some 135,.move (.t 134),none,0,17179869183⟩,⟨some 136,.move (.t 9),(some (135,false)),0,34359738367⟩,⟨some 137,.len 1 (.t 136),(some (135,false)),0,68719476735⟩,⟨some 138,.bin .neq (.t 137) (.c (.int .i64 3)),(some (135,false)),0,137438953471⟩,⟨some 139,.pick (.t 135) (.c (.bool true)) (.t 138),none,0,274877906943⟩,⟨some 140,.move (.t 139),none,0,549755813887⟩,⟨some 141,.move (.t 11),(some (140,false)),0,1099511627775⟩,⟨some 142,.len 1 (.t 141),(some (140,false)),0,2199023255551⟩,⟨some 143,.bin .neq (.t 142) (.c (.int .i64 2)),(some (140,false)),0,4398046511103⟩,⟨some 144,.pick (.t 140) (.c (.bool true)) (.t 143),none,0,8796093022207⟩]
def f10r15 : List AOper := [⟨some 0,.move (.c (.bool false)),none,0,0⟩]
def f10r16 : List AOper := [⟨some 145,.move (.t 5),none,0,0⟩,⟨some 146,.bin .eql (.t 145) (.c (.int .i64 12)),none,0,1⟩,⟨some 147,.move (.t 146),none,0,3⟩,⟨some 148,.move (.t 7),(some (147,true)),0,7⟩,⟨some 149,.bin .eql (.t 148) (.c (.int .i64 4)),(some (147,true)),0,15⟩,⟨some 150,.pick (.t 147) (.t 149) (.c (.bool false)),none,0,31⟩,⟨some 151,.move (.t 150),none,0,63⟩,⟨some 152,.move (.t 9),(some (151,true)),0,127⟩,⟨some 153,.idxAddr 5 (.t 152) (.c (.int .i64 1)),(some (151,true)),0,255⟩,⟨some 154,.fieldAddr 2 (.t 153),(some (151,true)),0,511⟩,⟨some 155,.load false 1 (.t 154),(some (151,true)),0,1023⟩,⟨some 156,.bin .eql (.t 155) (.c (.int .i64 4)),(some (151,true)),0,2047⟩,⟨some 157,.pick (.t 151) (.t 156) (.c (.bool false)),none,0,4095⟩,⟨some 158,.move (.t 157),none,0,8191⟩,⟨some 159,.move (.t 11),(some (158,true)),0,16383⟩,⟨some 160,.idxAddr 2 (.t 159) (.c (.int .i64 0)),(some (158,true)),0,32767⟩,⟨some 161,.load true 2 (.t 160),(some (158,true)),0,65535⟩,⟨some 162,.build [(.int .i64 0),(.int .i64 0)] [(0,1,(.c (.int .i64 8))),(1,1,(.c (.int .i64 24)))],(some (158,true)),0,16383⟩,⟨some 163,.eq false (.agg [.int .i64,.int .i64]) (.t 161) (.t 162),(some (158,true)),0,262143⟩,⟨some 164,.pick (.t 158) (.t 163) (.c (.bool false)),none,0,524287⟩,⟨some 165,.move (.t 164),none,0,1048575⟩,⟨some 166,.move (.t 11),(some (165,true)),0,2097151⟩,⟨some 167,.idxAddr 2 (.t 166) (.c (.int .i64 1)),(some (165,true)),0,4194303⟩,⟨some 168,.load true 2 (.t 167),(some (165,true)),0,8388607⟩,⟨some 169,.build [(.int .i64 0),(.int .i64 0)] [(0,1,(.c (.int .i64 80))),(1,1,(.c (.int .i64 16)))],(some (165,true)),0,2097151⟩,⟨some 170,.eq false (.agg [.int .i64,.int .i64]) (.t 168) (.t 169),(some (165,true)),0,33554431⟩,⟨some 171,.pick (.t 165) (.t 170) (.c (.bool false)),none,0,67108863⟩,⟨some 172,.move (.t 171),none,0,134217727⟩,⟨some 173,.move (.t 14),(some (172,true)),0,268435455⟩,⟨some 174,.pick (.t 172) (.t 173) (.c (.bool false)),none,0,536870911⟩,⟨some 175,.move (.t 174),none,0,1073741823⟩,⟨some 176,.fieldAddr 2 (.t 13),(some (175,true)),0,2147483647⟩,⟨some 177,.load false 1 (.t 176),(some (175,true)),0,4294967295⟩,⟨some 178,.bin .eql (.t 177) (.c (.int .i64 8)),(some (175,true)),0,8589934591⟩,⟨some 179,.pick (.t 175) (.t 178) (.c (.bool false)),none,0,17179869183⟩,⟨some 180,.move (.t 179),none,0,34359738367⟩,⟨some 181,.move (.t 19),(some (180,true)),0,68719476735⟩,⟨some 182,.pick (.t 180) (.t 181) (.c (.bool false)),none,0,137438953471⟩,⟨some 183,.move (.t 182),none,0,274877906943⟩,⟨some 184,.fieldAddr 2 (.t 18),(some (183,true)),0,549755813887⟩,⟨some 185,.load false 1 (.t 184),(some (183,true)),0,1099511627775⟩,⟨some 186,.bin .eql (.t 185) (.c (.int .i64 4)),(some (183,true)),0,2199023255551⟩,⟨some 187,.pick (.t 183) (.t 186) (.c (.bool false)),none,0,4398046511103⟩,⟨some 188,.move (.t 187),none,0,8796093022207⟩,⟨some 189,.fieldAddr 4 (.t 18),(some (188,true)),0,17592186044415⟩,⟨some 190,.load false 1 (.t 189),(some (188,true)),0,35184372088831⟩,⟨some 191,.bin .eql (.t 190) (.c (.int .i64 30)),(some (188,true)),0,70368744177663⟩,⟨some 192,.pick (.t 188) (.t 191) (.c (.bool false)),none,0,140737488355327⟩,⟨some 193,.move (.t 192),none,0,281474976710655⟩,⟨some 194,.move (.t 22),(some (193,true)),0,562949953421311⟩,⟨some 195,.pick (.t 193) (.t 194) (.c (.bool false)),none,0,1125899906842623⟩,⟨some 196,.move (.t 195),none,0,2251799813685247⟩,⟨some 197,.fieldAddr 2 (.t 21),(some (196,true)),0,4503599627370495⟩,⟨some 198,.load false 1 (.t 197),(some (196,true)),0,9007199254740991⟩,⟨some 199,.bin .eql (.t 198) (.c (.int .i64 8)),(some (196,true)),0,18014398509481983⟩,⟨some 200,.pick (.t 196) (.t 199) (.c (.bool false)),none,0,36028797018963967⟩,⟨some 0,.move (.t 200),none,0,72057594037927935⟩]
def f10c : ACode :=
 .seq (.region false f10r0 [] 0)
 (.seq (.region false f10r1 [1] 0)
 (.seq (.region false f10r2 [1,2] 0)
 (.seq (.region false f10r3 [1,2,4] 0)
 (.seq (.region false f10r4 [1,2,4,5,6] 0)
 (.seq (.region false f10r5 [1,2,4,5,6,7,8] 0)
 (.seq (.region false f10r6 [1,2,4,5,6,7,8,9,10] 0)
 (.seq (.region false f10r7 [1,2,4,5,6,7,8,9,10,11,12] 0)
 (.seq (.region false f10r8 [1,4,5,6,7,8,9,10,11,12,13,14,15] 1)
 (.seq (.region false f10r9 [1,4,5,6,7,8,9,10,11,12,13,14,15,16] 0)
 (.seq (.region false f10r10 [1,4,5,6,7,8,9,10,11,12,13,14,15,16] 0)
 (.seq (.region false f10r11 [1,4,5,6,7,8,9,10,11,12,13,14,15,16,18,19,20] 1)
 (.seq (.region false f10r12 [1,4,5,6,7,8,9,10,11,12,13,14,15,18,19,20,21,22,23] 1)
 (.seq (.region false f10r13 [4,5,6,7,8,9,10,11,12,13,14,15,18,19,20,21,22,23,25] 0)
 (.seq (.seq (.region false f10r14 [5,7,9,11,13,14,18,19,21,22,144] 0)
 (.cond (.t 144)
  (.seq (.region false f10r15 [0] 0)
  (.ret))
  (.skip)))
 (.seq (.region false f10r16 [0] 0)
 (.ret))))))))))))))))
def f10 : AFn := ⟨0,201,[.tmp 0],f10c,1,none⟩
def f10k : List (Nat × List Nat) := [(0,[]),(1,[1]),(2,[1,2]),(3,[1,2,4]),(4,[1,2,4,5,6]),(5,[1,2,4,5,6,7,8]),(6,[1,2,4,5,6,7,8,9,10]),(7,[1,2,4,5,6,7,8,9,10,11,12]),(8,[1,4,5,6,7,8,9,10,11,12,13,14,15]),(9,[1,4,5,6,7,8,9,10,11,12,13,14,15,16]),(10,[1,4,5,6,7,8,9,10,11,12,13,14,15,16]),(11,[1,4,5,6,7,8,9,10,11,12,13,14,15,16,18,19,20]),(12,[1,4,5,6,7,8,9,10,11,12,13,14,15,18,19,20,21,22,23]),(13,[4,5,6,7,8,9,10,11,12,13,14,15,18,19,20,21,22,23,25]),(14,[5,7,9,11,13,14,18,19,21,22,144]),(15,[0]),(16,[0])]
def f10v : List Nat := [80,37]
def f11r0 : List AOper := [⟨some 4,.move (.c (.int .i64 0)),none,0,0⟩,⟨some 5,.move (.c (.int .i64 0)),none,0,1⟩]
def f11r1 : List AOper := [⟨some 6,.move (.t 0),none,0,0⟩,⟨some 7,.move (.t 1),none,0,0⟩,⟨some 8,.call (.c (.fn 28 [] [])) [(.t 6),(.c (.int .i64 15)),(.t 7)],none,0,3⟩,⟨some 9,.extract (.t 8) 0,none,0,7⟩,⟨some 10,.extract (.t 8) 1,none,0,7⟩,⟨some 4,.move (.t 9),none,0,31⟩,⟨some 5,.move (.t 10),none,0,63⟩]
def f11c : ACode :=
 .seq (.region false f11r0 [0,1] 0)
 (.seq (.region false f11r1 [4,5] 0)
 (.ret))
def f11 : AFn := ⟨2,11,[.tmp 4,.tmp 5],f11c,1,none⟩
def f11k : List (Nat × List Nat) := [(0,[0,1]),(1,[4,5])]
def f11v : List Nat := []
def f12r0 : List AOper := [⟨some 6,.move (.c (.int .i64 0)),none,0,0⟩]
def f12r1 : List AOper := [⟨some 9,.move (.t 0),none,0,0⟩,⟨some 10,.call (.c (.fn 29 [] [])) [(.t 9)],none,0,1⟩,⟨some 11,.un .not (.t 10),none,0,3⟩,⟨some 8,.move (.t 11),none,0,7⟩]
def f12r2 : List AOper := [⟨some 6,.move (.c (.int .i64 1)),none,0,0⟩]
def f12r3 : List AOper := [⟨some 13,.move (.t 0),none,0,0⟩,⟨some 14,.move (.t 1),none,0,0⟩,⟨some 15,.call (.c (.fn 30 [] [])) [(.t 13),(.t 14)],none,0,3⟩,⟨some 16,.un .not (.t 15),none,0,7⟩,⟨some 12,.move (.t 16),none,0,15⟩]
def f12r4 : List AOper := [⟨some 6,.move (.c (.int .i64 30)),none,0,0⟩]
def f12r5 : List AOper := [⟨some 18,.move (.t 0),none,0,0⟩,⟨some 19,.nilCheck (.t 18),none,0,1⟩,⟨some 20,.fieldAddr 0 (.t 19),none,0,3⟩,⟨some 21,.load false 1 (.t 20),none,0,7⟩,⟨some 22,.move (.t 1),none,0,0⟩,⟨some 23,.idxAddr 6 (.t 21) (.t 22),none,0,31⟩,⟨some 24,.fieldAddr 5 (.t 23),none,0,63⟩,⟨some 25,.load false 1 (.t 24),none,0,127⟩,⟨some 17,.move (.t 25),none,0,255⟩]
def f12r6 : List AOper := [⟨some 6,.move (.c (.int .i64 33)),none,0,0⟩]
def f12r7 : List AOper := [⟨some 26,.move (.t 0),none,0,0⟩,⟨some 27,.move (.t 2),none,0,0⟩,⟨some 28,.call (.c (.fn 31 [] [])) [(.t 26),(.t 27)],none,0,3⟩,⟨some 7,.move (.t 28),none,0,7⟩]
def f12r8 : List AOper := [⟨some 29,.move (.t 7),none,0,0⟩,⟨some 30,.bin .neq (.t 29) (.c (.int .i64 0)),none,0,1⟩]
def f12r9 : List AOper := [⟨some 31,.move (.t 7),none,0,0⟩,⟨some 6,.move (.t 31),none,0,1⟩]
def f12q10 : List AOper := [⟨some 32,.move (.t 0),none,0,0⟩,⟨some 33,.nilCheck (.t 32),none,0,1⟩,⟨some 34,.fieldAddr 0 (.t 33),none,0,3⟩,⟨some 35,.load false 1 (.t 34),none,0,7⟩,⟨some 36,.move (.t 1),none,0,0⟩,⟨some 37,.move (.t 2),none,0,0⟩,⟨some 38,.call (.c (.fn 32 [] [])) [(.t 37)],none,0,32⟩,⟨some 39,.idxAddr 6 (.t 35) (.t 36),none,0,127⟩,⟨some 40,.fieldAddr 4 (.t 39),none,0,255⟩,⟨none,.store 1 (.t 40) (.t 38),none,0,511⟩]
def f12r10 : List AOper := f12q10
def f12r11 : List AOper := [⟨some 41,.move (.t 0),none,0,0⟩,⟨some 42,.nilCheck (.t 41),none,0,1⟩,⟨some 43,.fieldAddr 0 (.t 42),none,0,3⟩,⟨some 44,.load false 1 (.t 43),none,0,7⟩,⟨some 45,.move (.t 1),none,0,0⟩,⟨some 46,.idxAddr 6 (.t 44) (.t 45),none,0,31⟩,⟨some 47,.fieldAddr 5 (.t 46),none,0,63⟩,⟨none,.store 1 (.t 47) (.c (.bool true)),none,0,127⟩]
def f12r12 : List AOper := [⟨some 6,.move (.c (.int .i64 0)),none,0,0⟩]
def f12c : ACode :=
 .seq (.region false f12r0 [0,1,2] 0)
 (.seq (.block 0 (.seq (.region false f12r1 [0,1,2,8] 0)
  (.cond (.t 8)
   (.seq (.region false f12r2 [6] 0)
   (.ret))
   (.seq (.region false f12r3 [0,1,2,12] 0)
   (.cond (.t 12)
    (.seq (.region false f12r4 [6] 0)
    (.ret))
    (.seq (.region false f12r5 [0,1,2,17] 0)
    (.cond (.t 17)
     (.seq (.region false f12r6 [6] 0)
     (.ret))
     (.skip))))))))
 (.seq (.seq (.region false f12r7 [0,1,2,7] 0)
 (.seq (.region false f12r8 [0,1,2,7,30] 0)
 (.cond (.t 30)
  (.seq (.region false f12r9 [6] 0)
  (.ret))
  (.skip))))
 (.seq (.region true f12r10 [0,1] 0)
 (.seq (.region false f12r11 [] 0)
 (.seq (.region false f12r12 [6] 0)
 (.ret))))))
def f12 : AFn := ⟨3,48,[.tmp 6],f12c,1,none⟩
def f12k : List (Nat × List Nat) := [(0,[0,1,2]),(1,[0,1,2,8]),(3,[0,1,2,12]),(5,[0,1,2,17]),(6,[6]),(4,[6]),(2,[6]),(7,[0,1,2,7]),(8,[0,1,2,7,30]),(9,[6]),(10,[0,1]),(11,[]),(12,[6])]
def f12v : List Nat := []
def f13r0 : List AOper := [⟨some 4,.move (.c (.is [] .nil)),none,0,0⟩,⟨some 5,.move (.c (.int .i64 0)),none,0,1⟩]
def f13r1 : List AOper := [⟨some 10,.move (.t 0),none,0,0⟩,⟨some 11,.move (.t 1),none,0,0⟩,⟨some 12,.call (.c (.fn 33 [] [])) [(.t 10),(.t 11)],none,0,3⟩,⟨some 9,.move (.t 12),none,0,7⟩,⟨some 13,.extract (.t 9) 0,none,0,15⟩,⟨some 14,.extract (.t 9) 1,none,0,15⟩,⟨some 15,.extract (.t 9) 2,none,0,15⟩,⟨some 7,.alloc false [(.int .i64 0),(.int .i64 0),(.is [] .nil)],none,0,0⟩,⟨some 6,.move (.t 13),none,1,159⟩,⟨none,.store 3 (.t 7) (.t 14),none,1,447⟩,⟨some 8,.move (.t 15),none,1,1023⟩]
def f13r2 : List AOper := [⟨some 16,.move (.t 8),none,0,0⟩,⟨some 17,.bin .eql (.t 16) (.c (.int .i64 0)),none,0,1⟩,⟨some 18,.move (.t 17),none,0,3⟩,⟨some 19,.move (.t 0),(some (18,true)),0,7⟩,⟨some 20,.move (.t 1),(some (18,true)),0,7⟩,⟨some 21,.call (.c (.fn 34 [] [])) [(.t 19),(.t 20)],(some (18,true)),0,31⟩,⟨some 22,.un .not (.t 21),(some (18,true)),0,63⟩,⟨some 23,.pick (.t 18) (.t 22) (.c (.bool false)),none,0,127⟩]
def f13r3 : List AOper := [⟨some 8,.move (.c (.int .i64 30)),none,0,0⟩]
def f13r4 : List AOper := [⟨some 24,.move (.t 8),none,0,0⟩,⟨some 25,.bin .neq (.t 24) (.c (.int .i64 0)),none,0,1⟩]
def f13r5 : List AOper := [⟨some 26,.move (.t 8),none,0,0⟩,⟨some 4,.move (.c (.is [] .nil)),none,0,0⟩,⟨some 5,.move (.t 26),none,0,3⟩]
def f13r6 : List AOper := [⟨some 27,.fieldAddr 2 (.t 7),none,0,0⟩,⟨some 28,.load false 1 (.t 27),none,0,1⟩,⟨some 4,.move (.t 28),none,0,3⟩,⟨some 5,.move (.c (.int .i64 0)),none,0,7⟩]
def f13c : ACode :=
 .seq (.region false f13r0 [0,1] 0)
 (.seq (.region false f13r1 [0,1,7,8] 1)
 (.seq (.seq (.region false f13r2 [7,8,23] 0)
 (.cond (.t 23)
  (.region false f13r3 [7,8] 0)
  (.skip)))
 (.seq (.seq (.region false f13r4 [7,8,25] 0)
 (.cond (.t 25)
  (.seq (.region false f13r5 [4,5] 0)
  (.ret))
  (.skip)))
 (.seq (.region false f13r6 [4,5] 0)
 (.ret)))))
def f13 : AFn := ⟨2,29,[.tmp 4,.tmp 5],f13c,1,none⟩
def f13k : List (Nat × List Nat) := [(0,[0,1]),(1,[0,1,7,8]),(2,[7,8,23]),(3,[7,8]),(4,[7,8,25]),(5,[4,5]),(6,[4,5])]
def f13v : List Nat := []
def f14r0 : List AOper := [⟨some 4,.move (.c (.bool false)),none,0,0⟩]
def f14r1 : List AOper := [⟨some 5,.move (.t 0),none,0,0⟩,⟨some 6,.move (.t 1),none,0,0⟩,⟨some 7,.call (.c (.fn 35 [] [])) [(.t 5),(.t 6)],none,0,3⟩,⟨some 8,.bin .eql (.t 7) (.c (.int .i64 15)),none,0,7⟩,⟨some 9,.move (.t 8),none,0,15⟩,⟨some 10,.move (.t 0),(some (9,false)),0,31⟩,⟨some 11,.move (.t 1),(some (9,false)),0,31⟩,⟨some 12,.call (.c (.fn 35 [] [])) [(.t 10),(.t 11)],(some (9,false)),0,127⟩,⟨some 13,.bin .eql (.t 12) (.c (.int .i64 16)),(some (9,false)),0,255⟩,⟨some 14,.pick (.t 9) (.c (.bool true)) (.t 13),none,0,511⟩,⟨some 4,.move (.t 14),none,0,1023⟩]
def f14c : ACode :=
 .seq (.region false f14r0 [0,1] 0)
 (.seq (.region false f14r1 [4] 0)
 (.ret))
def f14 : AFn := ⟨2,15,[.tmp 4],f14c,1,none⟩
def f14k : List (Nat × List Nat) := [(0,[0,1]),(1,[4])]
def f14v : List Nat := []
def f15r0 : List AOper := [⟨some 4,.move (.c (.int .i64 0)),none,0,0⟩,⟨some 5,.move (.c (.int .i64 0)),none,0,1⟩]
def f15r1 : List AOper := [⟨some 10,.move (.t 0),none,0,0⟩,⟨some 11,.move (.t 1),none,0,0⟩,⟨some 12,.call (.c (.fn 33 [] [])) [(.t 10),(.t 11)],none,0,3⟩,⟨some 9,.move (.t 12),none,0,7⟩,⟨some 13,.extract (.t 9) 0,none,0,15⟩,⟨some 14,.extract (.t 9) 1,none,0,15⟩,⟨some 15,.extract (.t 9) 2,none,0,15⟩,⟨some 7,.alloc false [(.int .i64 0),(.int .i64 0),(.is [] .nil)],none,0,0⟩,⟨some 6,.move (.t 13),none,1,159⟩,⟨none,.store 3 (.t 7) (.t 14),none,1,447⟩,⟨some 8,.move (.t 15),none,1,1023⟩]
def f15r2 : List AOper := [⟨some 16,.fieldAddr 0 (.t 7),none,0,0⟩,⟨some 17,.load false 1 (.t 16),none,0,1⟩,⟨some 18,.move (.t 8),none,0,0⟩,⟨some 4,.move (.t 17),none,0,3⟩,⟨some 5,.move (.t 18),none,0,15⟩]
def f15c : ACode :=
 .seq (.region false f15r0 [0,1] 0)
 (.seq (.region false f15r1 [7,8] 1)
 (.seq (.region false f15r2 [4,5] 0)
 (.ret)))
def f15 : AFn := ⟨2,19,[.tmp 4,.tmp 5],f15c,1,none⟩
def f15k : List (Nat × List Nat) := [(0,[0,1]),(1,[7,8]),(2,[4,5])]
def f15v : List Nat := []
def f16r0 : List AOper := [⟨some 4,.move (.c (.int .i64 0)),none,0,0⟩,⟨some 5,.move (.c (.int .i64 0)),none,0,1⟩]
def f16r1 : List AOper := [⟨some 10,.move (.t 0),none,0,0⟩,⟨some 11,.move (.t 1),none,0,0⟩,⟨some 12,.call (.c (.fn 33 [] [])) [(.t 10),(.t 11)],none,0,3⟩,⟨some 9,.move (.t 12),none,0,7⟩,⟨some 13,.extract (.t 9) 0,none,0,15⟩,⟨some 14,.extract (.t 9) 1,none,0,15⟩,⟨some 15,.extract (.t 9) 2,none,0,15⟩,⟨some 7,.alloc false [(.int .i64 0),(.int .i64 0),(.is [] .nil)],none,0,0⟩,⟨some 6,.move (.t 13),none,1,159⟩,⟨none,.store 3 (.t 7) (.t 14),none,1,447⟩,⟨some 8,.move (.t 15),none,1,1023⟩]
def f16r2 : List AOper := [⟨some 16,.fieldAddr 1 (.t 7),none,0,0⟩,⟨some 17,.load false 1 (.t 16),none,0,1⟩,⟨some 18,.move (.t 8),none,0,0⟩,⟨some 4,.move (.t 17),none,0,3⟩,⟨some 5,.move (.t 18),none,0,15⟩]
def f16c : ACode :=
 .seq (.region false f16r0 [0,1] 0)
 (.seq (.region false f16r1 [7,8] 1)
 (.seq (.region false f16r2 [4,5] 0)
 (.ret)))
def f16 : AFn := ⟨2,19,[.tmp 4,.tmp 5],f16c,1,none⟩
def f16k : List (Nat × List Nat) := [(0,[0,1]),(1,[7,8]),(2,[4,5])]
def f16v : List Nat := []
def f18r0 : List AOper := [⟨some 4,.move (.c (.is [] .nil)),none,0,0⟩,⟨some 5,.move (.c (.int .i64 0)),none,0,1⟩]
def f18r1 : List AOper := [⟨some 15,.move (.t 0),none,0,0⟩,⟨some 16,.move (.t 1),none,0,0⟩,⟨some 17,.call (.c (.fn 33 [] [])) [(.t 15),(.t 16)],none,0,3⟩,⟨some 14,.move (.t 17),none,0,7⟩,⟨some 18,.extract (.t 14) 0,none,0,15⟩,⟨some 19,.extract (.t 14) 1,none,0,15⟩,⟨some 20,.extract (.t 14) 2,none,0,15⟩,⟨some 7,.alloc false [(.int .i64 0),(.int .i64 0),(.is [] .nil)],none,0,0⟩,⟨some 6,.move (.t 18),none,1,159⟩,⟨none,.store 3 (.t 7) (.t 19),none,1,447⟩,⟨some 8,.move (.t 20),none,1,1023⟩]
def f18r2 : List AOper := [⟨some 21,.move (.t 8),none,0,0⟩,⟨some 22,.bin .neq (.t 21) (.c (.int .i64 0)),none,0,1⟩]
def f18r3 : List AOper := [⟨some 23,.move (.t 8),none,0,0⟩,⟨some 4,.move (.c (.is [] .nil)),none,0,0⟩,⟨some 5,.move (.t 23),none,0,3⟩]
def f18r4 : List AOper := [⟨some 24,.fieldAddr 0 (.t 7),none,0,0⟩,⟨some 25,.load false 1 (.t 24),none,0,1⟩,⟨some 26,.bin .mul (.c (.int .i64 8)) (.t 25),none,0,3⟩,⟨some 27,.bin .add (.t 26) (.c (.int .i64 1)),none,0,7⟩,⟨some 28,.mkSlice false 1 1 [(.int .u8 0)] (.t 27) (.t 27),none,0,15⟩,⟨some 9,.alloc false [(.is [] .nil)],none,1,0⟩,⟨none,.store 1 (.t 9) (.t 28),none,2,63⟩]
def f18r5 : List AOper := [⟨some 29,.load false 1 (.t 9),none,0,0⟩,⟨some 30,.fieldAddr 0 (.t 7),none,0,0⟩,⟨some 31,.load false 1 (.t 30),none,0,2⟩,⟨some 32,.bin .mul (.c (.int .i64 8)) (.t 31),none,0,6⟩,⟨some 33,.idxAddr 1 (.t 29) (.t 32),none,0,15⟩,⟨none,.store 1 (.t 33) (.c (.int .u8 1)),none,0,31⟩]
def f18r6 : List AOper := [⟨some 34,.move (.t 6),none,0,0⟩,⟨some 35,.move (.t 1),none,0,0⟩,⟨some 36,.fn 37 [] [(.t 9)],none,0,0⟩,⟨some 37,.call (.c (.fn 36 [] [])) [(.t 34),(.t 35),(.c (.int .i64 0)),(.t 36)],none,0,7⟩]
def f18r7 : List AOper := [⟨some 10,.move (.c (.is [] .nil)),none,0,0⟩]
def f18r8 : List AOper := [⟨some 11,.move (.c (.int .i64 (-1))),none,0,0⟩]
def f18r9 : List AOper := [⟨some 38,.load false 1 (.t 9),none,0,0⟩,⟨some 39,.len 1 (.t 38),none,0,1⟩,⟨some 40,.move (.c (.int .i64 0)),none,0,0⟩]
def f18r10 : List AOper := [⟨some 41,.bin .lss (.t 40) (.t 39),none,0,0⟩]
def f18r11 : List AOper := [⟨some 42,.move (.t 40),none,0,0⟩,⟨some 43,.idxAddr 1 (.t 38) (.t 40),none,0,0⟩,⟨some 44,.load false 1 (.t 43),none,0,2⟩,⟨some 12,.move (.t 42),none,0,7⟩,⟨some 13,.move (.t 44),none,0,15⟩]
def f18r12 : List AOper := [⟨some 46,.move (.t 13),none,0,0⟩,⟨some 47,.bin .eql (.t 46) (.c (.int .u8 0)),none,0,1⟩,⟨some 48,.move (.t 47),none,0,3⟩,⟨some 49,.move (.t 11),(some (48,true)),0,7⟩,⟨some 50,.bin .lss (.t 49) (.c (.int .i64 0)),(some (48,true)),0,15⟩,⟨some 51,.pick (.t 48) (.t 50) (.c (.bool false)),none,0,31⟩,⟨some 45,.move (.t 51),none,0,63⟩]
def f18r13 : List AOper := [⟨some 52,.move (.t 12),none,0,0⟩,⟨some 11,.move (.t 52),none,0,1⟩]
def f18r14 : List AOper := [⟨some 54,.move (.t 13),none,0,0⟩,⟨some 55,.bin .eql (.t 54) (.c (.int .u8 1)),none,0,1⟩,⟨some 56,.move (.t 55),none,0,3⟩,⟨some 57,.move (.t 11),(some (56,true)),0,7⟩,⟨some 58,.bin .geq (.t 57) (.c (.int .i64 0)),(some (56,true)),0,15⟩,⟨some 59,.pick (.t 56) (.t 58) (.c (.bool false)),none,0,31⟩,⟨some 53,.move (.t 59),none,0,63⟩]
def f18r15 : List AOper := [⟨some 60,.move (.t 10),none,0,0⟩,⟨some 61,.move (.t 11),none,0,0⟩,⟨some 62,.move (.t 12),none,0,0⟩,⟨some 63,.move (.t 11),none,0,0⟩,⟨some 64,.bin .sub (.t 62) (.t 63),none,0,12⟩,⟨some 65,.build [(.int .i64 0),(.int .i64 0)] [(0,1,(.t 61)),(1,1,(.t 64))],none,0,30⟩,⟨some 66,.buildSlice true 2 1 [(.int .i64 0),(.int .i64 0)] [(0,2,(.t 65))],none,0,62⟩,⟨some 67,.append true 2 16 (.t 60) (.t 66),none,0,127⟩,⟨some 10,.move (.t 67),none,1,255⟩]
def f18r16 : List AOper := [⟨some 11,.move (.c (.int .i64 (-1))),none,0,0⟩]
def f18r17 : List AOper := [⟨some 68,.bin .add (.t 40) (.c (.int .i64 1)),none,0,0⟩,⟨some 40,.move (.t 68),none,0,1⟩]
def f18m10 : ACode :=
 .seq (.region false f18r10 [10,11,38,39,40,41] 0)
 (.seq (.cond (.t 41)
  (.skip)
  (.exit 0))
 (.seq (.block 1 (.seq (.region false f18r11 [10,11,12,13,38,39,40] 0)
  (.block 2 (.seq (.region false f18r12 [10,11,12,13,38,39,40,45] 0)
   (.cond (.t 45)
    (.region false f18r13 [10,11,38,39,40] 0)
    (.seq (.region false f18r14 [10,11,12,38,39,40,53] 0)
    (.cond (.t 53)
     (.seq (.region false f18r15 [10,38,39,40] 1)
     (.region false f18r16 [10,11,38,39,40] 0))
     (.skip))))))))
 (.region false f18r17 [10,11,38,39,40] 0)))
def f18l10 : ACode := f18m10
theorem f18l10_b {A : Tab} {nt : Nat} {e : Env} {h : Heap} : Brun A nt f18l10 e h = Brun A nt f18m10 e h := rfl
def f18r18 : List AOper := [⟨some 69,.move (.t 10),none,0,0⟩,⟨some 4,.move (.t 69),none,0,1⟩,⟨some 5,.move (.c (.int .i64 0)),none,0,3⟩]
def f18c : ACode :=
 .seq (.region false f18r0 [0,1] 0)
 (.seq (.region false f18r1 [1,6,7,8] 1)
 (.seq (.seq (.region false f18r2 [1,6,7,8,22] 0)
 (.cond (.t 22)
  (.seq (.region false f18r3 [4,5] 0)
  (.ret))
  (.skip)))
 (.seq (.region false f18r4 [1,6,7,9] 2)
 (.seq (.region false f18r5 [1,6,9] 0)
 (.seq (.region false f18r6 [9] 0)
 (.seq (.region false f18r7 [9,10] 0)
 (.seq (.region false f18r8 [9,10,11] 0)
 (.seq (.seq (.region false f18r9 [10,11,38,39,40] 0)
 (.block 0 (.loop f18l10)))
 (.seq (.region false f18r18 [4,5] 0)
 (.ret))))))))))
def f18 : AFn := ⟨2,70,[.tmp 4,.tmp 5],f18c,1,none⟩
def f18k : List (Nat × List Nat) := [(0,[0,1]),(1,[1,6,7,8]),(2,[1,6,7,8,22]),(3,[4,5]),(4,[1,6,7,9]),(5,[1,6,9]),(6,[9]),(7,[9,10]),(8,[9,10,11]),(9,[10,11,38,39,40]),(10,[10,11,38,39,40,41]),(11,[10,11,12,13,38,39,40]),(12,[10,11,12,13,38,39,40,45]),(14,[10,11,12,38,39,40,53]),(15,[10,38,39,40]),(16,[10,11,38,39,40]),(13,[10,11,38,39,40]),(17,[10,11,38,39,40]),(18,[4,5])]
def f18v : List Nat := [67,66]
def f21r0 : List AOper := [⟨some 2,.move (.c .nilp),none,0,0⟩]
def f21r1 : List AOper := [⟨some 5,.build [(.is [] .nil)] [],none,0,0⟩,⟨some 6,.box false (.t 5),none,0,1⟩,⟨some 3,.move (.t 6),none,1,3⟩]
def f21r2 : List AOper := [⟨some 4,.move (.c (.int .i64 0)),none,0,0⟩]
def f21r3 : List AOper := [⟨some 7,.move (.t 4),none,0,0⟩,⟨some 8,.move (.t 0),none,0,0⟩,⟨some 9,.nilCheck (.t 8),none,0,2⟩,⟨some 10,.fieldAddr 0 (.t 9),none,0,6⟩,⟨some 11,.load false 1 (.t 10),none,0,14⟩,⟨some 12,.len 1 (.t 11),none,0,30⟩,⟨some 13,.bin .lss (.t 7) (.t 12),none,0,63⟩]
def f21r4 : List AOper := [⟨some 16,.move (.t 3),none,0,0⟩,⟨some 17,.move (.t 3),none,0,0⟩,⟨some 18,.nilCheck (.t 17),none,0,2⟩,⟨some 19,.fieldAddr 0 (.t 18),none,0,6⟩,⟨some 20,.load false 1 (.t 19),none,0,14⟩,⟨some 21,.move (.t 0),none,0,0⟩,⟨some 22,.nilCheck (.t 21),none,0,32⟩,⟨some 23,.fieldAddr 0 (.t 22),none,0,96⟩,⟨some 24,.load false 1 (.t 23),none,0,224⟩,⟨some 25,.move (.t 4),none,0,0⟩,⟨some 26,.idxAddr 6 (.t 24) (.t 25),none,0,992⟩,⟨some 27,.load true 6 (.t 26),none,0,2016⟩,⟨some 28,.call (.c (.fn 45 [] [])) [(.t 27)],none,0,4064⟩,⟨some 29,.buildSlice true 6 1 [(.int .i64 0),(.int .i64 0),(.int .i64 0),(.str []),(.is [] .nil),(.bool false)] [(0,6,(.t 28))],none,0,8160⟩,⟨some 30,.append true 6 72 (.t 20) (.t 29),none,0,16382⟩,⟨some 31,.nilCheck (.t 16),none,1,32767⟩,⟨some 32,.fieldAddr 0 (.t 31),none,1,65535⟩,⟨none,.store 1 (.t 32) (.t 30),none,1,131071⟩]
def f21r5 : List AOper := [⟨some 14,.move (.t 4),none,0,0⟩,⟨some 15,.bin .add (.t 14) (.c (.int .i64 1)),none,0,1⟩,⟨some 4,.move (.t 15),none,0,3⟩]
def f21m3 : ACode :=
 .seq (.seq (.region false f21r3 [0,3,4,13] 0)
 (.cond (.t 13)
  (.skip)
  (.exit 0)))
 (.seq (.block 1 (.region true f21r4 [0,3,4] 1))
 (.region false f21r5 [0,3,4] 0))
def f21l3 : ACode := f21m3
theorem f21l3_b {A : Tab} {nt : Nat} {e : Env} {h : Heap} : Brun A nt f21l3 e h = Brun A nt f21m3 e h := rfl
def f21r6 : List AOper := [⟨some 33,.move (.t 3),none,0,0⟩,⟨some 2,.move (.t 33),none,0,1⟩]
def f21c : ACode :=
 .seq (.region false f21r0 [0] 0)
 (.seq (.region false f21r1 [0,3] 1)
 (.seq (.seq (.region false f21r2 [0,3,4] 0)
 (.block 0 (.loop f21l3)))
 (.seq (.region false f21r6 [2] 0)
 (.ret))))
def f21 : AFn := ⟨1,34,[.tmp 2],f21c,0,none⟩
def f21k : List (Nat × List Nat) := [(0,[0]),(1,[0,3]),(2,[0,3,4]),(3,[0,3,4,13]),(5,[0,3,4]),(4,[0,3,4]),(6,[2])]
def f21v : List Nat := [30,29]
def f22r0 : List AOper := [⟨some 2,.move (.c .nilp),none,0,0⟩,⟨some 3,.move (.c (.int .i64 0)),none,0,1⟩]
def f22r1 : List AOper := [⟨some 15,.call (.c (.fn 26 [] [])) [],none,0,0⟩,⟨some 4,.move (.t 15),none,0,1⟩]
def f22r2 : List AOper := [⟨some 16,.move (.t 4),none,0,0⟩,⟨some 17,.nilCheck (.t 16),none,0,1⟩,⟨some 18,.fieldAddr 0 (.t 17),none,0,3⟩,⟨some 19,.load false 1 (.t 18),none,0,7⟩,⟨some 20,.len 1 (.t 19),none,0,15⟩,⟨some 5,.move (.t 20),none,0,31⟩]
def f22r3 : List AOper := [⟨some 21,.move (.t 0),none,0,0⟩,⟨some 22,.len 1 (.t 21),none,0,1⟩,⟨some 23,.move (.t 5),none,0,0⟩,⟨some 24,.bin .lss (.t 22) (.t 23),none,0,7⟩,⟨some 25,.move (.t 24),none,0,15⟩,⟨some 26,.move (.t 0),(some (25,false)),0,31⟩,⟨some 27,.len 1 (.t 26),(some (25,false)),0,63⟩,⟨some 28,.bin .gtr (.t 27) (.c (.int .i64 512)),(some (25,false)),0,127⟩,⟨some 29,.pick (.t 25) (.c (.bool true)) (.t 28),none,0,255⟩]
def f22r4 : List AOper := [⟨some 2,.move (.c .nilp),none,0,0⟩,⟨some 3,.move (.c (.int .i64 30)),none,0,1⟩]
def f22r5 : List AOper := [⟨some 30,.move (.t 0),none,0,0⟩,⟨some 31,.len 1 (.t 30),none,0,1⟩,⟨some 32,.move (.c (.int .i64 0)),none,0,0⟩]
def f22r6 : List AOper := [⟨some 33,.bin .lss (.t 32) (.t 31),none,0,0⟩]
def f22r7 : List AOper := [⟨some 34,.move (.t 32),none,0,0⟩,⟨some 35,.idxAddr 6 (.t 30) (.t 32),none,0,0⟩,⟨some 36,.load true 6 (.t 35),none,0,2⟩,⟨some 7,.alloc false [(.int .i64 0),(.int .i64 0),(.int .i64 0),(.str []),(.is [] .nil),(.bool false)],none,0,0⟩,⟨some 6,.move (.t 34),none,1,15⟩,⟨none,.store 6 (.t 7) (.t 36),none,1,31⟩]
def f22r8 : List AOper := [⟨some 37,.move (.t 6),none,0,0⟩,⟨some 38,.move (.t 5),none,0,0⟩,⟨some 39,.bin .lss (.t 37) (.t 38),none,0,3⟩]
def f22q9 : List AOper := [⟨some 40,.fieldAddr 0 (.t 7),none,0,0⟩,⟨some 41,.load false 1 (.t 40),none,0,1⟩,⟨some 42,.move (.t 4),none,0,0⟩,⟨some 43,.nilCheck (.t 42),none,0,4⟩,⟨some 44,.fieldAddr 0 (.t 43),none,0,12⟩,⟨some 45,.load false 1 (.t 44),none,0,28⟩,⟨some 46,.move (.t 6),none,0,0⟩,⟨some 47,.idxAddr 6 (.t 45) (.t 46),none,0,124⟩,⟨some 48,.fieldAddr 0 (.t 47),none,0,252⟩,⟨some 49,.load false 1 (.t 48),none,0,508⟩,⟨some 50,.bin .neq (.t 41) (.t 49),none,0,1023⟩,⟨some 51,.move (.t 50),none,0,2047⟩,⟨some 52,.fieldAddr 1 (.t 7),(some (51,false)),0,4095⟩,⟨some 53,.load false 1 (.t 52),(some (51,false)),0,8191⟩,⟨some 54,.bin .neq (.t 53) (.c (.int .i64 0)),(some (51,false)),0,16383⟩,⟨some 55,.pick (.t 51) (.c (.bool true)) (.t 54),none,0,32767⟩,⟨some 56,.move (.t 55),none,0,65535⟩,⟨some 57,.fieldAddr 2 (.t 7),(some (56,false)),0,131071⟩,⟨some 58,.load false 1 (.t 57),(some (56,false)),0,262143⟩,⟨some 59,.bin .neq (.t 58) (.c (.int .i64 0)),(some (56,false)),0,524287⟩,⟨some 60,.pick (.t 56) (.c (.bool true)) (.t 59),none,0,1048575⟩,⟨some 61,.move (.t 60),none,0,2097151⟩,⟨some 62,.fieldAddr 3 (.t 7),(some (61,false)),0,4194303⟩,⟨some 63,.load false 1 (.t 62),(some (61,false)),0,8388607⟩,⟨some 64,.bin .neq (.t 63) (.c (.str [])),(some (61,false)),0,16777215⟩,⟨some 65,.pick (.t 61) (.c (.bool true)) (.t 64),none,0,33554431⟩,⟨some 66,.move (.t 65),none,0,67108863⟩,⟨some 67,.fieldAddr 4 (.t 7),(some (66,false)),0,134217727⟩,⟨some 68,.load false 1 (.t 67),(some (66,false)),0,268435455⟩,⟨some 69,.len 1 (.t 68),(some (66,false)),0,536870911⟩,⟨some 70,.bin .gtr (.t 69) (.c (.int .i64 0)),(some (66,false)),0,1073741823⟩,⟨some 71,.pick (.t 66) (.c (.bool true)) (.t 70),none,0,2147483647⟩,⟨some 72,.move (.t 71),none,0,4294967295⟩,⟨some 73,.fieldAddr 5 (.t 7),(some (72,false)),0,8589934591⟩,⟨some 74,.load false 1 (.t 73),(some (72,false)),0,17179869183⟩,⟨some 75,.pick (.t 72) (.c (.bool true)) (.t 74),none,0,34359738367⟩]
def f22r9 : List AOper := f22q9
def f22r10 : List AOper := [⟨some 2,.move (.c .nilp),none,0,0⟩,⟨some 3,.move (.c (.int .i64 30)),none,0,1⟩]
def f22r11 : List AOper := [⟨some 76,.move (.t 4),none,0,0⟩,⟨some 77,.move (.t 4),none,0,0⟩,⟨some 78,.nilCheck (.t 77),none,0,2⟩,⟨some 79,.fieldAddr 0 (.t 78),none,0,6⟩,⟨some 80,.load false 1 (.t 79),none,0,14⟩,⟨some 81,.load true 6 (.t 7),none,0,0⟩,⟨some 82,.call (.c (.fn 46 [] [])) [(.t 81)],none,0,32⟩,⟨some 83,.buildSlice false 6 1 [(.int .i64 0),(.int .i64 0),(.int .i64 0),(.str []),(.is [] .nil),(.bool false)] [(0,6,(.t 82))],none,0,96⟩,⟨some 84,.append false 6 72 (.t 80) (.t 83),none,1,254⟩,⟨some 85,.nilCheck (.t 76),none,2,511⟩,⟨some 86,.fieldAddr 0 (.t 85),none,2,1023⟩,⟨none,.store 1 (.t 86) (.t 84),none,2,2047⟩]
def f22r12 : List AOper := [⟨some 87,.move (.t 4),none,0,0⟩,⟨some 88,.move (.t 6),none,0,0⟩,⟨some 89,.call (.c (.fn 47 [] [])) [(.t 87),(.t 88)],none,0,3⟩,⟨some 90,.un .not (.t 89),none,0,7⟩]
def f22r13 : List AOper := [⟨some 2,.move (.c .nilp),none,0,0⟩,⟨some 3,.move (.c (.int .i64 30)),none,0,1⟩]
def f22r14 : List AOper := [⟨some 91,.fieldAddr 0 (.t 7),none,0,0⟩,⟨some 92,.load false 1 (.t 91),none,0,1⟩,⟨some 93,.bin .eql (.t 92) (.c (.int .i64 13)),none,0,3⟩,⟨some 94,.move (.t 93),none,0,7⟩,⟨some 95,.fieldAddr 0 (.t 7),(some (94,false)),0,15⟩,⟨some 96,.load false 1 (.t 95),(some (94,false)),0,31⟩,⟨some 97,.bin .eql (.t 96) (.c (.int .i64 14)),(some (94,false)),0,63⟩,⟨some 98,.pick (.t 94) (.c (.bool true)) (.t 97),none,0,127⟩]
def f22r15 : List AOper := [⟨some 99,.fieldAddr 0 (.t 7),none,0,0⟩,⟨some 100,.load false 1 (.t 99),none,0,1⟩,⟨some 101,.fieldAddr 1 (.t 7),none,0,0⟩,⟨some 102,.load false 1 (.t 101),none,0,4⟩,⟨some 103,.fieldAddr 2 (.t 7),none,0,0⟩,⟨some 104,.load false 1 (.t 103),none,0,16⟩,⟨some 105,.build [(.int .i64 0),(.int .i64 0),(.int .i64 0)] [(0,1,(.t 100)),(1,1,(.t 102)),(2,1,(.t 104))],none,0,63⟩,⟨some 8,.alloc false [(.int .i64 0),(.int .i64 0),(.int .i64 0)],none,0,0⟩,⟨none,.store 3 (.t 8) (.t 105),none,1,255⟩]
def f22q16 : List AOper := [⟨some 107,.move (.t 4),none,0,0⟩,⟨some 108,.nilCheck (.t 107),none,0,1⟩,⟨some 109,.fieldAddr 1 (.t 108),none,0,3⟩,⟨some 110,.load false 1 (.t 109),none,0,7⟩,⟨some 111,.load true 3 (.t 8),none,0,0⟩,⟨some 112,.lookup true [.int .i64,.int .i64,.int .i64] (.int .i64 0) true (.t 110) (.t 111),none,0,31⟩,⟨some 106,.move (.t 112),none,0,63⟩,⟨some 113,.extract (.t 106) 0,none,0,127⟩,⟨some 114,.extract (.t 106) 1,none,0,127⟩,⟨some 9,.move (.t 113),none,0,255⟩,⟨some 10,.move (.t 114),none,0,1023⟩]
def f22r16 : List AOper := f22q16
def f22r17 : List AOper := [⟨some 115,.move (.t 10),none,0,0⟩]
def f22r18 : List AOper := [⟨some 2,.move (.c .nilp),none,0,0⟩,⟨some 3,.move (.c (.int .i64 30)),none,0,1⟩]
def f22q19 : List AOper := [⟨some 116,.move (.t 4),none,0,0⟩,⟨some 117,.nilCheck (.t 116),none,0,1⟩,⟨some 118,.fieldAddr 1 (.t 117),none,0,3⟩,⟨some 119,.load false 1 (.t 118),none,0,7⟩,⟨some 120,.load true 3 (.t 8),none,0,0⟩,⟨some 121,.move (.t 6),none,0,0⟩,⟨none,.mapUpdate true [.int .i64,.int .i64,.int .i64] (.t 119) (.t 120) (.t 121),none,0,63⟩]
def f22r19 : List AOper := f22q19
def f22r20 : List AOper := [⟨some 122,.bin .add (.t 32) (.c (.int .i64 1)),none,0,0⟩,⟨some 32,.move (.t 122),none,0,1⟩]
def f22m6 : ACode :=
 .seq (.region false f22r6 [0,4,5,30,31,32,33] 0)
 (.seq (.cond (.t 33)
  (.skip)
  (.exit 0))
 (.seq (.block 1 (.seq (.region false f22r7 [0,4,5,6,7,30,31,32] 1)
  (.seq (.seq (.region false f22r8 [0,4,5,6,7,30,31,32,39] 0)
  (.cond (.t 39)
   (.seq (.seq (.region true f22r9 [0,4,5,30,31,32,75] 0)
   (.cond (.t 75)
    (.seq (.region false f22r10 [2,3] 0)
    (.ret))
    (.skip)))
   (.exit 1))
   (.skip)))
  (.seq (.region true f22r11 [0,4,5,6,7,30,31,32] 2)
  (.seq (.seq (.region false f22r12 [0,4,5,6,7,30,31,32,90] 0)
  (.cond (.t 90)
   (.seq (.region false f22r13 [2,3] 0)
   (.ret))
   (.skip)))
  (.seq (.region false f22r14 [0,4,5,6,7,30,31,32,98] 0)
  (.cond (.t 98)
   (.seq (.region false f22r15 [0,4,5,6,8,30,31,32] 1)
   (.seq (.seq (.region true f22r16 [0,4,5,6,8,10,30,31,32] 0)
   (.seq (.region false f22r17 [0,4,5,6,8,30,31,32,115] 0)
   (.cond (.t 115)
    (.seq (.region false f22r18 [2,3] 0)
    (.ret))
    (.skip))))
   (.region true f22r19 [0,4,5,30,31,32] 0)))
   (.skip))))))))
 (.region false f22r20 [0,4,5,30,31,32] 0)))
def f22l6 : ACode := f22m6
theorem f22l6_b {A : Tab} {nt : Nat} {e : Env} {h : Heap} : Brun A nt f22l6 e h = Brun A nt f22m6 e h := rfl
def f22r21 : List AOper := [⟨some 123,.move (.t 0),none,0,0⟩,⟨some 124,.len 1 (.t 123),none,0,1⟩,⟨some 125,.mkSlice false 1 8 [(.int .i64 0)] (.t 124) (.t 124),none,0,3⟩,⟨some 11,.move (.t 125),none,1,7⟩]
def f22r22 : List AOper := [⟨some 126,.move (.t 4),none,0,0⟩,⟨some 127,.nilCheck (.t 126),none,0,1⟩,⟨some 128,.fieldAddr 0 (.t 127),none,0,3⟩,⟨some 129,.load false 1 (.t 128),none,0,7⟩,⟨some 130,.len 1 (.t 129),none,0,15⟩,⟨some 131,.move (.c (.int .i64 0)),none,0,0⟩]
def f22r23 : List AOper := [⟨some 132,.bin .lss (.t 131) (.t 130),none,0,0⟩]
def f22r24 : List AOper := [⟨some 133,.idxAddr 6 (.t 129) (.t 131),none,0,0⟩,⟨some 134,.load true 6 (.t 133),none,0,1⟩,⟨some 13,.alloc false [(.int .i64 0),(.int .i64 0),(.int .i64 0),(.str []),(.is [] .nil),(.bool false)],none,0,0⟩,⟨none,.store 6 (.t 13) (.t 134),none,1,7⟩]
def f22r25 : List AOper := [⟨some 135,.fieldAddr 0 (.t 13),none,0,0⟩,⟨some 136,.load false 1 (.t 135),none,0,1⟩,⟨some 137,.bin .eql (.t 136) (.c (.int .i64 14)),none,0,3⟩,⟨some 138,.move (.t 137),none,0,7⟩,⟨some 139,.move (.t 4),(some (138,true)),0,15⟩,⟨some 140,.fieldAddr 1 (.t 13),(some (138,true)),0,15⟩,⟨some 141,.load false 1 (.t 140),(some (138,true)),0,47⟩,⟨some 142,.call (.c (.fn 42 [] [])) [(.t 139),(.t 141)],(some (138,true)),0,127⟩,⟨some 143,.un .not (.t 142),(some (138,true)),0,255⟩,⟨some 144,.pick (.t 138) (.t 143) (.c (.bool false)),none,0,511⟩,⟨some 145,.move (.t 144),none,0,1023⟩,⟨some 146,.fieldAddr 5 (.t 13),(some (145,false)),0,2047⟩,⟨some 147,.load false 1 (.t 146),(some (145,false)),0,4095⟩,⟨some 148,.move (.t 147),(some (145,false)),0,8191⟩,⟨some 149,.move (.t 4),(some (148,true)),0,16383⟩,⟨some 150,.fieldAddr 4 (.t 13),(some (148,true)),0,16383⟩,⟨some 151,.load false 1 (.t 150),(some (148,true)),0,49151⟩,⟨some 152,.call (.c (.fn 31 [] [])) [(.t 149),(.t 151)],(some (148,true)),0,131071⟩,⟨some 153,.bin .neq (.t 152) (.c (.int .i64 0)),(some (148,true)),0,262143⟩,⟨some 154,.pick (.t 148) (.t 153) (.c (.bool false)),(some (145,false)),0,524287⟩,⟨some 155,.pick (.t 145) (.c (.bool true)) (.t 154),none,0,1048575⟩]
def f22r26 : List AOper := [⟨some 2,.move (.c .nilp),none,0,0⟩,⟨some 3,.move (.c (.int .i64 30)),none,0,1⟩]
def f22r27 : List AOper := [⟨some 156,.bin .add (.t 131) (.c (.int .i64 1)),none,0,0⟩,⟨some 131,.move (.t 156),none,0,1⟩]
def f22m23 : ACode :=
 .seq (.region false f22r23 [4,11,129,130,131,132] 0)
 (.seq (.cond (.t 132)
  (.skip)
  (.exit 2))
 (.seq (.block 3 (.seq (.region false f22r24 [4,11,13,129,130,131] 1)
  (.seq (.region false f22r25 [4,11,129,130,131,155] 0)
  (.cond (.t 155)
   (.seq (.region false f22r26 [2,3] 0)
   (.ret))
   (.skip)))))
 (.region false f22r27 [4,11,129,130,131] 0)))
def f22l23 : ACode := f22m23
theorem f22l23_b {A : Tab} {nt : Nat} {e : Env} {h : Heap} : Brun A nt f22l23 e h = Brun A nt f22m23 e h := rfl
def f22r28 : List AOper := [⟨some 157,.move (.t 4),none,0,0⟩,⟨some 158,.nilCheck (.t 157),none,0,1⟩,⟨some 159,.fieldAddr 0 (.t 158),none,0,3⟩,⟨some 160,.load false 1 (.t 159),none,0,7⟩,⟨some 161,.len 1 (.t 160),none,0,15⟩,⟨some 162,.move (.c (.int .i64 0)),none,0,0⟩]
def f22r29 : List AOper := [⟨some 163,.bin .lss (.t 162) (.t 161),none,0,0⟩]
def f22r30 : List AOper := [⟨some 164,.move (.t 162),none,0,0⟩,⟨some 14,.move (.t 164),none,0,1⟩]
def f22r31 : List AOper := [⟨some 165,.move (.t 4),none,0,0⟩,⟨some 166,.move (.t 14),none,0,0⟩,⟨some 167,.move (.t 11),none,0,0⟩,⟨some 168,.call (.c (.fn 48 [] [])) [(.t 165),(.t 166),(.t 167)],none,0,7⟩,⟨some 169,.un .not (.t 168),none,0,15⟩]
def f22r32 : List AOper := [⟨some 2,.move (.c .nilp),none,0,0⟩,⟨some 3,.move (.c (.int .i64 30)),none,0,1⟩]
def f22r33 : List AOper := [⟨some 170,.bin .add (.t 162) (.c (.int .i64 1)),none,0,0⟩,⟨some 162,.move (.t 170),none,0,1⟩]
def f22m29 : ACode :=
 .seq (.region false f22r29 [4,11,161,162,163] 0)
 (.seq (.cond (.t 163)
  (.skip)
  (.exit 4))
 (.seq (.block 5 (.seq (.region false f22r30 [4,11,14,161,162] 0)
  (.seq (.region false f22r31 [4,11,161,162,169] 0)
  (.cond (.t 169)
   (.seq (.region false f22r32 [2,3] 0)
   (.ret))
   (.skip)))))
 (.region false f22r33 [4,11,161,162] 0)))
def f22l29 : ACode := f22m29
theorem f22l29_b {A : Tab} {nt : Nat} {e : Env} {h : Heap} : Brun A nt f22l29 e h = Brun A nt f22m29 e h := rfl
def f22r34 : List AOper := [⟨some 171,.move (.t 4),none,0,0⟩,⟨some 2,.move (.t 171),none,0,1⟩,⟨some 3,.move (.c (.int .i64 0)),none,0,3⟩]
theorem f22r9_s : staticOK 0 f22r9 = true := by rfl
theorem f22r9_w {A : Tab} {nt : Nat} {keep : List Nat} {n : Nat} {e : Env} {h : Heap} (hr : (bkeep keep (stepsF nt (stepF A true) h.length f22r9 e (h ++ List.replicate n .free))).isSome = true) : Brun A nt (.region true f22r9 keep n) e h = bkeep keep (stepsF nt (stepF A true) h.length f22r9 e (h ++ List.replicate n .free)) := Brun_drawnS f22r9_s hr
theorem f22r9_u (nt base : Nat) (step : Nat → AOp → Env → Heap → Option (AV × Heap)) (e : Env) (h : Heap) : stepsF nt step base f22r9 e h = stepsF nt step base f22q9 e h := rfl
theorem f22r16_s : staticOK 0 f22r16 = true := by rfl
theorem f22r16_w {A : Tab} {nt : Nat} {keep : List Nat} {n : Nat} {e : Env} {h : Heap} (hr : (bkeep keep (stepsF nt (stepF A true) h.length f22r16 e (h ++ List.replicate n .free))).isSome = true) : Brun A nt (.region true f22r16 keep n) e h = bkeep keep (stepsF nt (stepF A true) h.length f22r16 e (h ++ List.replicate n .free)) := Brun_drawnS f22r16_s hr
theorem f22r16_u (nt base : Nat) (step : Nat → AOp → Env → Heap → Option (AV × Heap)) (e : Env) (h : Heap) : stepsF nt step base f22r16 e h = stepsF nt step base f22q16 e h := rfl
theorem f22r19_s : staticOK 0 f22r19 = true := by rfl
theorem f22r19_w {A : Tab} {nt : Nat} {keep : List Nat} {n : Nat} {e : Env} {h : Heap} (hr : (bkeep keep (stepsF nt (stepF A true) h.length f22r19 e (h ++ List.replicate n .free))).isSome = true) : Brun A nt (.region true f22r19 keep n) e h = bkeep keep (stepsF nt (stepF A true) h.length f22r19 e (h ++ List.replicate n .free)) := Brun_drawnS f22r19_s hr
theorem f22r19_u (nt base : Nat) (step : Nat → AOp → Env → Heap → Option (AV × Heap)) (e : Env) (h : Heap) : stepsF nt step base f22r19 e h = stepsF nt step base f22q19 e h := rfl
def f22c : ACode :=
 .seq (.region false f22r0 [0] 0)
 (.seq (.region false f22r1 [0,4] 0)
 (.seq (.region false f22r2 [0,4,5] 0)
 (.seq (.seq (.region false f22r3 [0,4,5,29] 0)
 (.cond (.t 29)
  (.seq (.region false f22r4 [2,3] 0)
  (.ret))
  (.skip)))
 (.seq (.seq (.region false f22r5 [0,4,5,30,31,32] 0)
 (.block 0 (.loop f22l6)))
 (.seq (.region false f22r21 [4,11] 1)
 (.seq (.seq (.region false f22r22 [4,11,129,130,131] 0)
 (.block 2 (.loop f22l23)))
 (.seq (.seq (.region false f22r28 [4,11,161,162] 0)
 (.block 4 (.loop f22l29)))
 (.seq (.region false f22r34 [2,3] 0)
 (.ret)))))))))
def f22 : AFn := ⟨1,172,[.tmp 2,.tmp 3],f22c,0,none⟩
def f22k : List (Nat × List Nat) := [(0,[0]),(1,[0,4]),(2,[0,4,5]),(3,[0,4,5,29]),(4,[2,3]),(5,[0,4,5,30,31,32]),(6,[0,4,5,30,31,32,33]),(7,[0,4,5,6,7,30,31,32]),(8,[0,4,5,6,7,30,31,32,39]),(9,[0,4,5,30,31,32,75]),(10,[2,3]),(11,[0,4,5,6,7,30,31,32]),(12,[0,4,5,6,7,30,31,32,90]),(13,[2,3]),(14,[0,4,5,6,7,30,31,32,98]),(15,[0,4,5,6,8,30,31,32]),(16,[0,4,5,6,8,10,30,31,32]),(17,[0,4,5,6,8,30,31,32,115]),(18,[2,3]),(19,[0,4,5,30,31,32]),(20,[0,4,5,30,31,32]),(21,[4,11]),(22,[4,11,129,130,131]),(23,[4,11,129,130,131,132]),(24,[4,11,13,129,130,131]),(25,[4,11,129,130,131,155]),(26,[2,3]),(27,[4,11,129,130,131]),(28,[4,11,161,162]),(29,[4,11,161,162,163]),(30,[4,11,14,161,162]),(31,[4,11,161,162,169]),(32,[2,3]),(33,[4,11,161,162]),(34,[2,3])]
def f22v : List Nat := []
def f23r0 : List AOper := [⟨some 2,.move (.c .nilp),none,0,0⟩,⟨some 3,.move (.c (.int .i64 0)),none,0,1⟩]
def f23r1 : List AOper := [⟨some 8,.move (.t 0),none,0,0⟩,⟨some 9,.len 1 (.t 8),none,0,1⟩,⟨some 10,.bin .lss (.t 9) (.c (.int .i64 11)),none,0,3⟩,⟨some 11,.move (.t 10),none,0,7⟩,⟨some 12,.move (.t 0),(some (11,false)),0,15⟩,⟨some 13,.len 1 (.t 12),(some (11,false)),0,31⟩,⟨some 14,.bin .gtr (.t 13) (.c (.int .i64 512)),(some (11,false)),0,63⟩,⟨some 15,.pick (.t 11) (.c (.bool true)) (.t 14),none,0,127⟩]
def f23r2 : List AOper := [⟨some 2,.move (.c .nilp),none,0,0⟩,⟨some 3,.move (.c (.int .i64 30)),none,0,1⟩]
def f23r3 : List AOper := [⟨some 16,.move (.t 0),none,0,0⟩,⟨some 17,.build [(.is [] .nil)] [(0,1,(.t 16))],none,0,1⟩,⟨some 18,.box false (.t 17),none,0,3⟩,⟨some 19,.call (.c (.fn 21 [] [])) [(.t 18)],none,1,7⟩,⟨some 4,.move (.t 19),none,1,15⟩]
def f23r4 : List AOper := [⟨some 5,.move (.c (.int .i64 0)),none,0,0⟩]
def f23r5 : List AOper := [⟨some 20,.move (.t 5),none,0,0⟩,⟨some 21,.move (.t 4),none,0,0⟩,⟨some 22,.nilCheck (.t 21),none,0,2⟩,⟨some 23,.fieldAddr 0 (.t 22),none,0,6⟩,⟨some 24,.load false 1 (.t 23),none,0,14⟩,⟨some 25,.len 1 (.t 24),none,0,30⟩,⟨some 26,.bin .lss (.t 20) (.t 25),none,0,63⟩]
def f23r6 : List AOper := [⟨some 29,.move (.t 4),none,0,0⟩,⟨some 30,.move (.t 5),none,0,0⟩,⟨some 31,.call (.c (.fn 49 [] [])) [(.t 29),(.t 30)],none,0,3⟩,⟨some 32,.un .not (.t 31),none,0,7⟩,⟨some 33,.move (.t 32),none,0,15⟩,⟨some 34,.move (.t 4),(some (33,false)),0,31⟩,⟨some 35,.move (.t 5),(some (33,false)),0,31⟩,⟨some 36,.call (.c (.fn 50 [] [])) [(.t 34),(.t 35)],(some (33,false)),0,127⟩,⟨some 37,.pick (.t 33) (.c (.bool true)) (.t 36),none,0,255⟩]
def f23r7 : List AOper := [⟨some 2,.move (.c .nilp),none,0,0⟩,⟨some 3,.move (.c (.int .i64 30)),none,0,1⟩]
def f23r8 : List AOper := [⟨some 27,.move (.t 5),none,0,0⟩,⟨some 28,.bin .add (.t 27) (.c (.int .i64 1)),none,0,1⟩,⟨some 5,.move (.t 28),none,0,3⟩]
def f23m5 : ACode :=
 .seq (.seq (.region false f23r5 [4,5,26] 0)
 (.cond (.t 26)
  (.skip)
  (.exit 0)))
 (.seq (.block 1 (.seq (.region false f23r6 [4,5,37] 0)
  (.cond (.t 37)
   (.seq (.region false f23r7 [2,3] 0)
   (.ret))
   (.skip))))
 (.region false f23r8 [4,5] 0))
def f23l5 : ACode := f23m5
theorem f23l5_b {A : Tab} {nt : Nat} {e : Env} {h : Heap} : Brun A nt f23l5 e h = Brun A nt f23m5 e h := rfl
def f23r9 : List AOper := [⟨some 38,.move (.t 4),none,0,0⟩,⟨some 39,.call (.c (.fn 51 [] [])) [(.t 38)],none,0,1⟩,⟨some 6,.move (.t 39),none,0,3⟩]
def f23r10 : List AOper := [⟨some 7,.move (.c (.int .i64 0)),none,0,0⟩]
def f23r11 : List AOper := [⟨some 40,.move (.t 7),none,0,0⟩,⟨some 41,.move (.t 6),none,0,0⟩,⟨some 42,.len 1 (.t 41),none,0,2⟩,⟨some 43,.bin .lss (.t 40) (.t 42),none,0,7⟩]
def f23r12 : List AOper := [⟨some 46,.move (.t 6),none,0,0⟩,⟨some 47,.move (.t 7),none,0,0⟩,⟨some 48,.idxAddr 1 (.t 46) (.t 47),none,0,3⟩,⟨some 49,.load false 1 (.t 48),none,0,7⟩,⟨some 50,.un .not (.t 49),none,0,15⟩]
def f23r13 : List AOper := [⟨some 2,.move (.c .nilp),none,0,0⟩,⟨some 3,.move (.c (.int .i64 30)),none,0,1⟩]
def f23r14 : List AOper := [⟨some 44,.move (.t 7),none,0,0⟩,⟨some 45,.bin .add (.t 44) (.c (.int .i64 1)),none,0,1⟩,⟨some 7,.move (.t 45),none,0,3⟩]
def f23m11 : ACode :=
 .seq (.seq (.region false f23r11 [4,6,7,43] 0)
 (.cond (.t 43)
  (.skip)
  (.exit 2)))
 (.seq (.block 3 (.seq (.region false f23r12 [4,6,7,50] 0)
  (.cond (.t 50)
   (.seq (.region false f23r13 [2,3] 0)
   (.ret))
   (.skip))))
 (.region false f23r14 [4,6,7] 0))
def f23l11 : ACode := f23m11
theorem f23l11_b {A : Tab} {nt : Nat} {e : Env} {h : Heap} : Brun A nt f23l11 e h = Brun A nt f23m11 e h := rfl
def f23r15 : List AOper := [⟨some 51,.move (.t 4),none,0,0⟩,⟨some 2,.move (.t 51),none,0,1⟩,⟨some 3,.move (.c (.int .i64 0)),none,0,3⟩]
def f23c : ACode :=
 .seq (.region false f23r0 [0] 0)
 (.seq (.seq (.region false f23r1 [0,15] 0)
 (.cond (.t 15)
  (.seq (.region false f23r2 [2,3] 0)
  (.ret))
  (.skip)))
 (.seq (.region false f23r3 [4] 1)
 (.seq (.seq (.region false f23r4 [4,5] 0)
 (.block 0 (.loop f23l5)))
 (.seq (.region false f23r9 [4,6] 0)
 (.seq (.seq (.region false f23r10 [4,6,7] 0)
 (.block 2 (.loop f23l11)))
 (.seq (.region false f23r15 [2,3] 0)
 (.ret)))))))
def f23 : AFn := ⟨1,52,[.tmp 2,.tmp 3],f23c,0,none⟩
def f23k : List (Nat × List Nat) := [(0,[0]),(1,[0,15]),(2,[2,3]),(3,[4]),(4,[4,5]),(5,[4,5,26]),(7,[4,5,37]),(8,[2,3]),(6,[4,5]),(9,[4,6]),(10,[4,6,7]),(11,[4,6,7,43]),(13,[4,6,7,50]),(14,[2,3]),(12,[4,6,7]),(15,[2,3])]
def f23v : List Nat := []
def f26r0 : List AOper := [⟨some 0,.move (.c .nilp),none,0,0⟩]
def f26r1 : List AOper := [⟨some 3,.mkMap,none,0,0⟩,⟨some 4,.build [(.is [] .nil),.nilm] [(1,1,(.t 3))],none,1,1⟩,⟨some 5,.box false (.t 4),none,1,3⟩,⟨some 1,.move (.t 5),none,2,7⟩]
def f26r2 : List AOper := [⟨some 2,.move (.c (.int .i64 1)),none,0,0⟩]
def f26r3 : List AOper := [⟨some 6,.move (.t 2),none,0,0⟩,⟨some 7,.bin .leq (.t 6) (.c (.int .i64 11)),none,0,1⟩]
def f26r4 : List AOper := [⟨some 10,.move (.t 1),none,0,0⟩,⟨some 11,.move (.t 1),none,0,0⟩,⟨some 12,.nilCheck (.t 11),none,0,2⟩,⟨some 13,.fieldAddr 0 (.t 12),none,0,6⟩,⟨some 14,.load false 1 (.t 13),none,0,14⟩,⟨some 15,.move (.t 2),none,0,0⟩,⟨some 16,.build [(.int .i64 0),(.int .i64 0),(.int .i64 0),(.str []),(.is [] .nil),(.bool false)] [(0,1,(.t 15))],none,0,32⟩,⟨some 17,.buildSlice false 6 1 [(.int .i64 0),(.int .i64 0),(.int .i64 0),(.str []),(.is [] .nil),(.bool false)] [(0,6,(.t 16))],none,0,96⟩,⟨some 18,.append false 6 72 (.t 14) (.t 17),none,1,254⟩,⟨some 19,.nilCheck (.t 10),none,2,511⟩,⟨some 20,.fieldAddr 0 (.t 19),none,2,1023⟩,⟨none,.store 1 (.t 20) (.t 18),none,2,2047⟩]
def f26r5 : List AOper := [⟨some 8,.move (.t 2),none,0,0⟩,⟨some 9,.bin .add (.t 8) (.c (.int .i64 1)),none,0,1⟩,⟨some 2,.move (.t 9),none,0,3⟩]
def f26m3 : ACode :=
 .seq (.seq (.region false f26r3 [1,2,7] 0)
 (.cond (.t 7)
  (.skip)
  (.exit 0)))
 (.seq (.block 1 (.region false f26r4 [1,2] 2))
 (.region false f26r5 [1,2] 0))
def f26l3 : ACode := f26m3
theorem f26l3_b {A : Tab} {nt : Nat} {e : Env} {h : Heap} : Brun A nt f26l3 e h = Brun A nt f26m3 e h := rfl
def f26r6 : List AOper := [⟨some 21,.move (.t 1),none,0,0⟩,⟨some 0,.move (.t 21),none,0,1⟩]
def f26c : ACode :=
 .seq (.region false f26r0 [] 0)
 (.seq (.region false f26r1 [1] 2)
 (.seq (.seq (.region false f26r2 [1,2] 0)
 (.block 0 (.loop f26l3)))
 (.seq (.region false f26r6 [0] 0)
 (.ret))))
def f26 : AFn := ⟨0,22,[.tmp 0],f26c,0,none⟩
def f26k : List (Nat × List Nat) := [(0,[]),(1,[1]),(2,[1,2]),(3,[1,2,7]),(5,[1,2]),(4,[1,2]),(6,[0])]
def f26v : List Nat := []
def f27r0 : List AOper := [⟨some 6,.alloc false (List.replicate 5 (.int .i64 0)),none,0,0⟩,⟨some 7,.move (.c (.bool false)),none,1,0⟩,⟨some 8,.move (.c (.int .i64 0)),none,1,2⟩]
def f27r1 : List AOper := [⟨some 17,.move (.t 0),none,0,0⟩,⟨some 18,.move (.t 1),none,0,0⟩,⟨some 19,.call (.c (.fn 33 [] [])) [(.t 17),(.t 18)],none,0,3⟩,⟨some 16,.move (.t 19),none,0,7⟩,⟨some 20,.extract (.t 16) 0,none,0,15⟩,⟨some 21,.extract (.t 16) 1,none,0,15⟩,⟨some 22,.extract (.t 16) 2,none,0,15⟩,⟨some 10,.alloc false [(.int .i64 0),(.int .i64 0),(.is [] .nil)],none,0,0⟩,⟨some 9,.move (.t 20),none,1,159⟩,⟨none,.store 3 (.t 10) (.t 21),none,1,447⟩,⟨some 11,.move (.t 22),none,1,1023⟩]
def f27r2 : List AOper := [⟨some 23,.move (.t 11),none,0,0⟩,⟨some 24,.bin .eql (.t 23) (.c (.int .i64 0)),none,0,1⟩,⟨some 25,.move (.t 24),none,0,3⟩,⟨some 26,.move (.t 0),(some (25,true)),0,7⟩,⟨some 27,.move (.t 1),(some (25,true)),0,7⟩,⟨some 28,.call (.c (.fn 34 [] [])) [(.t 26),(.t 27)],(some (25,true)),0,31⟩,⟨some 29,.un .not (.t 28),(some (25,true)),0,63⟩,⟨some 30,.pick (.t 25) (.t 29) (.c (.bool false)),none,0,127⟩]
def f27r3 : List AOper := [⟨some 11,.move (.c (.int .i64 30)),none,0,0⟩]
def f27r4 : List AOper := [⟨some 31,.move (.t 11),none,0,0⟩,⟨some 32,.bin .neq (.t 31) (.c (.int .i64 0)),none,0,1⟩]
def f27r5 : List AOper := [⟨some 33,.build (List.replicate 5 (.int .i64 0)) [],none,0,0⟩,⟨some 34,.move (.t 11),none,0,0⟩,⟨none,.store 5 (.t 6) (.t 33),none,0,1⟩,⟨some 7,.move (.c (.bool false)),none,0,5⟩,⟨some 8,.move (.t 34),none,0,15⟩]
def f27r6 : List AOper := [⟨some 36,.move (.t 0),none,0,0⟩,⟨some 37,.move (.t 1),none,0,0⟩,⟨some 38,.call (.c (.fn 38 [] [])) [(.t 36),(.t 37)],none,0,3⟩,⟨some 35,.move (.t 38),none,0,7⟩,⟨some 39,.extract (.t 35) 0,none,0,15⟩,⟨some 40,.extract (.t 35) 1,none,0,15⟩,⟨some 12,.alloc false [(.int .i64 0),(.int .i64 0),(.int .i64 0),(.str []),(.is [] .nil),(.bool false)],none,0,0⟩,⟨none,.store 6 (.t 12) (.t 39),none,1,95⟩,⟨some 13,.move (.t 40),none,1,255⟩]
def f27r7 : List AOper := [⟨some 42,.load true 6 (.t 12),none,0,0⟩,⟨some 43,.load true 3 (.t 10),none,0,0⟩,⟨some 44,.move (.t 2),none,0,0⟩,⟨some 45,.call (.c (.fn 40 [] [])) [(.t 42),(.t 43),(.t 44)],none,0,7⟩,⟨some 41,.move (.t 45),none,0,15⟩,⟨some 46,.extract (.t 41) 0,none,0,31⟩,⟨some 47,.extract (.t 41) 1,none,0,31⟩,⟨some 14,.alloc false (List.replicate 5 (.int .i64 0)),none,0,0⟩,⟨none,.store 5 (.t 14) (.t 46),none,1,191⟩,⟨some 15,.move (.t 47),none,1,511⟩]
def f27r8 : List AOper := [⟨some 48,.load true 5 (.t 14),none,0,0⟩,⟨some 49,.move (.t 15),none,0,0⟩,⟨none,.store 5 (.t 6) (.t 48),none,0,1⟩,⟨some 7,.move (.t 49),none,0,7⟩,⟨some 8,.move (.c (.int .i64 0)),none,0,15⟩]
def f27c : ACode :=
 .seq (.region false f27r0 [0,1,2,6] 1)
 (.seq (.region false f27r1 [0,1,2,6,10,11] 1)
 (.seq (.seq (.region false f27r2 [0,1,2,6,10,11,30] 0)
 (.cond (.t 30)
  (.region false f27r3 [0,1,2,6,10,11] 0)
  (.skip)))
 (.seq (.seq (.region false f27r4 [0,1,2,6,10,11,32] 0)
 (.cond (.t 32)
  (.seq (.region false f27r5 [6,7,8] 0)
  (.ret))
  (.skip)))
 (.seq (.region false f27r6 [2,6,10,12] 1)
 (.seq (.region false f27r7 [6,14,15] 1)
 (.seq (.region false f27r8 [6,7,8] 0)
 (.ret)))))))
def f27 : AFn := ⟨3,50,[.cell 6 true 5,.tmp 7,.tmp 8],f27c,1,none⟩
def f27k : List (Nat × List Nat) := [(0,[0,1,2,6]),(1,[0,1,2,6,10,11]),(2,[0,1,2,6,10,11,30]),(3,[0,1,2,6,10,11]),(4,[0,1,2,6,10,11,32]),(5,[6,7,8]),(6,[2,6,10,12]),(7,[6,14,15]),(8,[6,7,8])]
def f27v : List Nat := []
def f28r0 : List AOper := [⟨some 6,.move (.c (.int .i64 0)),none,0,0⟩,⟨some 7,.move (.c (.int .i64 0)),none,0,1⟩]
def f28r1 : List AOper := [⟨some 9,.move (.t 0),none,0,0⟩,⟨some 10,.call (.c (.fn 29 [] [])) [(.t 9)],none,0,1⟩,⟨some 11,.un .not (.t 10),none,0,3⟩,⟨some 8,.move (.t 11),none,0,7⟩]
def f28r2 : List AOper := [⟨some 6,.move (.c (.int .i64 0)),none,0,0⟩,⟨some 7,.move (.c (.int .i64 1)),none,0,1⟩]
def f28r3 : List AOper := [⟨some 13,.move (.t 2),none,0,0⟩,⟨some 14,.call (.c (.fn 58 [] [])) [(.t 13)],none,0,1⟩,⟨some 15,.un .not (.t 14),none,0,3⟩,⟨some 12,.move (.t 15),none,0,7⟩]
def f28r4 : List AOper := [⟨some 6,.move (.c (.int .i64 0)),none,0,0⟩,⟨some 7,.move (.c (.int .i64 31)),none,0,1⟩]
def f28r5 : List AOper := [⟨some 16,.move (.t 0),none,0,0⟩,⟨some 17,.move (.t 1),none,0,0⟩,⟨some 18,.move (.t 2),none,0,0⟩,⟨some 19,.build [(.int .i64 0),(.int .i64 0),(.int .i64 0),(.str []),(.is [] .nil),(.bool false)] [(0,1,(.t 17)),(3,1,(.t 18))],none,0,6⟩,⟨some 20,.call (.c (.fn 59 [] [])) [(.t 16),(.t 19)],none,0,15⟩,⟨some 21,.extract (.t 20) 0,none,0,31⟩,⟨some 22,.extract (.t 20) 1,none,0,31⟩,⟨some 6,.move (.t 21),none,0,127⟩,⟨some 7,.move (.t 22),none,0,255⟩]
def f28c : ACode :=
 .seq (.region false f28r0 [0,1,2] 0)
 (.seq (.block 0 (.seq (.region false f28r1 [0,1,2,8] 0)
  (.cond (.t 8)
   (.seq (.region false f28r2 [6,7] 0)
   (.ret))
   (.seq (.region false f28r3 [0,1,2,12] 0)
   (.cond (.t 12)
    (.seq (.region false f28r4 [6,7] 0)
    (.ret))
    (.skip))))))
 (.seq (.region false f28r5 [6,7] 0)
 (.ret)))
def f28 : AFn := ⟨3,23,[.tmp 6,.tmp 7],f28c,1,none⟩
def f28k : List (Nat × List Nat) := [(0,[0,1,2]),(1,[0,1,2,8]),(3,[0,1,2,12]),(4,[6,7]),(2,[6,7]),(5,[6,7])]
def f28v : List Nat := []
def f29r0 : List AOper := [⟨some 2,.move (.c (.bool false)),none,0,0⟩]
def f29r1 : List AOper := [⟨some 3,.move (.t 0),none,0,0⟩,⟨some 4,.eq true .ptr (.t 3) (.c .nilp),none,0,1⟩,⟨some 5,.move (.t 4),none,0,3⟩,⟨some 6,.move (.t 0),(some (5,true)),0,7⟩,⟨some 7,.nilCheck (.t 6),(some (5,true)),0,15⟩,⟨some 8,.fieldAddr 1 (.t 7),(some (5,true)),0,31⟩,⟨some 9,.load false 1 (.t 8),(some (5,true)),0,63⟩,⟨some 10,.eq true .map (.t 9) (.c .nilm),(some (5,true)),0,127⟩,⟨some 11,.pick (.t 5) (.t 10) (.c (.bool false)),none,0,255⟩,⟨some 2,.move (.t 11),none,0,511⟩]
def f29c : ACode :=
 .seq (.region false f29r0 [0] 0)
 (.seq (.region false f29r1 [2] 0)
 (.ret))
def f29 : AFn := ⟨1,12,[.tmp 2],f29c,1,none⟩
def f29k : List (Nat × List Nat) := [(0,[0]),(1,[2])]
def f29v : List Nat := []
def f30r0 : List AOper := [⟨some 4,.move (.c (.bool false)),none,0,0⟩]
def f30r1 : List AOper := [⟨some 6,.move (.t 0),none,0,0⟩,⟨some 7,.move (.t 1),none,0,0⟩,⟨some 8,.call (.c (.fn 60 [] [])) [(.t 6),(.t 7)],none,0,3⟩,⟨some 5,.move (.t 8),none,0,7⟩]
def f30r2 : List AOper := [⟨some 9,.move (.t 5),none,0,0⟩,⟨some 10,.bin .eql (.t 9) (.c (.int .i64 15)),none,0,1⟩,⟨some 11,.move (.t 10),none,0,3⟩,⟨some 12,.move (.t 5),(some (11,false)),0,7⟩,⟨some 13,.bin .eql (.t 12) (.c (.int .i64 16)),(some (11,false)),0,15⟩,⟨some 14,.pick (.t 11) (.c (.bool true)) (.t 13),none,0,31⟩,⟨some 4,.move (.t 14),none,0,63⟩]
def f30c : ACode :=
 .seq (.region false f30r0 [0,1] 0)
 (.seq (.region false f30r1 [5] 0)
 (.seq (.region false f30r2 [4] 0)
 (.ret)))
def f30 : AFn := ⟨2,15,[.tmp 4],f30c,1,none⟩
def f30k : List (Nat × List Nat) := [(0,[0,1]),(1,[5]),(2,[4])]
def f30v : List Nat := []
def f31r0 : List AOper := [⟨some 4,.move (.c (.int .i64 0)),none,0,0⟩]
def f31r1 : List AOper := [⟨some 8,.move (.t 1),none,0,0⟩,⟨some 9,.len 1 (.t 8),none,0,1⟩,⟨some 10,.bin .lss (.t 9) (.c (.int .i64 1)),none,0,3⟩,⟨some 11,.move (.t 10),none,0,7⟩,⟨some 12,.move (.t 1),(some (11,false)),0,15⟩,⟨some 13,.len 1 (.t 12),(some (11,false)),0,31⟩,⟨some 14,.bin .gtr (.t 13) (.c (.int .i64 64)),(some (11,false)),0,63⟩,⟨some 15,.pick (.t 11) (.c (.bool true)) (.t 14),none,0,127⟩]
def f31r2 : List AOper := [⟨some 4,.move (.c (.int .i64 2)),none,0,0⟩]
def f31r3 : List AOper := [⟨some 16,.mkMap,none,0,0⟩,⟨some 5,.move (.t 16),none,1,1⟩]
def f31r4 : List AOper := [⟨some 17,.move (.t 1),none,0,0⟩,⟨some 18,.len 1 (.t 17),none,0,1⟩,⟨some 19,.move (.c (.int .i64 0)),none,0,0⟩]
def f31r5 : List AOper := [⟨some 20,.bin .lss (.t 19) (.t 18),none,0,0⟩]
def f31r6 : List AOper := [⟨some 21,.idxAddr 3 (.t 17) (.t 19),none,0,0⟩,⟨some 22,.load true 3 (.t 21),none,0,1⟩,⟨some 7,.alloc false [(.str []),(.int .i64 0),(.int .i64 0)],none,0,0⟩,⟨none,.store 3 (.t 7) (.t 22),none,1,7⟩]
def f31r7 : List AOper := [⟨some 24,.move (.t 0),none,0,0⟩,⟨some 25,.fieldAddr 1 (.t 7),none,0,0⟩,⟨some 26,.load false 1 (.t 25),none,0,2⟩,⟨some 27,.call (.c (.fn 41 [] [])) [(.t 24),(.t 26)],none,0,7⟩,⟨some 28,.un .not (.t 27),none,0,15⟩,⟨some 23,.move (.t 28),none,0,31⟩]
def f31r8 : List AOper := [⟨some 4,.move (.c (.int .i64 30)),none,0,0⟩]
def f31r9 : List AOper := [⟨some 30,.move (.t 0),none,0,0⟩,⟨some 31,.fieldAddr 1 (.t 7),none,0,0⟩,⟨some 32,.load false 1 (.t 31),none,0,2⟩,⟨some 33,.call (.c (.fn 42 [] [])) [(.t 30),(.t 32)],none,0,7⟩,⟨some 34,.un .not (.t 33),none,0,15⟩,⟨some 29,.move (.t 34),none,0,31⟩]
def f31r10 : List AOper := [⟨some 4,.move (.c (.int .i64 50)),none,0,0⟩]
def f31r11 : List AOper := [⟨some 36,.fieldAddr 2 (.t 7),none,0,0⟩,⟨some 37,.load false 1 (.t 36),none,0,1⟩,⟨some 38,.bin .neq (.t 37) (.c (.int .i64 (-1))),none,0,3⟩,⟨some 39,.move (.t 38),none,0,7⟩,⟨some 40,.move (.t 0),(some (39,true)),0,15⟩,⟨some 41,.fieldAddr 1 (.t 7),(some (39,true)),0,15⟩,⟨some 42,.load false 1 (.t 41),(some (39,true)),0,47⟩,⟨some 43,.fieldAddr 2 (.t 7),(some (39,true)),0,15⟩,⟨some 44,.load false 1 (.t 43),(some (39,true)),0,143⟩,⟨some 45,.call (.c (.fn 61 [] [])) [(.t 40),(.t 42),(.t 44)],(some (39,true)),0,511⟩,⟨some 46,.un .not (.t 45),(some (39,true)),0,1023⟩,⟨some 47,.pick (.t 39) (.t 46) (.c (.bool false)),none,0,2047⟩,⟨some 35,.move (.t 47),none,0,4095⟩]
def f31r12 : List AOper := [⟨some 4,.move (.c (.int .i64 52)),none,0,0⟩]
def f31r13 : List AOper := [⟨some 49,.fieldAddr 0 (.t 7),none,0,0⟩,⟨some 50,.load false 1 (.t 49),none,0,1⟩,⟨some 51,.bin .eql (.t 50) (.c (.str [])),none,0,3⟩,⟨some 52,.move (.t 51),none,0,7⟩,⟨some 53,.fieldAddr 2 (.t 7),(some (52,true)),0,15⟩,⟨some 54,.load false 1 (.t 53),(some (52,true)),0,31⟩,⟨some 55,.bin .lss (.t 54) (.c (.int .i64 0)),(some (52,true)),0,63⟩,⟨some 56,.pick (.t 52) (.t 55) (.c (.bool false)),none,0,127⟩,⟨some 48,.move (.t 56),none,0,255⟩]
def f31r14 : List AOper := [⟨some 57,.fieldAddr 0 (.t 7),none,0,0⟩,⟨some 58,.load false 1 (.t 57),none,0,1⟩,⟨some 59,.bin .neq (.t 58) (.c (.str [])),none,0,3⟩,⟨some 60,.move (.t 59),none,0,7⟩,⟨some 61,.fieldAddr 0 (.t 7),(some (60,true)),0,15⟩,⟨some 62,.load false 1 (.t 61),(some (60,true)),0,31⟩,⟨some 63,.call (.c (.fn 62 [] [])) [(.t 62)],(some (60,true)),0,63⟩,⟨some 64,.un .not (.t 63),(some (60,true)),0,127⟩,⟨some 65,.move (.t 64),(some (60,true)),0,255⟩,⟨some 66,.fieldAddr 2 (.t 7),(some (65,false)),0,511⟩,⟨some 67,.load false 1 (.t 66),(some (65,false)),0,1023⟩,⟨some 68,.bin .eql (.t 67) (.c (.int .i64 0)),(some (65,false)),0,2047⟩,⟨some 69,.pick (.t 65) (.c (.bool true)) (.t 68),(some (60,true)),0,4095⟩,⟨some 70,.move (.t 69),(some (60,true)),0,8191⟩,⟨some 71,.move (.t 5),(some (70,false)),0,16383⟩,⟨some 72,.fieldAddr 0 (.t 7),(some (70,false)),0,16383⟩,⟨some 73,.load false 1 (.t 72),(some (70,false)),0,49151⟩,⟨some 74,.lookup false [.str] (.int .i64 0) false (.t 71) (.t 73),(some (70,false)),0,131071⟩,⟨some 75,.bin .gtr (.t 74) (.c (.int .i64 0)),(some (70,false)),0,262143⟩,⟨some 76,.pick (.t 70) (.c (.bool true)) (.t 75),(some (60,true)),0,524287⟩,⟨some 77,.pick (.t 60) (.t 76) (.c (.bool false)),none,0,1048575⟩,⟨some 48,.move (.t 77),none,0,2097151⟩]
def f31r15 : List AOper := [⟨some 4,.move (.c (.int .i64 31)),none,0,0⟩]
def f31r16 : List AOper := [⟨some 78,.move (.t 5),none,0,0⟩,⟨some 79,.fieldAddr 0 (.t 7),none,0,0⟩,⟨some 80,.load false 1 (.t 79),none,0,2⟩,⟨some 81,.lookup false [.str] (.int .i64 0) false (.t 78) (.t 80),none,0,7⟩,⟨some 82,.bin .add (.t 81) (.c (.int .i64 1)),none,0,15⟩,⟨none,.mapUpdate false [.str] (.t 78) (.t 80) (.t 82),none,0,31⟩]
def f31r17 : List AOper := [⟨some 83,.bin .add (.t 19) (.c (.int .i64 1)),none,0,0⟩,⟨some 19,.move (.t 83),none,0,1⟩]
def f31m5 : ACode :=
 .seq (.region false f31r5 [0,5,17,18,19,20] 0)
 (.seq (.cond (.t 20)
  (.skip)
  (.exit 0))
 (.seq (.block 1 (.seq (.region false f31r6 [0,5,7,17,18,19] 1)
  (.seq (.block 2 (.seq (.region false f31r7 [0,5,7,17,18,19,23] 0)
   (.cond (.t 23)
    (.seq (.region false f31r8 [4] 0)
    (.ret))
    (.seq (.region false f31r9 [0,5,7,17,18,19,29] 0)
    (.cond (.t 29)
     (.seq (.region false f31r10 [4] 0)
     (.ret))
     (.seq (.region false f31r11 [0,5,7,17,18,19,35] 0)
     (.cond (.t 35)
      (.seq (.region false f31r12 [4] 0)
      (.ret))
      (.seq (.seq (.region false f31r13 [0,5,7,17,18,19,48] 0)
      (.cond (.t 48)
       (.skip)
       (.region false f31r14 [0,5,7,17,18,19,48] 0)))
      (.cond (.t 48)
       (.seq (.region false f31r15 [4] 0)
       (.ret))
       (.skip))))))))))
  (.region false f31r16 [0,5,17,18,19] 0))))
 (.region false f31r17 [0,5,17,18,19] 0)))
def f31l5 : ACode := f31m5
theorem f31l5_b {A : Tab} {nt : Nat} {e : Env} {h : Heap} : Brun A nt f31l5 e h = Brun A nt f31m5 e h := rfl
def f31r18 : List AOper := [⟨some 4,.move (.c (.int .i64 0)),none,0,0⟩]
def f31c : ACode :=
 .seq (.region false f31r0 [0,1] 0)
 (.seq (.seq (.region false f31r1 [0,1,15] 0)
 (.cond (.t 15)
  (.seq (.region false f31r2 [4] 0)
  (.ret))
  (.skip)))
 (.seq (.region false f31r3 [0,1,5] 1)
 (.seq (.seq (.region false f31r4 [0,5,17,18,19] 0)
 (.block 0 (.loop f31l5)))
 (.seq (.region false f31r18 [4] 0)
 (.ret)))))
def f31 : AFn := ⟨2,84,[.tmp 4],f31c,1,none⟩
def f31k : List (Nat × List Nat) := [(0,[0,1]),(1,[0,1,15]),(2,[4]),(3,[0,1,5]),(4,[0,5,17,18,19]),(5,[0,5,17,18,19,20]),(6,[0,5,7,17,18,19]),(7,[0,5,7,17,18,19,23]),(9,[0,5,7,17,18,19,29]),(11,[0,5,7,17,18,19,35]),(13,[0,5,7,17,18,19,48]),(14,[0,5,7,17,18,19,48]),(15,[4]),(12,[4]),(10,[4]),(8,[4]),(16,[0,5,17,18,19]),(17,[0,5,17,18,19]),(18,[4])]
def f31v : List Nat := []
def f32r0 : List AOper := [⟨some 2,.move (.c (.is [] .nil)),none,0,0⟩]
def f32r1 : List AOper := [⟨some 3,.move (.t 0),none,0,0⟩,⟨some 4,.eq false .slice (.t 3) (.c (.is [] .nil)),none,0,1⟩]
def f32r2 : List AOper := [⟨some 2,.move (.c (.is [] .nil)),none,0,0⟩]
def f32r3 : List AOper := [⟨some 5,.buildSlice true 3 0 [] [],none,0,0⟩,⟨some 6,.move (.t 0),none,0,0⟩,⟨some 7,.append true 3 32 (.t 5) (.t 6),none,0,3⟩,⟨some 2,.move (.t 7),none,1,7⟩]
def f32c : ACode :=
 .seq (.region false f32r0 [0] 0)
 (.seq (.seq (.region false f32r1 [0,4] 0)
 (.cond (.t 4)
  (.seq (.region false f32r2 [2] 0)
  (.ret))
  (.skip)))
 (.seq (.region false f32r3 [2] 1)
 (.ret)))
def f32 : AFn := ⟨1,8,[.tmp 2],f32c,3,none⟩
def f32k : List (Nat × List Nat) := [(0,[0]),(1,[0,4]),(2,[2]),(3,[2])]
def f32v : List Nat := [7,5]
def f33r0 : List AOper := [⟨some 4,.move (.c .nilp),none,0,0⟩,⟨some 5,.alloc false [(.int .i64 0),(.int .i64 0),(.is [] .nil)],none,0,0⟩,⟨some 6,.move (.c (.int .i64 0)),none,1,1⟩]
def f33r1 : List AOper := [⟨some 10,.move (.t 0),none,0,0⟩,⟨some 11,.call (.c (.fn 54 [] [])) [(.t 10)],none,0,1⟩,⟨some 12,.bin .eql (.t 11) (.c (.int .i64 0)),none,0,3⟩,⟨some 9,.move (.t 12),none,0,7⟩]
def f33r2 : List AOper := [⟨some 13,.build [(.int .i64 0),(.int .i64 0),(.is [] .nil)] [],none,0,0⟩,⟨some 4,.move (.c .nilp),none,0,0⟩,⟨none,.store 3 (.t 5) (.t 13),none,0,3⟩,⟨some 6,.move (.c (.int .i64 1)),none,0,7⟩]
def f33r3 : List AOper := [⟨some 15,.move (.t 1),none,0,0⟩,⟨some 16,.bin .lss (.t 15) (.c (.int .i64 0)),none,0,1⟩,⟨some 17,.move (.t 16),none,0,3⟩,⟨some 18,.move (.t 1),(some (17,false)),0,7⟩,⟨some 19,.move (.t 0),(some (17,false)),0,7⟩,⟨some 20,.call (.c (.fn 54 [] [])) [(.t 19)],(some (17,false)),0,23⟩,⟨some 21,.bin .geq (.t 18) (.t 20),(some (17,false)),0,63⟩,⟨some 22,.pick (.t 17) (.c (.bool true)) (.t 21),none,0,127⟩,⟨some 14,.move (.t 22),none,0,255⟩]
def f33r4 : List AOper := [⟨some 23,.build [(.int .i64 0),(.int .i64 0),(.is [] .nil)] [],none,0,0⟩,⟨some 4,.move (.c .nilp),none,0,0⟩,⟨none,.store 3 (.t 5) (.t 23),none,0,3⟩,⟨some 6,.move (.c (.int .i64 30)),none,0,7⟩]
def f33r5 : List AOper := [⟨some 25,.move (.t 0),none,0,0⟩,⟨some 26,.move (.t 1),none,0,0⟩,⟨some 27,.call (.c (.fn 42 [] [])) [(.t 25),(.t 26)],none,0,3⟩,⟨some 28,.un .not (.t 27),none,0,7⟩,⟨some 24,.move (.t 28),none,0,15⟩]
def f33r6 : List AOper := [⟨some 29,.build [(.int .i64 0),(.int .i64 0),(.is [] .nil)] [],none,0,0⟩,⟨some 4,.move (.c .nilp),none,0,0⟩,⟨none,.store 3 (.t 5) (.t 29),none,0,3⟩,⟨some 6,.move (.c (.int .i64 50)),none,0,7⟩]
def f33r7 : List AOper := [⟨some 30,.move (.t 0),none,0,0⟩,⟨some 31,.mkMap,none,0,0⟩,⟨some 32,.build [.nilp,.nilm,(.bool false)] [(0,1,(.t 30)),(1,1,(.t 31))],none,1,3⟩,⟨some 33,.box false (.t 32),none,1,7⟩,⟨some 7,.move (.t 33),none,2,15⟩]
def f33r8 : List AOper := [⟨some 34,.move (.t 7),none,0,0⟩,⟨some 35,.move (.t 1),none,0,0⟩,⟨some 36,.call (.c (.fn 39 [] [])) [(.t 34),(.t 35)],none,0,3⟩,⟨some 8,.alloc false [(.int .i64 0),(.int .i64 0),(.is [] .nil)],none,0,0⟩,⟨none,.store 3 (.t 8) (.t 36),none,1,15⟩]
def f33r9 : List AOper := [⟨some 37,.move (.t 7),none,0,0⟩,⟨some 38,.nilCheck (.t 37),none,0,1⟩,⟨some 39,.fieldAddr 2 (.t 38),none,0,3⟩,⟨some 40,.load false 1 (.t 39),none,0,7⟩]
def f33r10 : List AOper := [⟨some 41,.build [(.int .i64 0),(.int .i64 0),(.is [] .nil)] [],none,0,0⟩,⟨some 4,.move (.c .nilp),none,0,0⟩,⟨none,.store 3 (.t 5) (.t 41),none,0,3⟩,⟨some 6,.move (.c (.int .i64 51)),none,0,7⟩]
def f33q11 : List AOper := [⟨some 42,.move (.t 7),none,0,0⟩,⟨some 43,.load true 3 (.t 8),none,0,0⟩,⟨some 4,.move (.t 42),none,0,1⟩,⟨none,.store 3 (.t 5) (.t 43),none,0,7⟩,⟨some 6,.move (.c (.int .i64 0)),none,0,15⟩]
def f33r11 : List AOper := f33q11
theorem f33r11_s : staticOK 0 f33r11 = true := by rfl
theorem f33r11_w {A : Tab} {nt : Nat} {keep : List Nat} {n : Nat} {e : Env} {h : Heap} (hr : (bkeep keep (stepsF nt (stepF A true) h.length f33r11 e (h ++ List.replicate n .free))).isSome = true) : Brun A nt (.region true f33r11 keep n) e h = bkeep keep (stepsF nt (stepF A true) h.length f33r11 e (h ++ List.replicate n .free)) := Brun_drawnS f33r11_s hr
theorem f33r11_u (nt base : Nat) (step : Nat → AOp → Env → Heap → Option (AV × Heap)) (e : Env) (h : Heap) : stepsF nt step base f33r11 e h = stepsF nt step base f33q11 e h := rfl
def f33c : ACode :=
 .seq (.region false f33r0 [0,1,5] 1)
 (.seq (.block 0 (.seq (.region false f33r1 [0,1,5,9] 0)
  (.cond (.t 9)
   (.seq (.region false f33r2 [4,5,6] 0)
   (.ret))
   (.seq (.region false f33r3 [0,1,5,14] 0)
   (.cond (.t 14)
    (.seq (.region false f33r4 [4,5,6] 0)
    (.ret))
    (.seq (.region false f33r5 [0,1,5,24] 0)
    (.cond (.t 24)
     (.seq (.region false f33r6 [4,5,6] 0)
     (.ret))
     (.skip))))))))
 (.seq (.region false f33r7 [1,5,7] 2)
 (.seq (.region false f33r8 [5,7,8] 1)
 (.seq (.seq (.region false f33r9 [5,7,8,40] 0)
 (.cond (.t 40)
  (.seq (.region false f33r10 [4,5,6] 0)
  (.ret))
  (.skip)))
 (.seq (.region true f33r11 [4,5,6] 0)
 (.ret))))))
def f33 : AFn := ⟨2,44,[.tmp 4,.cell 5 true 3,.tmp 6],f33c,0,none⟩
def f33k : List (Nat × List Nat) := [(0,[0,1,5]),(1,[0,1,5,9]),(3,[0,1,5,14]),(5,[0,1,5,24]),(6,[4,5,6]),(4,[4,5,6]),(2,[4,5,6]),(7,[1,5,7]),(8,[5,7,8]),(9,[5,7,8,40]),(10,[4,5,6]),(11,[4,5,6])]
def f33v : List Nat := []
def f34r0 : List AOper := [⟨some 4,.move (.c (.bool false)),none,0,0⟩]
def f34r1 : List AOper := [⟨some 8,.move (.t 0),none,0,0⟩,⟨some 9,.move (.t 1),none,0,0⟩,⟨some 10,.call (.c (.fn 38 [] [])) [(.t 8),(.t 9)],none,0,3⟩,⟨some 7,.move (.t 10),none,0,7⟩,⟨some 11,.extract (.t 7) 0,none,0,15⟩,⟨some 12,.extract (.t 7) 1,none,0,15⟩,⟨some 5,.alloc false [(.int .i64 0),(.int .i64 0),(.int .i64 0),(.str []),(.is [] .nil),(.bool false)],none,0,0⟩,⟨none,.store 6 (.t 5) (.t 11),none,1,95⟩,⟨some 6,.move (.t 12),none,1,255⟩]
def f34r2 : List AOper := [⟨some 13,.fieldAddr 0 (.t 5),none,0,0⟩,⟨some 14,.load false 1 (.t 13),none,0,1⟩,⟨some 15,.bin .eql (.t 14) (.c (.int .i64 15)),none,0,3⟩,⟨some 16,.move (.t 15),none,0,7⟩,⟨some 17,.fieldAddr 0 (.t 5),(some (16,false)),0,15⟩,⟨some 18,.load false 1 (.t 17),(some (16,false)),0,31⟩,⟨some 19,.bin .eql (.t 18) (.c (.int .i64 16)),(some (16,false)),0,63⟩,⟨some 20,.pick (.t 16) (.c (.bool true)) (.t 19),none,0,127⟩,⟨some 4,.move (.t 20),none,0,255⟩]
def f34c : ACode :=
 .seq (.region false f34r0 [0,1] 0)
 (.seq (.region false f34r1 [5] 1)
 (.seq (.region false f34r2 [4] 0)
 (.ret)))
def f34 : AFn := ⟨2,21,[.tmp 4],f34c,1,none⟩
def f34k : List (Nat × List Nat) := [(0,[0,1]),(1,[5]),(2,[4])]
def f34v : List Nat := []
def f35r0 : List AOper := [⟨some 4,.move (.c (.int .i64 0)),none,0,0⟩]
def f35r1 : List AOper := [⟨some 5,.move (.t 0),none,0,0⟩,⟨some 6,.move (.t 1),none,0,0⟩,⟨some 7,.call (.c (.fn 63 [] [])) [(.t 5),(.t 6)],none,0,3⟩,⟨some 8,.un .not (.t 7),none,0,7⟩]
def f35r2 : List AOper := [⟨some 4,.move (.c (.int .i64 0)),none,0,0⟩]
def f35r3 : List AOper := [⟨some 9,.move (.t 0),none,0,0⟩,⟨some 10,.nilCheck (.t 9),none,0,1⟩,⟨some 11,.fieldAddr 0 (.t 10),none,0,3⟩,⟨some 12,.load false 1 (.t 11),none,0,7⟩,⟨some 13,.move (.t 1),none,0,0⟩,⟨some 14,.idxAddr 6 (.t 12) (.t 13),none,0,31⟩,⟨some 15,.fieldAddr 0 (.t 14),none,0,63⟩,⟨some 16,.load false 1 (.t 15),none,0,127⟩,⟨some 4,.move (.t 16),none,0,255⟩]
def f35c : ACode :=
 .seq (.region false f35r0 [0,1] 0)
 (.seq (.seq (.region false f35r1 [0,1,8] 0)
 (.cond (.t 8)
  (.seq (.region false f35r2 [4] 0)
  (.ret))
  (.skip)))
 (.seq (.region false f35r3 [4] 0)
 (.ret)))
def f35 : AFn := ⟨2,17,[.tmp 4],f35c,1,none⟩
def f35k : List (Nat × List Nat) := [(0,[0,1]),(1,[0,1,8]),(2,[4]),(3,[4])]
def f35v : List Nat := []
def f36r0 : List AOper := [⟨some 17,.move (.t 0),none,0,0⟩,⟨some 18,.nilCheck (.t 17),none,0,1⟩,⟨some 19,.fieldAddr 0 (.t 18),none,0,3⟩,⟨some 20,.load false 1 (.t 19),none,0,7⟩,⟨some 21,.move (.t 1),none,0,0⟩,⟨some 22,.call (.c (.fn 38 [] [])) [(.t 20),(.t 21)],none,0,31⟩,⟨some 16,.move (.t 22),none,0,63⟩,⟨some 23,.extract (.t 16) 0,none,0,127⟩,⟨some 24,.extract (.t 16) 1,none,0,127⟩,⟨some 8,.alloc false [(.int .i64 0),(.int .i64 0),(.int .i64 0),(.str []),(.is [] .nil),(.bool false)],none,0,0⟩,⟨none,.store 6 (.t 8) (.t 23),none,1,767⟩,⟨some 9,.move (.t 24),none,1,2047⟩]
def f36r1 : List AOper := [⟨some 25,.move (.t 0),none,0,0⟩,⟨some 26,.move (.t 1),none,0,0⟩,⟨some 27,.call (.c (.fn 39 [] [])) [(.t 25),(.t 26)],none,0,3⟩,⟨some 10,.alloc false [(.int .i64 0),(.int .i64 0),(.is [] .nil)],none,0,0⟩,⟨none,.store 3 (.t 10) (.t 27),none,1,15⟩]
def f36r2 : List AOper := [⟨some 28,.fieldAddr 0 (.t 8),none,0,0⟩,⟨some 29,.load false 1 (.t 28),none,0,1⟩]
def f36r3 : List AOper := [⟨some 37,.bin .eql (.t 29) (.c (.int .i64 14)),none,0,0⟩,⟨some 36,.move (.t 37),none,0,1⟩]
def f36r4 : List AOper := [⟨some 38,.move (.t 0),none,0,0⟩,⟨some 39,.fieldAddr 1 (.t 8),none,0,0⟩,⟨some 40,.load false 1 (.t 39),none,0,2⟩,⟨some 41,.call (.c (.fn 39 [] [])) [(.t 38),(.t 40)],none,0,7⟩,⟨some 42,.field false 0 1 (.t 41),none,0,15⟩,⟨some 11,.move (.t 42),none,0,31⟩]
def f36r5 : List AOper := [⟨some 43,.fieldAddr 2 (.t 8),none,0,0⟩,⟨some 44,.load false 1 (.t 43),none,0,1⟩,⟨some 45,.move (.c (.int .i64 0)),none,0,0⟩]
def f36r6 : List AOper := [⟨some 46,.bin .lss (.t 45) (.t 44),none,0,0⟩]
def f36r7 : List AOper := [⟨some 47,.move (.t 45),none,0,0⟩,⟨some 12,.move (.t 47),none,0,1⟩]
def f36r8 : List AOper := [⟨some 48,.move (.t 0),none,0,0⟩,⟨some 49,.fieldAddr 1 (.t 8),none,0,0⟩,⟨some 50,.load false 1 (.t 49),none,0,2⟩,⟨some 51,.move (.t 2),none,0,0⟩,⟨some 52,.move (.t 11),none,0,0⟩,⟨some 53,.bin .mul (.c (.int .i64 8)) (.t 52),none,0,16⟩,⟨some 54,.move (.t 12),none,0,0⟩,⟨some 55,.bin .mul (.t 53) (.t 54),none,0,112⟩,⟨some 56,.bin .add (.t 51) (.t 55),none,0,248⟩,⟨some 57,.move (.t 3),none,0,0⟩,⟨some 58,.call (.c (.fn 36 [] [])) [(.t 48),(.t 50),(.t 56),(.t 57)],none,0,1023⟩]
def f36r9 : List AOper := [⟨some 59,.bin .add (.t 45) (.c (.int .i64 1)),none,0,0⟩,⟨some 45,.move (.t 59),none,0,1⟩]
def f36m6 : ACode :=
 .seq (.region false f36r6 [0,2,3,8,11,44,45,46] 0)
 (.seq (.cond (.t 46)
  (.skip)
  (.exit 1))
 (.seq (.block 2 (.seq (.region false f36r7 [0,2,3,8,11,12,44,45] 0)
  (.region false f36r8 [0,2,3,8,11,44,45] 0)))
 (.region false f36r9 [0,2,3,8,11,44,45] 0)))
def f36l6 : ACode := f36m6
theorem f36l6_b {A : Tab} {nt : Nat} {e : Env} {h : Heap} : Brun A nt f36l6 e h = Brun A nt f36m6 e h := rfl
def f36r10 : List AOper := [⟨some 61,.bin .eql (.t 29) (.c (.int .i64 15)),none,0,0⟩,⟨some 60,.move (.t 61),none,0,1⟩]
def f36r11 : List AOper := [⟨some 62,.bin .eql (.t 29) (.c (.int .i64 16)),none,0,0⟩,⟨some 60,.move (.t 62),none,0,1⟩]
def f36r12 : List AOper := [⟨some 63,.fieldAddr 2 (.t 10),none,0,0⟩,⟨some 64,.load false 1 (.t 63),none,0,1⟩,⟨some 65,.len 1 (.t 64),none,0,3⟩,⟨some 66,.move (.c (.int .i64 0)),none,0,0⟩]
def f36r13 : List AOper := [⟨some 67,.bin .lss (.t 66) (.t 65),none,0,0⟩]
def f36r14 : List AOper := [⟨some 68,.idxAddr 5 (.t 64) (.t 66),none,0,0⟩,⟨some 69,.load true 5 (.t 68),none,0,1⟩,⟨some 14,.alloc false (List.replicate 5 (.int .i64 0)),none,0,0⟩,⟨none,.store 5 (.t 14) (.t 69),none,1,7⟩]
def f36r15 : List AOper := [⟨some 70,.fieldAddr 4 (.t 8),none,0,0⟩,⟨some 71,.load false 1 (.t 70),none,0,1⟩,⟨some 72,.fieldAddr 0 (.t 14),none,0,0⟩,⟨some 73,.load false 1 (.t 72),none,0,4⟩,⟨some 74,.idxAddr 3 (.t 71) (.t 73),none,0,15⟩,⟨some 75,.load true 3 (.t 74),none,0,31⟩,⟨some 15,.alloc false [(.str []),(.int .i64 0),(.int .i64 0)],none,0,0⟩,⟨none,.store 3 (.t 15) (.t 75),none,1,127⟩]
def f36r16 : List AOper := [⟨some 77,.fieldAddr 2 (.t 15),none,0,0⟩,⟨some 78,.load false 1 (.t 77),none,0,1⟩,⟨some 79,.bin .lss (.t 78) (.c (.int .i64 0)),none,0,3⟩,⟨some 76,.move (.t 79),none,0,7⟩]
def f36r17 : List AOper := [⟨some 80,.move (.t 0),none,0,0⟩,⟨some 81,.fieldAddr 1 (.t 14),none,0,0⟩,⟨some 82,.load false 1 (.t 81),none,0,2⟩,⟨some 83,.move (.t 2),none,0,0⟩,⟨some 84,.fieldAddr 2 (.t 14),none,0,0⟩,⟨some 85,.load false 1 (.t 84),none,0,16⟩,⟨some 86,.bin .mul (.c (.int .i64 8)) (.t 85),none,0,48⟩,⟨some 87,.bin .add (.t 83) (.t 86),none,0,120⟩,⟨some 88,.move (.t 3),none,0,0⟩,⟨some 89,.call (.c (.fn 36 [] [])) [(.t 80),(.t 82),(.t 87),(.t 88)],none,0,511⟩]
def f36r18 : List AOper := [⟨some 91,.fieldAddr 0 (.t 15),none,0,0⟩,⟨some 92,.load false 1 (.t 91),none,0,1⟩,⟨some 93,.bin .neq (.t 92) (.c (.str [])),none,0,3⟩,⟨some 90,.move (.t 93),none,0,7⟩]
def f36r19 : List AOper := [⟨some 94,.move (.t 3),none,0,0⟩,⟨some 95,.move (.t 2),none,0,0⟩,⟨some 96,.fieldAddr 2 (.t 14),none,0,0⟩,⟨some 97,.load false 1 (.t 96),none,0,4⟩,⟨some 98,.bin .mul (.c (.int .i64 8)) (.t 97),none,0,12⟩,⟨some 99,.bin .add (.t 95) (.t 98),none,0,30⟩,⟨some 100,.fieldAddr 3 (.t 14),none,0,0⟩,⟨some 101,.load false 1 (.t 100),none,0,64⟩,⟨some 102,.bin .add (.t 99) (.t 101),none,0,254⟩,⟨some 103,.fieldAddr 4 (.t 14),none,0,0⟩,⟨some 104,.load false 1 (.t 103),none,0,512⟩,⟨some 105,.call (.t 94) [(.t 102),(.t 104)],none,0,2047⟩]
def f36r20 : List AOper := [⟨some 106,.bin .add (.t 66) (.c (.int .i64 1)),none,0,0⟩,⟨some 66,.move (.t 106),none,0,1⟩]
def f36m13 : ACode :=
 .seq (.region false f36r13 [0,2,3,8,64,65,66,67] 0)
 (.seq (.cond (.t 67)
  (.skip)
  (.exit 3))
 (.seq (.block 4 (.seq (.region false f36r14 [0,2,3,8,14,64,65,66] 1)
  (.seq (.region false f36r15 [0,2,3,8,14,15,64,65,66] 1)
  (.block 5 (.seq (.region false f36r16 [0,2,3,8,14,15,64,65,66,76] 0)
   (.cond (.t 76)
    (.region false f36r17 [0,2,3,8,64,65,66] 0)
    (.seq (.region false f36r18 [0,2,3,8,14,64,65,66,90] 0)
    (.cond (.t 90)
     (.region false f36r19 [0,2,3,8,64,65,66] 0)
     (.skip)))))))))
 (.region false f36r20 [0,2,3,8,64,65,66] 0)))
def f36l13 : ACode := f36m13
theorem f36l13_b {A : Tab} {nt : Nat} {e : Env} {h : Heap} : Brun A nt f36l13 e h = Brun A nt f36m13 e h := rfl
def f36r21 : List AOper := [⟨some 30,.move (.t 3),none,0,0⟩,⟨some 31,.move (.t 2),none,0,0⟩,⟨some 32,.fieldAddr 0 (.t 10),none,0,0⟩,⟨some 33,.load false 1 (.t 32),none,0,4⟩,⟨some 34,.bin .mul (.c (.int .i64 8)) (.t 33),none,0,12⟩,⟨some 35,.call (.t 30) [(.t 31),(.t 34)],none,0,31⟩]
def f36c : ACode :=
 .seq (.region false f36r0 [0,1,2,3,8] 1)
 (.seq (.region false f36r1 [0,2,3,8,10] 1)
 (.seq (.region false f36r2 [0,2,3,8,10,29] 0)
 (.block 0 (.seq (.region false f36r3 [0,2,3,8,10,29,36] 0)
  (.cond (.t 36)
   (.seq (.region false f36r4 [0,2,3,8,11] 0)
   (.seq (.region false f36r5 [0,2,3,8,11,44,45] 0)
   (.block 1 (.loop f36l6))))
   (.seq (.seq (.region false f36r10 [0,2,3,8,10,29,60] 0)
   (.cond (.t 60)
    (.skip)
    (.region false f36r11 [0,2,3,8,10,60] 0)))
   (.cond (.t 60)
    (.seq (.region false f36r12 [0,2,3,8,64,65,66] 0)
    (.block 3 (.loop f36l13)))
    (.region false f36r21 [] 0))))))))
def f36 : AFn := ⟨4,107,[],f36c,1,none⟩
def f36k : List (Nat × List Nat) := [(0,[0,1,2,3,8]),(1,[0,2,3,8,10]),(2,[0,2,3,8,10,29]),(4,[0,2,3,8,10,29,36]),(11,[0,2,3,8,10,29,60]),(12,[0,2,3,8,10,60]),(3,[]),(13,[0,2,3,8,64,65,66]),(14,[0,2,3,8,64,65,66,67]),(15,[0,2,3,8,14,64,65,66]),(16,[0,2,3,8,14,15,64,65,66]),(17,[0,2,3,8,14,15,64,65,66,76]),(19,[0,2,3,8,14,64,65,66,90]),(20,[0,2,3,8,64,65,66]),(18,[0,2,3,8,64,65,66]),(21,[0,2,3,8,64,65,66]),(5,[0,2,3,8,11]),(6,[0,2,3,8,11,44,45]),(7,[0,2,3,8,11,44,45,46]),(8,[0,2,3,8,11,12,44,45]),(9,[0,2,3,8,11,44,45]),(10,[0,2,3,8,11,44,45])]
def f36v : List Nat := []
def f37r0 : List AOper := [⟨some 6,.move (.t 1),none,0,0⟩,⟨some 7,.move (.c (.int .i64 0)),none,0,0⟩]
def f37r1 : List AOper := [⟨some 8,.bin .lss (.t 7) (.t 6),none,0,0⟩]
def f37r2 : List AOper := [⟨some 9,.move (.t 7),none,0,0⟩,⟨some 5,.move (.t 9),none,0,1⟩]
def f37r3 : List AOper := [⟨some 10,.load false 1 (.t 2),none,0,0⟩,⟨some 11,.move (.t 0),none,0,0⟩,⟨some 12,.move (.t 5),none,0,0⟩,⟨some 13,.bin .add (.t 11) (.t 12),none,0,6⟩,⟨some 14,.idxAddr 1 (.t 10) (.t 13),none,0,15⟩,⟨none,.store 1 (.t 14) (.c (.int .u8 1)),none,0,31⟩]
def f37r4 : List AOper := [⟨some 15,.bin .add (.t 7) (.c (.int .i64 1)),none,0,0⟩,⟨some 7,.move (.t 15),none,0,1⟩]
def f37m1 : ACode :=
 .seq (.region false f37r1 [0,2,6,7,8] 0)
 (.seq (.cond (.t 8)
  (.skip)
  (.exit 0))
 (.seq (.block 1 (.seq (.region false f37r2 [0,2,5,6,7] 0)
  (.region false f37r3 [0,2,6,7] 0)))
 (.region false f37r4 [0,2,6,7] 0)))
def f37l1 : ACode := f37m1
theorem f37l1_b {A : Tab} {nt : Nat} {e : Env} {h : Heap} : Brun A nt f37l1 e h = Brun A nt f37m1 e h := rfl
def f37c : ACode :=
 .seq (.region false f37r0 [0,2,6,7] 0)
 (.block 0 (.loop f37l1))
def f37 : AFn := ⟨3,16,[],f37c,1,none⟩
def f37k : List (Nat × List Nat) := [(0,[0,2,6,7]),(1,[0,2,6,7,8]),(2,[0,2,5,6,7]),(3,[0,2,6,7]),(4,[0,2,6,7])]
def f37v : List Nat := []
def f38r0 : List AOper := [⟨some 4,.alloc false [(.int .i64 0),(.int .i64 0),(.int .i64 0),(.str []),(.is [] .nil),(.bool false)],none,0,0⟩,⟨some 5,.move (.c (.bool false)),none,1,0⟩]
def f38r1 : List AOper := [⟨some 6,.move (.t 0),none,0,0⟩,⟨some 7,.move (.t 1),none,0,0⟩,⟨some 8,.call (.c (.fn 41 [] [])) [(.t 6),(.t 7)],none,0,3⟩,⟨some 9,.un .not (.t 8),none,0,7⟩]
def f38r2 : List AOper := [⟨some 10,.build [(.int .i64 0),(.int .i64 0),(.int .i64 0),(.str []),(.is [] .nil),(.bool false)] [],none,0,0⟩,⟨none,.store 6 (.t 4) (.t 10),none,0,1⟩,⟨some 5,.move (.c (.bool false)),none,0,3⟩]
def f38r3 : List AOper := [⟨some 11,.move (.t 0),none,0,0⟩,⟨some 12,.nilCheck (.t 11),none,0,1⟩,⟨some 13,.fieldAddr 0 (.t 12),none,0,3⟩,⟨some 14,.load false 1 (.t 13),none,0,7⟩,⟨some 15,.move (.t 1),none,0,0⟩,⟨some 16,.idxAddr 6 (.t 14) (.t 15),none,0,31⟩,⟨some 17,.load true 6 (.t 16),none,0,63⟩,⟨some 18,.call (.c (.fn 46 [] [])) [(.t 17)],none,0,127⟩,⟨none,.store 6 (.t 4) (.t 18),none,0,255⟩,⟨some 5,.move (.c (.bool true)),none,0,511⟩]
def f38c : ACode :=
 .seq (.region false f38r0 [0,1,4] 1)
 (.seq (.seq (.region false f38r1 [0,1,4,9] 0)
 (.cond (.t 9)
  (.seq (.region false f38r2 [4,5] 0)
  (.ret))
  (.skip)))
 (.seq (.region false f38r3 [4,5] 0)
 (.ret)))
def f38 : AFn := ⟨2,19,[.cell 4 true 6,.tmp 5],f38c,1,none⟩
def f38k : List (Nat × List Nat) := [(0,[0,1,4]),(1,[0,1,4,9]),(2,[4,5]),(3,[4,5])]
def f38v : List Nat := []
def f39r0 : List AOper := [⟨some 4,.alloc false [(.int .i64 0),(.int .i64 0),(.is [] .nil)],none,0,0⟩]
def f39r1 : List AOper := [⟨some 13,.move (.t 0),none,0,0⟩,⟨some 14,.nilCheck (.t 13),none,0,1⟩,⟨some 15,.fieldAddr 1 (.t 14),none,0,3⟩,⟨some 16,.load false 1 (.t 15),none,0,7⟩,⟨some 17,.move (.t 1),none,0,0⟩,⟨some 18,.lookup false [.int .i64] (.agg [(.int .i64 0),(.int .i64 0),(.is [] .nil)]) true (.t 16) (.t 17),none,0,31⟩,⟨some 12,.move (.t 18),none,0,63⟩,⟨some 19,.extract (.t 12) 0,none,0,127⟩,⟨some 20,.extract (.t 12) 1,none,0,127⟩,⟨some 5,.alloc false [(.int .i64 0),(.int .i64 0),(.is [] .nil)],none,0,0⟩,⟨none,.store 3 (.t 5) (.t 19),none,1,767⟩,⟨some 6,.move (.t 20),none,1,2047⟩]
def f39r2 : List AOper := [⟨some 21,.move (.t 6),none,0,0⟩]
def f39r3 : List AOper := [⟨some 22,.load true 3 (.t 5),none,0,0⟩,⟨none,.store 3 (.t 4) (.t 22),none,0,1⟩]
def f39r4 : List AOper := [⟨some 24,.move (.t 0),none,0,0⟩,⟨some 25,.nilCheck (.t 24),none,0,1⟩,⟨some 26,.fieldAddr 0 (.t 25),none,0,3⟩,⟨some 27,.load false 1 (.t 26),none,0,7⟩,⟨some 28,.move (.t 1),none,0,0⟩,⟨some 29,.call (.c (.fn 38 [] [])) [(.t 27),(.t 28)],none,0,31⟩,⟨some 23,.move (.t 29),none,0,63⟩,⟨some 30,.extract (.t 23) 0,none,0,127⟩,⟨some 31,.extract (.t 23) 1,none,0,127⟩,⟨some 7,.alloc false [(.int .i64 0),(.int .i64 0),(.int .i64 0),(.str []),(.is [] .nil),(.bool false)],none,0,0⟩,⟨none,.store 6 (.t 7) (.t 30),none,1,767⟩,⟨some 8,.move (.t 31),none,1,2047⟩]
def f39r5 : List AOper := [⟨some 9,.alloc false [(.int .i64 0),(.int .i64 0),(.is [] .nil)],none,0,0⟩]
def f39r6 : List AOper := [⟨some 32,.fieldAddr 0 (.t 7),none,0,0⟩,⟨some 33,.load false 1 (.t 32),none,0,1⟩]
def f39r7 : List AOper := [⟨some 41,.bin .eql (.t 33) (.c (.int .i64 14)),none,0,0⟩,⟨some 40,.move (.t 41),none,0,1⟩]
def f39r8 : List AOper := [⟨some 42,.move (.t 0),none,0,0⟩,⟨some 43,.fieldAddr 1 (.t 7),none,0,0⟩,⟨some 44,.load false 1 (.t 43),none,0,2⟩,⟨some 45,.call (.c (.fn 39 [] [])) [(.t 42),(.t 44)],none,0,7⟩,⟨some 10,.alloc false [(.int .i64 0),(.int .i64 0),(.is [] .nil)],none,0,0⟩,⟨none,.store 3 (.t 10) (.t 45),none,1,31⟩]
def f39r9 : List AOper := [⟨some 46,.fieldAddr 2 (.t 7),none,0,0⟩,⟨some 47,.load false 1 (.t 46),none,0,1⟩,⟨some 48,.fieldAddr 0 (.t 10),none,0,0⟩,⟨some 49,.load false 1 (.t 48),none,0,4⟩,⟨some 50,.bin .mul (.t 47) (.t 49),none,0,15⟩,⟨some 51,.fieldAddr 1 (.t 10),none,0,0⟩,⟨some 52,.load false 1 (.t 51),none,0,32⟩,⟨some 53,.build [(.int .i64 0),(.int .i64 0),(.is [] .nil)] [(0,1,(.t 50)),(1,1,(.t 52))],none,0,127⟩,⟨none,.store 3 (.t 9) (.t 53),none,0,255⟩]
def f39r10 : List AOper := [⟨some 55,.bin .eql (.t 33) (.c (.int .i64 15)),none,0,0⟩,⟨some 54,.move (.t 55),none,0,1⟩]
def f39r11 : List AOper := [⟨some 56,.move (.t 0),none,0,0⟩,⟨some 57,.load true 6 (.t 7),none,0,0⟩,⟨some 58,.call (.c (.fn 64 [] [])) [(.t 56),(.t 57)],none,0,3⟩,⟨none,.store 3 (.t 9) (.t 58),none,0,7⟩]
def f39r12 : List AOper := [⟨some 60,.bin .eql (.t 33) (.c (.int .i64 16)),none,0,0⟩,⟨some 59,.move (.t 60),none,0,1⟩]
def f39r13 : List AOper := [⟨some 61,.move (.t 0),none,0,0⟩,⟨some 62,.load true 6 (.t 7),none,0,0⟩,⟨some 63,.call (.c (.fn 65 [] [])) [(.t 61),(.t 62)],none,0,3⟩,⟨none,.store 3 (.t 9) (.t 63),none,0,7⟩]
def f39r14 : List AOper := [⟨some 34,.fieldAddr 0 (.t 7),none,0,0⟩,⟨some 35,.load false 1 (.t 34),none,0,1⟩,⟨some 36,.call (.c (.fn 66 [] [])) [(.t 35)],none,0,3⟩,⟨some 11,.move (.t 36),none,0,7⟩]
def f39r15 : List AOper := [⟨some 37,.move (.t 11),none,0,0⟩,⟨some 38,.move (.t 11),none,0,0⟩,⟨some 39,.build [(.int .i64 0),(.int .i64 0),(.is [] .nil)] [(0,1,(.t 37)),(1,1,(.t 38))],none,0,3⟩,⟨none,.store 3 (.t 9) (.t 39),none,0,7⟩]
def f39r16 : List AOper := [⟨some 64,.fieldAddr 0 (.t 9),none,0,0⟩,⟨some 65,.load false 1 (.t 64),none,0,1⟩,⟨some 66,.bin .gtr (.t 65) (.c (.int .i64 16384)),none,0,3⟩]
def f39r17 : List AOper := [⟨some 67,.move (.t 0),none,0,0⟩,⟨some 68,.nilCheck (.t 67),none,0,1⟩,⟨some 69,.fieldAddr 2 (.t 68),none,0,3⟩,⟨none,.store 1 (.t 69) (.c (.bool true)),none,0,7⟩]
def f39r18 : List AOper := [⟨some 70,.fieldAddr 0 (.t 9),none,0,0⟩,⟨none,.store 1 (.t 70) (.c (.int .i64 16385)),none,0,1⟩]
def f39q19 : List AOper := [⟨some 71,.move (.t 0),none,0,0⟩,⟨some 72,.nilCheck (.t 71),none,0,1⟩,⟨some 73,.fieldAddr 1 (.t 72),none,0,3⟩,⟨some 74,.load false 1 (.t 73),none,0,7⟩,⟨some 75,.move (.t 1),none,0,0⟩,⟨some 76,.load true 3 (.t 9),none,0,0⟩,⟨none,.mapUpdate false [.int .i64] (.t 74) (.t 75) (.t 76),none,0,63⟩]
def f39r19 : List AOper := f39q19
def f39r20 : List AOper := [⟨some 77,.load true 3 (.t 9),none,0,0⟩,⟨none,.store 3 (.t 4) (.t 77),none,0,1⟩]
theorem f39r19_s : staticOK 0 f39r19 = true := by rfl
theorem f39r19_w {A : Tab} {nt : Nat} {keep : List Nat} {n : Nat} {e : Env} {h : Heap} (hr : (bkeep keep (stepsF nt (stepF A true) h.length f39r19 e (h ++ List.replicate n .free))).isSome = true) : Brun A nt (.region true f39r19 keep n) e h = bkeep keep (stepsF nt (stepF A true) h.length f39r19 e (h ++ List.replicate n .free)) := Brun_drawnS f39r19_s hr
theorem f39r19_u (nt base : Nat) (step : Nat → AOp → Env → Heap → Option (AV × Heap)) (e : Env) (h : Heap) : stepsF nt step base f39r19 e h = stepsF nt step base f39q19 e h := rfl
def f39c : ACode :=
 .seq (.region false f39r0 [0,1,4] 1)
 (.seq (.seq (.region false f39r1 [0,1,4,5,6] 1)
 (.seq (.region false f39r2 [0,1,4,5,21] 0)
 (.cond (.t 21)
  (.seq (.region false f39r3 [4] 0)
  (.ret))
  (.skip))))
 (.seq (.region false f39r4 [0,1,4,7] 1)
 (.seq (.region false f39r5 [0,1,4,7,9] 1)
 (.seq (.seq (.region false f39r6 [0,1,4,7,9,33] 0)
 (.block 0 (.seq (.region false f39r7 [0,1,4,7,9,33,40] 0)
  (.cond (.t 40)
   (.seq (.region false f39r8 [0,1,4,7,9,10] 1)
   (.region false f39r9 [0,1,4,9] 0))
   (.seq (.region false f39r10 [0,1,4,7,9,33,54] 0)
   (.cond (.t 54)
    (.region false f39r11 [0,1,4,9] 0)
    (.seq (.region false f39r12 [0,1,4,7,9,59] 0)
    (.cond (.t 59)
     (.region false f39r13 [0,1,4,9] 0)
     (.seq (.region false f39r14 [0,1,4,9,11] 0)
     (.region false f39r15 [0,1,4,9] 0))))))))))
 (.seq (.seq (.region false f39r16 [0,1,4,9,66] 0)
 (.cond (.t 66)
  (.seq (.region false f39r17 [0,1,4,9] 0)
  (.region false f39r18 [0,1,4,9] 0))
  (.skip)))
 (.seq (.region true f39r19 [4,9] 0)
 (.seq (.region false f39r20 [4] 0)
 (.ret))))))))
def f39 : AFn := ⟨2,78,[.cell 4 true 3],f39c,1,none⟩
def f39k : List (Nat × List Nat) := [(0,[0,1,4]),(1,[0,1,4,5,6]),(2,[0,1,4,5,21]),(3,[4]),(4,[0,1,4,7]),(5,[0,1,4,7,9]),(6,[0,1,4,7,9,33]),(9,[0,1,4,7,9,33,40]),(12,[0,1,4,7,9,33,54]),(14,[0,1,4,7,9,59]),(7,[0,1,4,9,11]),(8,[0,1,4,9]),(15,[0,1,4,9]),(13,[0,1,4,9]),(10,[0,1,4,7,9,10]),(11,[0,1,4,9]),(16,[0,1,4,9,66]),(17,[0,1,4,9]),(18,[0,1,4,9]),(19,[4,9]),(20,[4])]
def f39v : List Nat := []
def f40r0 : List AOper := [⟨some 3,.box true (.t 0),none,0,0⟩,⟨some 4,.box true (.t 1),none,0,0⟩,⟨some 6,.alloc false (List.replicate 5 (.int .i64 0)),none,0,0⟩,⟨some 7,.move (.c (.bool false)),none,1,0⟩]
def f40r1 : List AOper := [⟨some 10,.fieldAddr 2 (.t 4),none,0,0⟩,⟨some 11,.load false 1 (.t 10),none,0,1⟩,⟨some 12,.len 1 (.t 11),none,0,3⟩,⟨some 13,.move (.c (.int .i64 0)),none,0,0⟩]
def f40r2 : List AOper := [⟨some 14,.bin .lss (.t 13) (.t 12),none,0,0⟩]
def f40r3 : List AOper := [⟨some 15,.idxAddr 5 (.t 11) (.t 13),none,0,0⟩,⟨some 16,.load true 5 (.t 15),none,0,1⟩,⟨some 9,.alloc false (List.replicate 5 (.int .i64 0)),none,0,0⟩,⟨none,.store 5 (.t 9) (.t 16),none,1,7⟩]
def f40r4 : List AOper := [⟨some 17,.move (.t 2),none,0,0⟩,⟨some 18,.bin .neq (.t 17) (.c (.str [])),none,0,1⟩,⟨some 19,.move (.t 18),none,0,3⟩,⟨some 20,.fieldAddr 4 (.t 3),(some (19,true)),0,7⟩,⟨some 21,.load false 1 (.t 20),(some (19,true)),0,15⟩,⟨some 22,.fieldAddr 0 (.t 9),(some (19,true)),0,7⟩,⟨some 23,.load false 1 (.t 22),(some (19,true)),0,39⟩,⟨some 24,.idxAddr 3 (.t 21) (.t 23),(some (19,true)),0,127⟩,⟨some 25,.fieldAddr 0 (.t 24),(some (19,true)),0,255⟩,⟨some 26,.load false 1 (.t 25),(some (19,true)),0,511⟩,⟨some 27,.move (.t 2),(some (19,true)),0,7⟩,⟨some 28,.bin .eql (.t 26) (.t 27),(some (19,true)),0,2047⟩,⟨some 29,.pick (.t 19) (.t 28) (.c (.bool false)),none,0,4095⟩]
def f40r5 : List AOper := [⟨some 30,.load true 5 (.t 9),none,0,0⟩,⟨none,.store 5 (.t 6) (.t 30),none,0,1⟩,⟨some 7,.move (.c (.bool true)),none,0,3⟩]
def f40r6 : List AOper := [⟨some 31,.bin .add (.t 13) (.c (.int .i64 1)),none,0,0⟩,⟨some 13,.move (.t 31),none,0,1⟩]
def f40m2 : ACode :=
 .seq (.region false f40r2 [2,3,6,11,12,13,14] 0)
 (.seq (.cond (.t 14)
  (.skip)
  (.exit 0))
 (.seq (.block 1 (.seq (.region false f40r3 [2,3,6,9,11,12,13] 1)
  (.seq (.region false f40r4 [2,3,6,9,11,12,13,29] 0)
  (.cond (.t 29)
   (.seq (.region false f40r5 [6,7] 0)
   (.ret))
   (.skip)))))
 (.region false f40r6 [2,3,6,11,12,13] 0)))
def f40l2 : ACode := f40m2
def f40r7 : List AOper := [⟨some 32,.build (List.replicate 5 (.int .i64 0)) [],none,0,0⟩,⟨none,.store 5 (.t 6) (.t 32),none,0,1⟩,⟨some 7,.move (.c (.bool false)),none,0,3⟩]
def f40c : ACode :=
 .seq (.region false f40r0 [2,3,4,6] 1)
 (.seq (.seq (.region false f40r1 [2,3,6,11,12,13] 0)
 (.block 0 (.loop f40l2)))
 (.seq (.region false f40r7 [6,7] 0)
 (.ret)))
def f40 : AFn := ⟨3,33,[.cell 6 true 5,.tmp 7],f40c,1,none⟩
def f40k : List (Nat × List Nat) := [(0,[2,3,4,6]),(1,[2,3,6,11,12,13]),(2,[2,3,6,11,12,13,14]),(3,[2,3,6,9,11,12,13]),(4,[2,3,6,9,11,12,13,29]),(5,[6,7]),(6,[2,3,6,11,12,13]),(7,[6,7])]
def f40v : List Nat := [4,3]
def f41r0 : List AOper := [⟨some 4,.move (.c (.bool false)),none,0,0⟩]
def f41r1 : List AOper := [⟨some 5,.move (.t 0),none,0,0⟩,⟨some 6,.call (.c (.fn 29 [] [])) [(.t 5)],none,0,1⟩,⟨some 7,.move (.t 6),none,0,3⟩,⟨some 8,.move (.t 1),(some (7,true)),0,7⟩,⟨some 9,.bin .geq (.t 8) (.c (.int .i64 0)),(some (7,true)),0,15⟩,⟨some 10,.pick (.t 7) (.t 9) (.c (.bool false)),none,0,31⟩,⟨some 11,.move (.t 10),none,0,63⟩,⟨some 12,.move (.t 1),(some (11,true)),0,127⟩,⟨some 13,.move (.t 0),(some (11,true)),0,127⟩,⟨some 14,.nilCheck (.t 13),(some (11,true)),0,383⟩,⟨some 15,.fieldAddr 0 (.t 14),(some (11,true)),0,895⟩,⟨some 16,.load false 1 (.t 15),(some (11,true)),0,1919⟩,⟨some 17,.len 1 (.t 16),(some (11,true)),0,3967⟩,⟨some 18,.bin .lss (.t 12) (.t 17),(some (11,true)),0,8191⟩,⟨some 19,.pick (.t 11) (.t 18) (.c (.bool false)),none,0,16383⟩,⟨some 4,.move (.t 19),none,0,32767⟩]
def f41c : ACode :=
 .seq (.region false f41r0 [0,1] 0)
 (.seq (.region false f41r1 [4] 0)
 (.ret))
def f41 : AFn := ⟨2,20,[.tmp 4],f41c,1,none⟩
def f41k : List (Nat × List Nat) := [(0,[0,1]),(1,[4])]
def f41v : List Nat := []
def f42r0 : List AOper := [⟨some 4,.move (.c (.bool false)),none,0,0⟩]
def f42r1 : List AOper := [⟨some 6,.move (.t 0),none,0,0⟩,⟨some 7,.move (.t 1),none,0,0⟩,⟨some 8,.call (.c (.fn 60 [] [])) [(.t 6),(.t 7)],none,0,3⟩,⟨some 5,.move (.t 8),none,0,7⟩]
def f42r2 : List AOper := [⟨some 9,.move (.t 5),none,0,0⟩]
def f42r3 : List AOper := [⟨some 11,.bin .eql (.t 9) (.c (.int .i64 0)),none,0,0⟩,⟨some 10,.move (.t 11),none,0,1⟩]
def f42r4 : List AOper := [⟨some 12,.bin .eql (.t 9) (.c (.int .i64 1)),none,0,0⟩,⟨some 10,.move (.t 12),none,0,1⟩]
def f42r5 : List AOper := [⟨some 4,.move (.c (.bool false)),none,0,0⟩]
def f42r6 : List AOper := [⟨some 14,.bin .eql (.t 9) (.c (.int .i64 14)),none,0,0⟩,⟨some 13,.move (.t 14),none,0,1⟩]
def f42r7 : List AOper := [⟨some 15,.move (.t 0),none,0,0⟩,⟨some 16,.nilCheck (.t 15),none,0,1⟩,⟨some 17,.fieldAddr 0 (.t 16),none,0,3⟩,⟨some 18,.load false 1 (.t 17),none,0,7⟩,⟨some 19,.move (.t 1),none,0,0⟩,⟨some 20,.idxAddr 6 (.t 18) (.t 19),none,0,31⟩,⟨some 21,.fieldAddr 2 (.t 20),none,0,63⟩,⟨some 22,.load false 1 (.t 21),none,0,127⟩,⟨some 23,.bin .geq (.t 22) (.c (.int .i64 0)),none,0,255⟩,⟨some 4,.move (.t 23),none,0,511⟩]
def f42r8 : List AOper := [⟨some 25,.bin .eql (.t 9) (.c (.int .i64 15)),none,0,0⟩,⟨some 24,.move (.t 25),none,0,1⟩]
def f42r9 : List AOper := [⟨some 26,.bin .eql (.t 9) (.c (.int .i64 16)),none,0,0⟩,⟨some 24,.move (.t 26),none,0,1⟩]
def f42r10 : List AOper := [⟨some 27,.move (.t 0),none,0,0⟩,⟨some 28,.nilCheck (.t 27),none,0,1⟩,⟨some 29,.fieldAddr 0 (.t 28),none,0,3⟩,⟨some 30,.load false 1 (.t 29),none,0,7⟩,⟨some 31,.move (.t 1),none,0,0⟩,⟨some 32,.idxAddr 6 (.t 30) (.t 31),none,0,31⟩,⟨some 33,.fieldAddr 5 (.t 32),none,0,63⟩,⟨some 34,.load false 1 (.t 33),none,0,127⟩,⟨some 4,.move (.t 34),none,0,255⟩]
def f42r11 : List AOper := [⟨some 4,.move (.c (.bool true)),none,0,0⟩]
def f42c : ACode :=
 .seq (.region false f42r0 [0,1] 0)
 (.seq (.seq (.region false f42r1 [0,1,5] 0)
 (.seq (.region false f42r2 [0,1,9] 0)
 (.block 0 (.seq (.seq (.region false f42r3 [0,1,9,10] 0)
  (.cond (.t 10)
   (.skip)
   (.region false f42r4 [0,1,9,10] 0)))
  (.cond (.t 10)
   (.seq (.region false f42r5 [4] 0)
   (.ret))
   (.seq (.region false f42r6 [0,1,9,13] 0)
   (.cond (.t 13)
    (.seq (.region false f42r7 [4] 0)
    (.ret))
    (.seq (.seq (.region false f42r8 [0,1,9,24] 0)
    (.cond (.t 24)
     (.skip)
     (.region false f42r9 [0,1,24] 0)))
    (.cond (.t 24)
     (.seq (.region false f42r10 [4] 0)
     (.ret))
     (.skip))))))))))
 (.seq (.region false f42r11 [4] 0)
 (.ret)))
def f42 : AFn := ⟨2,35,[.tmp 4],f42c,1,none⟩
def f42k : List (Nat × List Nat) := [(0,[0,1]),(1,[0,1,5]),(2,[0,1,9]),(3,[0,1,9,10]),(4,[0,1,9,10]),(6,[0,1,9,13]),(8,[0,1,9,24]),(9,[0,1,24]),(10,[4]),(7,[4]),(5,[4]),(11,[4])]
def f42v : List Nat := []
def f43r0 : List AOper := [⟨some 2,.move (.c (.bool false)),none,0,0⟩]
def f43r1 : List AOper := [⟨some 3,.move (.t 0),none,0,0⟩,⟨some 4,.bin .eql (.t 3) (.c (.int .i64 (-1))),none,0,1⟩,⟨some 5,.move (.t 4),none,0,3⟩,⟨some 6,.move (.t 0),(some (5,false)),0,7⟩,⟨some 7,.bin .geq (.t 6) (.c (.int .i64 1)),(some (5,false)),0,15⟩,⟨some 8,.move (.t 7),(some (5,false)),0,31⟩,⟨some 9,.move (.t 0),(some (8,true)),0,63⟩,⟨some 10,.bin .leq (.t 9) (.c (.int .i64 16384)),(some (8,true)),0,127⟩,⟨some 11,.pick (.t 8) (.t 10) (.c (.bool false)),(some (5,false)),0,255⟩,⟨some 12,.pick (.t 5) (.c (.bool true)) (.t 11),none,0,511⟩,⟨some 2,.move (.t 12),none,0,1023⟩]
def f43c : ACode :=
 .seq (.region false f43r0 [0] 0)
 (.seq (.region false f43r1 [2] 0)
 (.ret))
def f43 : AFn := ⟨1,13,[.tmp 2],f43c,1,none⟩
def f43k : List (Nat × List Nat) := [(0,[0]),(1,[2])]
def f43v : List Nat := []
def f45r0 : List AOper := [⟨some 1,.box false (.t 0),none,0,0⟩,⟨some 2,.alloc false [(.int .i64 0),(.int .i64 0),(.int .i64 0),(.str []),(.is [] .nil),(.bool false)],none,1,0⟩]
def f45r1 : List AOper := [⟨some 3,.move (.c (.is [] .nil)),none,0,0⟩]
def f45r2 : List AOper := [⟨some 4,.move (.t 3),none,0,0⟩,⟨some 5,.fieldAddr 4 (.t 1),none,0,0⟩,⟨some 6,.load false 1 (.t 5),none,0,2⟩,⟨some 7,.append true 3 32 (.t 4) (.t 6),none,0,7⟩,⟨some 3,.move (.t 7),none,1,15⟩]
def f45r3 : List AOper := [⟨some 8,.move (.t 3),none,0,0⟩,⟨some 9,.fieldAddr 4 (.t 1),none,0,1⟩,⟨none,.store 1 (.t 9) (.t 8),none,0,3⟩]
def f45r4 : List AOper := [⟨some 10,.load true 6 (.t 1),none,0,0⟩,⟨none,.store 6 (.t 2) (.t 10),none,0,1⟩]
def f45c : ACode :=
 .seq (.region false f45r0 [1,2] 2)
 (.seq (.region false f45r1 [1,2,3] 0)
 (.seq (.region false f45r2 [1,2,3] 1)
 (.seq (.region false f45r3 [1,2] 0)
 (.seq (.region false f45r4 [2] 0)
 (.ret)))))
def f45 : AFn := ⟨1,11,[.cell 2 true 6],f45c,1,none⟩
def f45k : List (Nat × List Nat) := [(0,[1,2]),(1,[1,2,3]),(2,[1,2,3]),(3,[1,2]),(4,[2])]
def f45v : List Nat := [7]
def f46r0 : List AOper := [⟨some 1,.box false (.t 0),none,0,0⟩,⟨some 2,.alloc false [(.int .i64 0),(.int .i64 0),(.int .i64 0),(.str []),(.is [] .nil),(.bool false)],none,1,0⟩]
def f46r1 : List AOper := [⟨some 3,.fieldAddr 4 (.t 1),none,0,0⟩,⟨some 4,.load false 1 (.t 3),none,0,1⟩,⟨some 5,.call (.c (.fn 32 [] [])) [(.t 4)],none,0,3⟩,⟨some 6,.fieldAddr 4 (.t 1),none,0,7⟩,⟨none,.store 1 (.t 6) (.t 5),none,0,15⟩]
def f46r2 : List AOper := [⟨some 7,.load true 6 (.t 1),none,0,0⟩,⟨none,.store 6 (.t 2) (.t 7),none,0,1⟩]
def f46c : ACode :=
 .seq (.region false f46r0 [1,2] 2)
 (.seq (.region false f46r1 [1,2] 0)
 (.seq (.region false f46r2 [2] 0)
 (.ret)))
def f46 : AFn := ⟨1,8,[.cell 2 true 6],f46c,1,none⟩
def f46k : List (Nat × List Nat) := [(0,[1,2]),(1,[1,2]),(2,[2])]
def f46v : List Nat := []
def f47r0 : List AOper := [⟨some 4,.move (.c (.bool false)),none,0,0⟩]
def f47r1 : List AOper := [⟨some 9,.move (.t 0),none,0,0⟩,⟨some 10,.nilCheck (.t 9),none,0,1⟩,⟨some 11,.fieldAddr 0 (.t 10),none,0,3⟩,⟨some 12,.load false 1 (.t 11),none,0,7⟩,⟨some 13,.move (.t 1),none,0,0⟩,⟨some 14,.idxAddr 6 (.t 12) (.t 13),none,0,31⟩,⟨some 15,.load true 6 (.t 14),none,0,63⟩,⟨some 5,.alloc false [(.int .i64 0),(.int .i64 0),(.int .i64 0),(.str []),(.is [] .nil),(.bool false)],none,0,0⟩,⟨none,.store 6 (.t 5) (.t 15),none,1,255⟩]
def f47r2 : List AOper := [⟨some 16,.load true 6 (.t 5),none,0,0⟩,⟨some 6,.alloc false [(.int .i64 0),(.int .i64 0),(.int .i64 0),(.str []),(.is [] .nil),(.bool false)],none,0,0⟩,⟨none,.store 6 (.t 6) (.t 16),none,1,3⟩]
def f47r3 : List AOper := [⟨some 17,.fieldAddr 4 (.t 6),none,0,0⟩,⟨none,.store 1 (.t 17) (.c (.is [] .nil)),none,0,1⟩]
def f47r4 : List AOper := [⟨some 18,.fieldAddr 0 (.t 5),none,0,0⟩,⟨some 19,.load false 1 (.t 18),none,0,1⟩,⟨some 20,.build [(.int .i64 0),(.int .i64 0),(.int .i64 0),(.str []),(.is [] .nil),(.bool false)] [(0,1,(.t 19))],none,0,3⟩,⟨some 7,.alloc false [(.int .i64 0),(.int .i64 0),(.int .i64 0),(.str []),(.is [] .nil),(.bool false)],none,0,0⟩,⟨none,.store 6 (.t 7) (.t 20),none,1,15⟩]
def f47r5 : List AOper := [⟨some 21,.fieldAddr 0 (.t 5),none,0,0⟩,⟨some 22,.load false 1 (.t 21),none,0,1⟩]
def f47r6 : List AOper := [⟨some 24,.bin .eql (.t 22) (.c (.int .i64 13)),none,0,0⟩,⟨some 23,.move (.t 24),none,0,1⟩]
def f47r7 : List AOper := [⟨some 25,.fieldAddr 1 (.t 5),none,0,0⟩,⟨some 26,.load false 1 (.t 25),none,0,1⟩,⟨some 27,.fieldAddr 1 (.t 7),none,0,3⟩,⟨none,.store 1 (.t 27) (.t 26),none,0,7⟩]
def f47r8 : List AOper := [⟨some 29,.bin .eql (.t 22) (.c (.int .i64 14)),none,0,0⟩,⟨some 28,.move (.t 29),none,0,1⟩]
def f47r9 : List AOper := [⟨some 30,.fieldAddr 1 (.t 5),none,0,0⟩,⟨some 31,.load false 1 (.t 30),none,0,1⟩,⟨some 32,.fieldAddr 2 (.t 5),none,0,0⟩,⟨some 33,.load false 1 (.t 32),none,0,4⟩,⟨some 34,.fieldAddr 1 (.t 7),none,0,3⟩,⟨none,.store 1 (.t 34) (.t 31),none,0,19⟩,⟨some 35,.fieldAddr 2 (.t 7),none,0,63⟩,⟨none,.store 1 (.t 35) (.t 33),none,0,127⟩]
def f47r10 : List AOper := [⟨some 37,.bin .eql (.t 22) (.c (.int .i64 12)),none,0,0⟩,⟨some 36,.move (.t 37),none,0,1⟩]
def f47r11 : List AOper := [⟨some 38,.fieldAddr 3 (.t 5),none,0,0⟩,⟨some 39,.load false 1 (.t 38),none,0,1⟩,⟨some 40,.fieldAddr 3 (.t 7),none,0,3⟩,⟨none,.store 1 (.t 40) (.t 39),none,0,7⟩]
def f47r12 : List AOper := [⟨some 42,.bin .eql (.t 22) (.c (.int .i64 15)),none,0,0⟩,⟨some 41,.move (.t 42),none,0,1⟩]
def f47r13 : List AOper := [⟨some 43,.bin .eql (.t 22) (.c (.int .i64 16)),none,0,0⟩,⟨some 41,.move (.t 43),none,0,1⟩]
def f47r14 : List AOper := [⟨some 44,.fieldAddr 3 (.t 5),none,0,0⟩,⟨some 45,.load false 1 (.t 44),none,0,1⟩,⟨some 46,.fieldAddr 5 (.t 5),none,0,0⟩,⟨some 47,.load false 1 (.t 46),none,0,4⟩,⟨some 48,.fieldAddr 3 (.t 7),none,0,3⟩,⟨none,.store 1 (.t 48) (.t 45),none,0,19⟩,⟨some 49,.fieldAddr 5 (.t 7),none,0,63⟩,⟨none,.store 1 (.t 49) (.t 47),none,0,127⟩]
def f47r15 : List AOper := [⟨some 4,.move (.c (.bool false)),none,0,0⟩]
def f47r16 : List AOper := [⟨some 50,.fieldAddr 0 (.t 6),none,0,0⟩,⟨some 51,.load false 1 (.t 50),none,0,1⟩,⟨some 52,.fieldAddr 0 (.t 7),none,0,0⟩,⟨some 53,.load false 1 (.t 52),none,0,4⟩,⟨some 54,.bin .eql (.t 51) (.t 53),none,0,15⟩,⟨some 55,.move (.t 54),none,0,31⟩,⟨some 56,.fieldAddr 1 (.t 6),(some (55,true)),0,63⟩,⟨some 57,.load false 1 (.t 56),(some (55,true)),0,127⟩,⟨some 58,.fieldAddr 1 (.t 7),(some (55,true)),0,63⟩,⟨some 59,.load false 1 (.t 58),(some (55,true)),0,319⟩,⟨some 60,.bin .eql (.t 57) (.t 59),(some (55,true)),0,1023⟩,⟨some 61,.pick (.t 55) (.t 60) (.c (.bool false)),none,0,2047⟩,⟨some 62,.move (.t 61),none,0,4095⟩,⟨some 63,.fieldAddr 2 (.t 6),(some (62,true)),0,8191⟩,⟨some 64,.load false 1 (.t 63),(some (62,true)),0,16383⟩,⟨some 65,.fieldAddr 2 (.t 7),(some (62,true)),0,8191⟩,⟨some 66,.load false 1 (.t 65),(some (62,true)),0,40959⟩,⟨some 67,.bin .eql (.t 64) (.t 66),(some (62,true)),0,131071⟩,⟨some 68,.pick (.t 62) (.t 67) (.c (.bool false)),none,0,262143⟩,⟨some 69,.move (.t 68),none,0,524287⟩,⟨some 70,.fieldAddr 3 (.t 6),(some (69,true)),0,1048575⟩,⟨some 71,.load false 1 (.t 70),(some (69,true)),0,2097151⟩,⟨some 72,.fieldAddr 3 (.t 7),(some (69,true)),0,1048575⟩,⟨some 73,.load false 1 (.t 72),(some (69,true)),0,5242879⟩,⟨some 74,.bin .eql (.t 71) (.t 73),(some (69,true)),0,16777215⟩,⟨some 75,.pick (.t 69) (.t 74) (.c (.bool false)),none,0,33554431⟩,⟨some 76,.move (.t 75),none,0,67108863⟩,⟨some 77,.fieldAddr 5 (.t 6),(some (76,true)),0,134217727⟩,⟨some 78,.load false 1 (.t 77),(some (76,true)),0,268435455⟩,⟨some 79,.fieldAddr 5 (.t 7),(some (76,true)),0,134217727⟩,⟨some 80,.load false 1 (.t 79),(some (76,true)),0,671088639⟩,⟨some 81,.eq false .bool (.t 78) (.t 80),(some (76,true)),0,2147483647⟩,⟨some 82,.pick (.t 76) (.t 81) (.c (.bool false)),none,0,4294967295⟩,⟨some 8,.move (.t 82),none,0,8589934591⟩]
def f47r17 : List AOper := [⟨some 83,.move (.t 8),none,0,0⟩,⟨some 84,.un .not (.t 83),none,0,1⟩,⟨some 85,.move (.t 84),none,0,3⟩,⟨some 86,.fieldAddr 5 (.t 5),(some (85,false)),0,7⟩,⟨some 87,.load false 1 (.t 86),(some (85,false)),0,15⟩,⟨some 88,.un .not (.t 87),(some (85,false)),0,31⟩,⟨some 89,.move (.t 88),(some (85,false)),0,63⟩,⟨some 90,.fieldAddr 4 (.t 5),(some (89,true)),0,127⟩,⟨some 91,.load false 1 (.t 90),(some (89,true)),0,255⟩,⟨some 92,.len 1 (.t 91),(some (89,true)),0,511⟩,⟨some 93,.bin .gtr (.t 92) (.c (.int .i64 0)),(some (89,true)),0,1023⟩,⟨some 94,.pick (.t 89) (.t 93) (.c (.bool false)),(some (85,false)),0,2047⟩,⟨some 95,.pick (.t 85) (.c (.bool true)) (.t 94),none,0,4095⟩]
def f47r18 : List AOper := [⟨some 4,.move (.c (.bool false)),none,0,0⟩]
def f47r19 : List AOper := [⟨some 96,.fieldAddr 0 (.t 5),none,0,0⟩,⟨some 97,.load false 1 (.t 96),none,0,1⟩]
def f47r20 : List AOper := [⟨some 99,.bin .eql (.t 97) (.c (.int .i64 13)),none,0,0⟩,⟨some 98,.move (.t 99),none,0,1⟩]
def f47r21 : List AOper := [⟨some 100,.bin .eql (.t 97) (.c (.int .i64 14)),none,0,0⟩,⟨some 98,.move (.t 100),none,0,1⟩]
def f47r22 : List AOper := [⟨some 101,.fieldAddr 1 (.t 5),none,0,0⟩,⟨some 102,.load false 1 (.t 101),none,0,1⟩,⟨some 103,.bin .geq (.t 102) (.c (.int .i64 0)),none,0,3⟩,⟨some 104,.move (.t 103),none,0,7⟩,⟨some 105,.fieldAddr 1 (.t 5),(some (104,true)),0,15⟩,⟨some 106,.load false 1 (.t 105),(some (104,true)),0,31⟩,⟨some 107,.move (.t 1),(some (104,true)),0,15⟩,⟨some 108,.bin .lss (.t 106) (.t 107),(some (104,true)),0,127⟩,⟨some 109,.pick (.t 104) (.t 108) (.c (.bool false)),none,0,255⟩,⟨some 110,.move (.t 109),none,0,511⟩,⟨some 111,.fieldAddr 0 (.t 5),(some (110,true)),0,1023⟩,⟨some 112,.load false 1 (.t 111),(some (110,true)),0,2047⟩,⟨some 113,.bin .eql (.t 112) (.c (.int .i64 13)),(some (110,true)),0,4095⟩,⟨some 114,.move (.t 113),(some (110,true)),0,8191⟩,⟨some 115,.fieldAddr 2 (.t 5),(some (114,false)),0,16383⟩,⟨some 116,.load false 1 (.t 115),(some (114,false)),0,32767⟩,⟨some 117,.call (.c (.fn 43 [] [])) [(.t 116)],(some (114,false)),0,65535⟩,⟨some 118,.pick (.t 114) (.c (.bool true)) (.t 117),(some (110,true)),0,131071⟩,⟨some 119,.pick (.t 110) (.t 118) (.c (.bool false)),none,0,262143⟩,⟨some 4,.move (.t 119),none,0,524287⟩]
def f47r23 : List AOper := [⟨some 120,.fieldAddr 3 (.t 5),none,0,0⟩,⟨some 121,.load false 1 (.t 120),none,0,1⟩,⟨some 122,.call (.c (.fn 58 [] [])) [(.t 121)],none,0,3⟩,⟨some 4,.move (.t 122),none,0,7⟩]
def f47c : ACode :=
 .seq (.region false f47r0 [0,1] 0)
 (.seq (.region false f47r1 [1,5] 1)
 (.seq (.region false f47r2 [1,5,6] 1)
 (.seq (.region false f47r3 [1,5,6] 0)
 (.seq (.region false f47r4 [1,5,6,7] 1)
 (.seq (.seq (.region false f47r5 [1,5,6,7,22] 0)
 (.block 0 (.seq (.region false f47r6 [1,5,6,7,22,23] 0)
  (.cond (.t 23)
   (.region false f47r7 [1,5,6,7] 0)
   (.seq (.region false f47r8 [1,5,6,7,22,28] 0)
   (.cond (.t 28)
    (.region true f47r9 [1,5,6,7] 0)
    (.seq (.region false f47r10 [1,5,6,7,22,36] 0)
    (.cond (.t 36)
     (.region false f47r11 [1,5,6,7] 0)
     (.seq (.seq (.region false f47r12 [1,5,6,7,22,41] 0)
     (.cond (.t 41)
      (.skip)
      (.region false f47r13 [1,5,6,7,41] 0)))
     (.cond (.t 41)
      (.region true f47r14 [1,5,6,7] 0)
      (.seq (.region false f47r15 [4] 0)
      (.ret))))))))))))
 (.seq (.region false f47r16 [1,5,8] 0)
 (.seq (.seq (.region false f47r17 [1,5,95] 0)
 (.cond (.t 95)
  (.seq (.region false f47r18 [4] 0)
  (.ret))
  (.skip)))
 (.seq (.seq (.region false f47r19 [1,5,97] 0)
 (.block 1 (.seq (.seq (.region false f47r20 [1,5,97,98] 0)
  (.cond (.t 98)
   (.skip)
   (.region false f47r21 [1,5,98] 0)))
  (.cond (.t 98)
   (.seq (.region false f47r22 [4] 0)
   (.ret))
   (.skip)))))
 (.seq (.region false f47r23 [4] 0)
 (.ret))))))))))
def f47 : AFn := ⟨2,123,[.tmp 4],f47c,1,none⟩
def f47k : List (Nat × List Nat) := [(0,[0,1]),(1,[1,5]),(2,[1,5,6]),(3,[1,5,6]),(4,[1,5,6,7]),(5,[1,5,6,7,22]),(7,[1,5,6,7,22,23]),(9,[1,5,6,7,22,28]),(11,[1,5,6,7,22,36]),(13,[1,5,6,7,22,41]),(14,[1,5,6,7,41]),(6,[4]),(15,[1,5,6,7]),(12,[1,5,6,7]),(10,[1,5,6,7]),(8,[1,5,6,7]),(16,[1,5,8]),(17,[1,5,95]),(18,[4]),(19,[1,5,97]),(20,[1,5,97,98]),(21,[1,5,98]),(22,[4]),(23,[4])]
def f47v : List Nat := []
def f48r0 : List AOper := [⟨some 6,.move (.c (.bool false)),none,0,0⟩]
def f48r1 : List AOper := [⟨some 10,.move (.t 2),none,0,0⟩,⟨some 11,.move (.t 1),none,0,0⟩,⟨some 12,.idxAddr 1 (.t 10) (.t 11),none,0,3⟩,⟨some 13,.load false 1 (.t 12),none,0,7⟩]
def f48r2 : List AOper := [⟨some 15,.bin .eql (.t 13) (.c (.int .i64 1)),none,0,0⟩,⟨some 14,.move (.t 15),none,0,1⟩]
def f48r3 : List AOper := [⟨some 6,.move (.c (.bool false)),none,0,0⟩]
def f48r4 : List AOper := [⟨some 17,.bin .eql (.t 13) (.c (.int .i64 2)),none,0,0⟩,⟨some 16,.move (.t 17),none,0,1⟩]
def f48r5 : List AOper := [⟨some 6,.move (.c (.bool true)),none,0,0⟩]
def f48r6 : List AOper := [⟨some 18,.move (.t 2),none,0,0⟩,⟨some 19,.move (.t 1),none,0,0⟩,⟨some 20,.idxAddr 1 (.t 18) (.t 19),none,0,3⟩,⟨none,.store 1 (.t 20) (.c (.int .i64 1)),none,0,7⟩]
def f48r7 : List AOper := [⟨some 21,.move (.t 0),none,0,0⟩,⟨some 22,.nilCheck (.t 21),none,0,1⟩,⟨some 23,.fieldAddr 0 (.t 22),none,0,3⟩,⟨some 24,.load false 1 (.t 23),none,0,7⟩,⟨some 25,.move (.t 1),none,0,0⟩,⟨some 26,.idxAddr 6 (.t 24) (.t 25),none,0,31⟩,⟨some 27,.load true 6 (.t 26),none,0,63⟩,⟨some 7,.alloc false [(.int .i64 0),(.int .i64 0),(.int .i64 0),(.str []),(.is [] .nil),(.bool false)],none,0,0⟩,⟨none,.store 6 (.t 7) (.t 27),none,1,255⟩]
def f48r8 : List AOper := [⟨some 28,.fieldAddr 0 (.t 7),none,0,0⟩,⟨some 29,.load false 1 (.t 28),none,0,1⟩,⟨some 30,.bin .eql (.t 29) (.c (.int .i64 14)),none,0,3⟩,⟨some 31,.move (.t 30),none,0,7⟩,⟨some 32,.move (.t 0),(some (31,true)),0,15⟩,⟨some 33,.fieldAddr 1 (.t 7),(some (31,true)),0,15⟩,⟨some 34,.load false 1 (.t 33),(some (31,true)),0,47⟩,⟨some 35,.move (.t 2),(some (31,true)),0,15⟩,⟨some 36,.call (.c (.fn 48 [] [])) [(.t 32),(.t 34),(.t 35)],(some (31,true)),0,255⟩,⟨some 37,.un .not (.t 36),(some (31,true)),0,511⟩,⟨some 38,.pick (.t 31) (.t 37) (.c (.bool false)),none,0,1023⟩]
def f48r9 : List AOper := [⟨some 6,.move (.c (.bool false)),none,0,0⟩]
def f48r10 : List AOper := [⟨some 39,.fieldAddr 4 (.t 7),none,0,0⟩,⟨some 40,.load false 1 (.t 39),none,0,1⟩,⟨some 41,.len 1 (.t 40),none,0,3⟩,⟨some 42,.move (.c (.int .i64 0)),none,0,0⟩]
def f48r11 : List AOper := [⟨some 43,.bin .lss (.t 42) (.t 41),none,0,0⟩]
def f48r12 : List AOper := [⟨some 44,.idxAddr 3 (.t 40) (.t 42),none,0,0⟩,⟨some 45,.load true 3 (.t 44),none,0,1⟩,⟨some 9,.alloc false [(.str []),(.int .i64 0),(.int .i64 0)],none,0,0⟩,⟨none,.store 3 (.t 9) (.t 45),none,1,7⟩]
def f48r13 : List AOper := [⟨some 46,.move (.t 0),none,0,0⟩,⟨some 47,.fieldAddr 1 (.t 9),none,0,0⟩,⟨some 48,.load false 1 (.t 47),none,0,2⟩,⟨some 49,.move (.t 2),none,0,0⟩,⟨some 50,.call (.c (.fn 48 [] [])) [(.t 46),(.t 48),(.t 49)],none,0,15⟩,⟨some 51,.un .not (.t 50),none,0,31⟩]
def f48r14 : List AOper := [⟨some 6,.move (.c (.bool false)),none,0,0⟩]
def f48r15 : List AOper := [⟨some 52,.bin .add (.t 42) (.c (.int .i64 1)),none,0,0⟩,⟨some 42,.move (.t 52),none,0,1⟩]
def f48m11 : ACode :=
 .seq (.region false f48r11 [0,1,2,40,41,42,43] 0)
 (.seq (.cond (.t 43)
  (.skip)
  (.exit 1))
 (.seq (.block 2 (.seq (.region false f48r12 [0,1,2,9,40,41,42] 1)
  (.seq (.region false f48r13 [0,1,2,40,41,42,51] 0)
  (.cond (.t 51)
   (.seq (.region false f48r14 [6] 0)
   (.ret))
   (.skip)))))
 (.region false f48r15 [0,1,2,40,41,42] 0)))
def f48l11 : ACode := f48m11
theorem f48l11_b {A : Tab} {nt : Nat} {e : Env} {h : Heap} : Brun A nt f48l11 e h = Brun A nt f48m11 e h := rfl
def f48r16 : List AOper := [⟨some 53,.move (.t 2),none,0,0⟩,⟨some 54,.move (.t 1),none,0,0⟩,⟨some 55,.idxAddr 1 (.t 53) (.t 54),none,0,3⟩,⟨none,.store 1 (.t 55) (.c (.int .i64 2)),none,0,7⟩]
def f48r17 : List AOper := [⟨some 6,.move (.c (.bool true)),none,0,0⟩]
def f48c : ACode :=
 .seq (.region false f48r0 [0,1,2] 0)
 (.seq (.seq (.region false f48r1 [0,1,2,13] 0)
 (.block 0 (.seq (.region false f48r2 [0,1,2,13,14] 0)
  (.cond (.t 14)
   (.seq (.region false f48r3 [6] 0)
   (.ret))
   (.seq (.region false f48r4 [0,1,2,16] 0)
   (.cond (.t 16)
    (.seq (.region false f48r5 [6] 0)
    (.ret))
    (.skip)))))))
 (.seq (.region false f48r6 [0,1,2] 0)
 (.seq (.region false f48r7 [0,1,2,7] 1)
 (.seq (.seq (.region false f48r8 [0,1,2,7,38] 0)
 (.cond (.t 38)
  (.seq (.region false f48r9 [6] 0)
  (.ret))
  (.skip)))
 (.seq (.seq (.region false f48r10 [0,1,2,40,41,42] 0)
 (.block 1 (.loop f48l11)))
 (.seq (.region false f48r16 [] 0)
 (.seq (.region false f48r17 [6] 0)
 (.ret))))))))
def f48 : AFn := ⟨3,56,[.tmp 6],f48c,1,none⟩
def f48k : List (Nat × List Nat) := [(0,[0,1,2]),(1,[0,1,2,13]),(2,[0,1,2,13,14]),(4,[0,1,2,16]),(5,[6]),(3,[6]),(6,[0,1,2]),(7,[0,1,2,7]),(8,[0,1,2,7,38]),(9,[6]),(10,[0,1,2,40,41,42]),(11,[0,1,2,40,41,42,43]),(12,[0,1,2,9,40,41,42]),(13,[0,1,2,40,41,42,51]),(14,[6]),(15,[0,1,2,40,41,42]),(16,[]),(17,[6])]
def f48v : List Nat := []
def f49r0 : List AOper := [⟨some 4,.move (.c (.bool false)),none,0,0⟩]
def f49r1 : List AOper := [⟨some 7,.move (.t 0),none,0,0⟩,⟨some 8,.nilCheck (.t 7),none,0,1⟩,⟨some 9,.fieldAddr 0 (.t 8),none,0,3⟩,⟨some 10,.load false 1 (.t 9),none,0,7⟩,⟨some 11,.move (.t 1),none,0,0⟩,⟨some 12,.idxAddr 6 (.t 10) (.t 11),none,0,31⟩,⟨some 13,.load true 6 (.t 12),none,0,63⟩,⟨some 5,.alloc false [(.int .i64 0),(.int .i64 0),(.int .i64 0),(.str []),(.is [] .nil),(.bool false)],none,0,0⟩,⟨none,.store 6 (.t 5) (.t 13),none,1,255⟩]
def f49r2 : List AOper := [⟨some 14,.move (.t 1),none,0,0⟩,⟨some 15,.bin .lss (.t 14) (.c (.int .i64 11)),none,0,1⟩]
def f49r3 : List AOper := [⟨some 16,.load true 6 (.t 5),none,0,0⟩,⟨some 17,.move (.t 1),none,0,0⟩,⟨some 18,.bin .add (.t 17) (.c (.int .i64 1)),none,0,2⟩,⟨some 19,.build [(.int .i64 0),(.int .i64 0),(.int .i64 0),(.str []),(.is [] .nil),(.bool false)] [(0,1,(.t 18))],none,0,6⟩,⟨some 20,.call (.c (.fn 67 [] [])) [(.t 16),(.t 19)],none,0,15⟩,⟨some 4,.move (.t 20),none,0,31⟩]
def f49r4 : List AOper := [⟨some 21,.fieldAddr 4 (.t 5),none,0,0⟩,⟨some 22,.load false 1 (.t 21),none,0,1⟩,⟨some 23,.len 1 (.t 22),none,0,3⟩,⟨some 24,.bin .eql (.t 23) (.c (.int .i64 0)),none,0,7⟩,⟨some 25,.move (.t 24),none,0,15⟩,⟨some 26,.fieldAddr 5 (.t 5),(some (25,true)),0,31⟩,⟨some 27,.load false 1 (.t 26),(some (25,true)),0,63⟩,⟨some 28,.un .not (.t 27),(some (25,true)),0,127⟩,⟨some 29,.pick (.t 25) (.t 28) (.c (.bool false)),none,0,255⟩,⟨some 6,.move (.t 29),none,0,511⟩]
def f49r5 : List AOper := [⟨some 30,.fieldAddr 0 (.t 5),none,0,0⟩,⟨some 31,.load false 1 (.t 30),none,0,1⟩]
def f49r6 : List AOper := [⟨some 33,.bin .eql (.t 31) (.c (.int .i64 12)),none,0,0⟩,⟨some 32,.move (.t 33),none,0,1⟩]
def f49r7 : List AOper := [⟨some 34,.fieldAddr 1 (.t 5),none,0,0⟩,⟨some 35,.load false 1 (.t 34),none,0,1⟩,⟨some 36,.bin .eql (.t 35) (.c (.int .i64 0)),none,0,3⟩,⟨some 37,.move (.t 36),none,0,7⟩,⟨some 38,.fieldAddr 2 (.t 5),(some (37,true)),0,15⟩,⟨some 39,.load false 1 (.t 38),(some (37,true)),0,31⟩,⟨some 40,.bin .eql (.t 39) (.c (.int .i64 0)),(some (37,true)),0,63⟩,⟨some 41,.pick (.t 37) (.t 40) (.c (.bool false)),none,0,127⟩,⟨some 42,.move (.t 41),none,0,255⟩,⟨some 43,.fieldAddr 3 (.t 5),(some (42,true)),0,511⟩,⟨some 44,.load false 1 (.t 43),(some (42,true)),0,1023⟩,⟨some 45,.call (.c (.fn 68 [] [])) [(.t 44)],(some (42,true)),0,2047⟩,⟨some 46,.pick (.t 42) (.t 45) (.c (.bool false)),none,0,4095⟩,⟨some 47,.move (.t 46),none,0,8191⟩,⟨some 48,.move (.t 6),(some (47,true)),0,16383⟩,⟨some 49,.pick (.t 47) (.t 48) (.c (.bool false)),none,0,32767⟩,⟨some 4,.move (.t 49),none,0,65535⟩]
def f49r8 : List AOper := [⟨some 51,.bin .eql (.t 31) (.c (.int .i64 15)),none,0,0⟩,⟨some 50,.move (.t 51),none,0,1⟩]
def f49r9 : List AOper := [⟨some 52,.bin .eql (.t 31) (.c (.int .i64 16)),none,0,0⟩,⟨some 50,.move (.t 52),none,0,1⟩]
def f49r10 : List AOper := [⟨some 53,.fieldAddr 1 (.t 5),none,0,0⟩,⟨some 54,.load false 1 (.t 53),none,0,1⟩,⟨some 55,.bin .eql (.t 54) (.c (.int .i64 0)),none,0,3⟩,⟨some 56,.move (.t 55),none,0,7⟩,⟨some 57,.fieldAddr 2 (.t 5),(some (56,true)),0,15⟩,⟨some 58,.load false 1 (.t 57),(some (56,true)),0,31⟩,⟨some 59,.bin .eql (.t 58) (.c (.int .i64 0)),(some (56,true)),0,63⟩,⟨some 60,.pick (.t 56) (.t 59) (.c (.bool false)),none,0,127⟩,⟨some 61,.move (.t 60),none,0,255⟩,⟨some 62,.fieldAddr 3 (.t 5),(some (61,true)),0,511⟩,⟨some 63,.load false 1 (.t 62),(some (61,true)),0,1023⟩,⟨some 64,.call (.c (.fn 68 [] [])) [(.t 63)],(some (61,true)),0,2047⟩,⟨some 65,.pick (.t 61) (.t 64) (.c (.bool false)),none,0,4095⟩,⟨some 66,.move (.t 65),none,0,8191⟩,⟨some 67,.move (.t 6),(some (66,true)),0,16383⟩,⟨some 68,.move (.t 67),(some (66,true)),0,32767⟩,⟨some 69,.fieldAddr 5 (.t 5),(some (68,false)),0,65535⟩,⟨some 70,.load false 1 (.t 69),(some (68,false)),0,131071⟩,⟨some 71,.move (.t 70),(some (68,false)),0,262143⟩,⟨some 72,.move (.t 0),(some (71,true)),0,524287⟩,⟨some 73,.fieldAddr 4 (.t 5),(some (71,true)),0,524287⟩,⟨some 74,.load false 1 (.t 73),(some (71,true)),0,1572863⟩,⟨some 75,.call (.c (.fn 69 [] [])) [(.t 72),(.t 74)],(some (71,true)),0,4194303⟩,⟨some 76,.bin .eql (.t 75) (.c (.int .i64 0)),(some (71,true)),0,8388607⟩,⟨some 77,.pick (.t 71) (.t 76) (.c (.bool false)),(some (68,false)),0,16777215⟩,⟨some 78,.pick (.t 68) (.c (.bool true)) (.t 77),(some (66,true)),0,33554431⟩,⟨some 79,.pick (.t 66) (.t 78) (.c (.bool false)),none,0,67108863⟩,⟨some 4,.move (.t 79),none,0,134217727⟩]
def f49r11 : List AOper := [⟨some 81,.bin .eql (.t 31) (.c (.int .i64 13)),none,0,0⟩,⟨some 80,.move (.t 81),none,0,1⟩]
def f49r12 : List AOper := [⟨some 82,.fieldAddr 1 (.t 5),none,0,0⟩,⟨some 83,.load false 1 (.t 82),none,0,1⟩,⟨some 84,.bin .geq (.t 83) (.c (.int .i64 0)),none,0,3⟩,⟨some 85,.move (.t 84),none,0,7⟩,⟨some 86,.fieldAddr 1 (.t 5),(some (85,true)),0,15⟩,⟨some 87,.load false 1 (.t 86),(some (85,true)),0,31⟩,⟨some 88,.move (.t 1),(some (85,true)),0,15⟩,⟨some 89,.bin .lss (.t 87) (.t 88),(some (85,true)),0,127⟩,⟨some 90,.pick (.t 85) (.t 89) (.c (.bool false)),none,0,255⟩,⟨some 91,.move (.t 90),none,0,511⟩,⟨some 92,.fieldAddr 2 (.t 5),(some (91,true)),0,1023⟩,⟨some 93,.load false 1 (.t 92),(some (91,true)),0,2047⟩,⟨some 94,.bin .eql (.t 93) (.c (.int .i64 0)),(some (91,true)),0,4095⟩,⟨some 95,.pick (.t 91) (.t 94) (.c (.bool false)),none,0,8191⟩,⟨some 96,.move (.t 95),none,0,16383⟩,⟨some 97,.fieldAddr 3 (.t 5),(some (96,true)),0,32767⟩,⟨some 98,.load false 1 (.t 97),(some (96,true)),0,65535⟩,⟨some 99,.bin .eql (.t 98) (.c (.str [])),(some (96,true)),0,131071⟩,⟨some 100,.pick (.t 96) (.t 99) (.c (.bool false)),none,0,262143⟩,⟨some 101,.move (.t 100),none,0,524287⟩,⟨some 102,.move (.t 6),(some (101,true)),0,1048575⟩,⟨some 103,.pick (.t 101) (.t 102) (.c (.bool false)),none,0,2097151⟩,⟨some 4,.move (.t 103),none,0,4194303⟩]
def f49r13 : List AOper := [⟨some 105,.bin .eql (.t 31) (.c (.int .i64 14)),none,0,0⟩,⟨some 104,.move (.t 105),none,0,1⟩]
def f49r14 : List AOper := [⟨some 106,.fieldAddr 1 (.t 5),none,0,0⟩,⟨some 107,.load false 1 (.t 106),none,0,1⟩,⟨some 108,.bin .geq (.t 107) (.c (.int .i64 0)),none,0,3⟩,⟨some 109,.move (.t 108),none,0,7⟩,⟨some 110,.fieldAddr 1 (.t 5),(some (109,true)),0,15⟩,⟨some 111,.load false 1 (.t 110),(some (109,true)),0,31⟩,⟨some 112,.move (.t 1),(some (109,true)),0,15⟩,⟨some 113,.bin .lss (.t 111) (.t 112),(some (109,true)),0,127⟩,⟨some 114,.pick (.t 109) (.t 113) (.c (.bool false)),none,0,255⟩,⟨some 115,.move (.t 114),none,0,511⟩,⟨some 116,.fieldAddr 2 (.t 5),(some (115,true)),0,1023⟩,⟨some 117,.load false 1 (.t 116),(some (115,true)),0,2047⟩,⟨some 118,.call (.c (.fn 70 [] [])) [(.t 117)],(some (115,true)),0,4095⟩,⟨some 119,.pick (.t 115) (.t 118) (.c (.bool false)),none,0,8191⟩,⟨some 120,.move (.t 119),none,0,16383⟩,⟨some 121,.fieldAddr 3 (.t 5),(some (120,true)),0,32767⟩,⟨some 122,.load false 1 (.t 121),(some (120,true)),0,65535⟩,⟨some 123,.bin .eql (.t 122) (.c (.str [])),(some (120,true)),0,131071⟩,⟨some 124,.pick (.t 120) (.t 123) (.c (.bool false)),none,0,262143⟩,⟨some 125,.move (.t 124),none,0,524287⟩,⟨some 126,.move (.t 6),(some (125,true)),0,1048575⟩,⟨some 127,.pick (.t 125) (.t 126) (.c (.bool false)),none,0,2097151⟩,⟨some 128,.move (.t 127),none,0,4194303⟩,⟨some 129,.move (.t 0),(some (128,true)),0,8388607⟩,⟨some 130,.fieldAddr 1 (.t 5),(some (128,true)),0,8388607⟩,⟨some 131,.load false 1 (.t 130),(some (128,true)),0,25165823⟩,⟨some 132,.call (.c (.fn 71 [] [])) [(.t 129),(.t 131)],(some (128,true)),0,67108863⟩,⟨some 133,.pick (.t 128) (.t 132) (.c (.bool false)),none,0,134217727⟩,⟨some 4,.move (.t 133),none,0,268435455⟩]
def f49r15 : List AOper := [⟨some 4,.move (.c (.bool false)),none,0,0⟩]
def f49c : ACode :=
 .seq (.region false f49r0 [0,1] 0)
 (.seq (.region false f49r1 [0,1,5] 1)
 (.seq (.seq (.region false f49r2 [0,1,5,15] 0)
 (.cond (.t 15)
  (.seq (.region false f49r3 [4] 0)
  (.ret))
  (.skip)))
 (.seq (.region false f49r4 [0,1,5,6] 0)
 (.seq (.seq (.region false f49r5 [0,1,5,6,31] 0)
 (.block 0 (.seq (.region false f49r6 [0,1,5,6,31,32] 0)
  (.cond (.t 32)
   (.seq (.region false f49r7 [4] 0)
   (.ret))
   (.seq (.seq (.region false f49r8 [0,1,5,6,31,50] 0)
   (.cond (.t 50)
    (.skip)
    (.region false f49r9 [0,1,5,6,31,50] 0)))
   (.cond (.t 50)
    (.seq (.region false f49r10 [4] 0)
    (.ret))
    (.seq (.region false f49r11 [0,1,5,6,31,80] 0)
    (.cond (.t 80)
     (.seq (.region false f49r12 [4] 0)
     (.ret))
     (.seq (.region false f49r13 [0,1,5,6,104] 0)
     (.cond (.t 104)
      (.seq (.region false f49r14 [4] 0)
      (.ret))
      (.skip)))))))))))
 (.seq (.region false f49r15 [4] 0)
 (.ret))))))
def f49 : AFn := ⟨2,134,[.tmp 4],f49c,1,none⟩
def f49k : List (Nat × List Nat) := [(0,[0,1]),(1,[0,1,5]),(2,[0,1,5,15]),(3,[4]),(4,[0,1,5,6]),(5,[0,1,5,6,31]),(6,[0,1,5,6,31,32]),(8,[0,1,5,6,31,50]),(9,[0,1,5,6,31,50]),(11,[0,1,5,6,31,80]),(13,[0,1,5,6,104]),(14,[4]),(12,[4]),(10,[4]),(7,[4]),(15,[4])]
def f49v : List Nat := []
def f50r0 : List AOper := [⟨some 4,.move (.c (.bool false)),none,0,0⟩]
def f50r1 : List AOper := [⟨some 7,.move (.t 0),none,0,0⟩,⟨some 8,.nilCheck (.t 7),none,0,1⟩,⟨some 9,.fieldAddr 0 (.t 8),none,0,3⟩,⟨some 10,.load false 1 (.t 9),none,0,7⟩,⟨some 11,.move (.t 1),none,0,0⟩,⟨some 12,.idxAddr 6 (.t 10) (.t 11),none,0,31⟩,⟨some 13,.load true 6 (.t 12),none,0,63⟩,⟨some 5,.alloc false [(.int .i64 0),(.int .i64 0),(.int .i64 0),(.str []),(.is [] .nil),(.bool false)],none,0,0⟩,⟨none,.store 6 (.t 5) (.t 13),none,1,255⟩]
def f50r2 : List AOper := [⟨some 14,.fieldAddr 0 (.t 5),none,0,0⟩,⟨some 15,.load false 1 (.t 14),none,0,1⟩,⟨some 16,.bin .neq (.t 15) (.c (.int .i64 13)),none,0,3⟩,⟨some 17,.move (.t 16),none,0,7⟩,⟨some 18,.fieldAddr 0 (.t 5),(some (17,true)),0,15⟩,⟨some 19,.load false 1 (.t 18),(some (17,true)),0,31⟩,⟨some 20,.bin .neq (.t 19) (.c (.int .i64 14)),(some (17,true)),0,63⟩,⟨some 21,.pick (.t 17) (.t 20) (.c (.bool false)),none,0,127⟩]
def f50r3 : List AOper := [⟨some 4,.move (.c (.bool false)),none,0,0⟩]
def f50r4 : List AOper := [⟨some 6,.move (.c (.int .i64 0)),none,0,0⟩]
def f50r5 : List AOper := [⟨some 22,.move (.t 6),none,0,0⟩,⟨some 23,.move (.t 1),none,0,0⟩,⟨some 24,.bin .lss (.t 22) (.t 23),none,0,3⟩]
def f50q6 : List AOper := [⟨some 27,.move (.t 0),none,0,0⟩,⟨some 28,.nilCheck (.t 27),none,0,1⟩,⟨some 29,.fieldAddr 0 (.t 28),none,0,3⟩,⟨some 30,.load false 1 (.t 29),none,0,7⟩,⟨some 31,.move (.t 6),none,0,0⟩,⟨some 32,.idxAddr 6 (.t 30) (.t 31),none,0,31⟩,⟨some 33,.fieldAddr 0 (.t 32),none,0,63⟩,⟨some 34,.load false 1 (.t 33),none,0,127⟩,⟨some 35,.fieldAddr 0 (.t 5),none,0,0⟩,⟨some 36,.load false 1 (.t 35),none,0,256⟩,⟨some 37,.bin .eql (.t 34) (.t 36),none,0,1023⟩,⟨some 38,.move (.t 37),none,0,2047⟩,⟨some 39,.move (.t 0),(some (38,true)),0,4095⟩,⟨some 40,.nilCheck (.t 39),(some (38,true)),0,8191⟩,⟨some 41,.fieldAddr 0 (.t 40),(some (38,true)),0,16383⟩,⟨some 42,.load false 1 (.t 41),(some (38,true)),0,32767⟩,⟨some 43,.move (.t 6),(some (38,true)),0,4095⟩,⟨some 44,.idxAddr 6 (.t 42) (.t 43),(some (38,true)),0,131071⟩,⟨some 45,.fieldAddr 1 (.t 44),(some (38,true)),0,262143⟩,⟨some 46,.load false 1 (.t 45),(some (38,true)),0,524287⟩,⟨some 47,.fieldAddr 1 (.t 5),(some (38,true)),0,4095⟩,⟨some 48,.load false 1 (.t 47),(some (38,true)),0,1052671⟩,⟨some 49,.bin .eql (.t 46) (.t 48),(some (38,true)),0,4194303⟩,⟨some 50,.pick (.t 38) (.t 49) (.c (.bool false)),none,0,8388607⟩,⟨some 51,.move (.t 50),none,0,16777215⟩,⟨some 52,.move (.t 0),(some (51,true)),0,33554431⟩,⟨some 53,.nilCheck (.t 52),(some (51,true)),0,67108863⟩,⟨some 54,.fieldAddr 0 (.t 53),(some (51,true)),0,134217727⟩,⟨some 55,.load false 1 (.t 54),(some (51,true)),0,268435455⟩,⟨some 56,.move (.t 6),(some (51,true)),0,33554431⟩,⟨some 57,.idxAddr 6 (.t 55) (.t 56),(some (51,true)),0,1073741823⟩,⟨some 58,.fieldAddr 2 (.t 57),(some (51,true)),0,2147483647⟩,⟨some 59,.load false 1 (.t 58),(some (51,true)),0,4294967295⟩,⟨some 60,.fieldAddr 2 (.t 5),(some (51,true)),0,33554431⟩,⟨some 61,.load false 1 (.t 60),(some (51,true)),0,8623489023⟩,⟨some 62,.bin .eql (.t 59) (.t 61),(some (51,true)),0,34359738367⟩,⟨some 63,.pick (.t 51) (.t 62) (.c (.bool false)),none,0,68719476735⟩]
def f50r6 : List AOper := f50q6
def f50r7 : List AOper := [⟨some 4,.move (.c (.bool true)),none,0,0⟩]
def f50r8 : List AOper := [⟨some 25,.move (.t 6),none,0,0⟩,⟨some 26,.bin .add (.t 25) (.c (.int .i64 1)),none,0,1⟩,⟨some 6,.move (.t 26),none,0,3⟩]
def f50m5 : ACode :=
 .seq (.seq (.region false f50r5 [0,1,5,6,24] 0)
 (.cond (.t 24)
  (.skip)
  (.exit 0)))
 (.seq (.block 1 (.seq (.region true f50r6 [0,1,5,6,63] 0)
  (.cond (.t 63)
   (.seq (.region false f50r7 [4] 0)
   (.ret))
   (.skip))))
 (.region false f50r8 [0,1,5,6] 0))
def f50l5 : ACode := f50m5
theorem f50l5_b {A : Tab} {nt : Nat} {e : Env} {h : Heap} : Brun A nt f50l5 e h = Brun A nt f50m5 e h := rfl
def f50r9 : List AOper := [⟨some 4,.move (.c (.bool false)),none,0,0⟩]
theorem f50r6_s : staticOK 0 f50r6 = true := by rfl
theorem f50r6_w {A : Tab} {nt : Nat} {keep : List Nat} {n : Nat} {e : Env} {h : Heap} (hr : (bkeep keep (stepsF nt (stepF A true) h.length f50r6 e (h ++ List.replicate n .free))).isSome = true) : Brun A nt (.region true f50r6 keep n) e h = bkeep keep (stepsF nt (stepF A true) h.length f50r6 e (h ++ List.replicate n .free)) := Brun_drawnS f50r6_s hr
theorem f50r6_u (nt base : Nat) (step : Nat → AOp → Env → Heap → Option (AV × Heap)) (e : Env) (h : Heap) : stepsF nt step base f50r6 e h = stepsF nt step base f50q6 e h := rfl
def f50c : ACode :=
 .seq (.region false f50r0 [0,1] 0)
 (.seq (.region false f50r1 [0,1,5] 1)
 (.seq (.seq (.region false f50r2 [0,1,5,21] 0)
 (.cond (.t 21)
  (.seq (.region false f50r3 [4] 0)
  (.ret))
  (.skip)))
 (.seq (.seq (.region false f50r4 [0,1,5,6] 0)
 (.block 0 (.loop f50l5)))
 (.seq (.region false f50r9 [4] 0)
 (.ret)))))
def f50 : AFn := ⟨2,64,[.tmp 4],f50c,1,none⟩
def f50k : List (Nat × List Nat) := [(0,[0,1]),(1,[0,1,5]),(2,[0,1,5,21]),(3,[4]),(4,[0,1,5,6]),(5,[0,1,5,6,24]),(7,[0,1,5,6,63]),(8,[4]),(6,[0,1,5,6]),(9,[4])]
def f50v : List Nat := []
def f51r0 : List AOper := [⟨some 2,.move (.c (.is [] .nil)),none,0,0⟩]
def f51r1 : List AOper := [⟨some 9,.move (.t 0),none,0,0⟩,⟨some 10,.nilCheck (.t 9),none,0,1⟩,⟨some 11,.fieldAddr 0 (.t 10),none,0,3⟩,⟨some 12,.load false 1 (.t 11),none,0,7⟩,⟨some 13,.len 1 (.t 12),none,0,15⟩,⟨some 14,.mkSlice false 1 1 [(.bool false)] (.t 13) (.t 13),none,0,31⟩,⟨some 3,.move (.t 14),none,1,63⟩]
def f51r2 : List AOper := [⟨some 4,.move (.c (.bool true)),none,0,0⟩]
def f51r3 : List AOper := [⟨some 15,.move (.t 4),none,0,0⟩]
def f51r4 : List AOper := [⟨some 4,.move (.c (.bool false)),none,0,0⟩]
def f51r5 : List AOper := [⟨some 5,.move (.c (.int .i64 0)),none,0,0⟩]
def f51r6 : List AOper := [⟨some 16,.move (.t 5),none,0,0⟩,⟨some 17,.move (.t 0),none,0,0⟩,⟨some 18,.nilCheck (.t 17),none,0,2⟩,⟨some 19,.fieldAddr 0 (.t 18),none,0,6⟩,⟨some 20,.load false 1 (.t 19),none,0,14⟩,⟨some 21,.len 1 (.t 20),none,0,30⟩,⟨some 22,.bin .lss (.t 16) (.t 21),none,0,63⟩]
def f51r7 : List AOper := [⟨some 6,.move (.c (.bool true)),none,0,0⟩]
def f51r8 : List AOper := [⟨some 25,.move (.t 0),none,0,0⟩,⟨some 26,.nilCheck (.t 25),none,0,1⟩,⟨some 27,.fieldAddr 0 (.t 26),none,0,3⟩,⟨some 28,.load false 1 (.t 27),none,0,7⟩,⟨some 29,.move (.t 5),none,0,0⟩,⟨some 30,.idxAddr 6 (.t 28) (.t 29),none,0,31⟩,⟨some 31,.load true 6 (.t 30),none,0,63⟩,⟨some 7,.alloc false [(.int .i64 0),(.int .i64 0),(.int .i64 0),(.str []),(.is [] .nil),(.bool false)],none,0,0⟩,⟨none,.store 6 (.t 7) (.t 31),none,1,255⟩]
def f51r9 : List AOper := [⟨some 32,.fieldAddr 0 (.t 7),none,0,0⟩,⟨some 33,.load false 1 (.t 32),none,0,1⟩,⟨some 34,.bin .eql (.t 33) (.c (.int .i64 14)),none,0,3⟩]
def f51r10 : List AOper := [⟨some 35,.move (.t 3),none,0,0⟩,⟨some 36,.fieldAddr 1 (.t 7),none,0,0⟩,⟨some 37,.load false 1 (.t 36),none,0,2⟩,⟨some 38,.idxAddr 1 (.t 35) (.t 37),none,0,7⟩,⟨some 39,.load false 1 (.t 38),none,0,15⟩,⟨some 6,.move (.t 39),none,0,31⟩]
def f51r11 : List AOper := [⟨some 8,.move (.c (.int .i64 0)),none,0,0⟩]
def f51r12 : List AOper := [⟨some 40,.move (.t 8),none,0,0⟩,⟨some 41,.fieldAddr 4 (.t 7),none,0,0⟩,⟨some 42,.load false 1 (.t 41),none,0,2⟩,⟨some 43,.len 1 (.t 42),none,0,6⟩,⟨some 44,.bin .lss (.t 40) (.t 43),none,0,15⟩]
def f51r13 : List AOper := [⟨some 47,.move (.t 6),none,0,0⟩,⟨some 48,.move (.t 47),none,0,1⟩,⟨some 49,.move (.t 3),(some (48,true)),0,3⟩,⟨some 50,.fieldAddr 4 (.t 7),(some (48,true)),0,3⟩,⟨some 51,.load false 1 (.t 50),(some (48,true)),0,11⟩,⟨some 52,.move (.t 8),(some (48,true)),0,3⟩,⟨some 53,.idxAddr 3 (.t 51) (.t 52),(some (48,true)),0,59⟩,⟨some 54,.fieldAddr 1 (.t 53),(some (48,true)),0,123⟩,⟨some 55,.load false 1 (.t 54),(some (48,true)),0,251⟩,⟨some 56,.idxAddr 1 (.t 49) (.t 55),(some (48,true)),0,511⟩,⟨some 57,.load false 1 (.t 56),(some (48,true)),0,1023⟩,⟨some 58,.pick (.t 48) (.t 57) (.c (.bool false)),none,0,2047⟩,⟨some 6,.move (.t 58),none,0,4095⟩]
def f51r14 : List AOper := [⟨some 45,.move (.t 8),none,0,0⟩,⟨some 46,.bin .add (.t 45) (.c (.int .i64 1)),none,0,1⟩,⟨some 8,.move (.t 46),none,0,3⟩]
def f51m12 : ACode :=
 .seq (.seq (.region false f51r12 [0,3,4,5,6,7,8,44] 0)
 (.cond (.t 44)
  (.skip)
  (.exit 4)))
 (.seq (.block 5 (.region false f51r13 [0,3,4,5,6,7,8] 0))
 (.region false f51r14 [0,3,4,5,6,7,8] 0))
def f51l12 : ACode := f51m12
theorem f51l12_b {A : Tab} {nt : Nat} {e : Env} {h : Heap} : Brun A nt f51l12 e h = Brun A nt f51m12 e h := rfl
def f51r15 : List AOper := [⟨some 59,.move (.t 6),none,0,0⟩,⟨some 60,.move (.t 59),none,0,1⟩,⟨some 61,.move (.t 3),(some (60,true)),0,3⟩,⟨some 62,.move (.t 5),(some (60,true)),0,3⟩,⟨some 63,.idxAddr 1 (.t 61) (.t 62),(some (60,true)),0,15⟩,⟨some 64,.load false 1 (.t 63),(some (60,true)),0,31⟩,⟨some 65,.un .not (.t 64),(some (60,true)),0,63⟩,⟨some 66,.pick (.t 60) (.t 65) (.c (.bool false)),none,0,127⟩]
def f51r16 : List AOper := [⟨some 67,.move (.t 3),none,0,0⟩,⟨some 68,.move (.t 5),none,0,0⟩,⟨some 69,.idxAddr 1 (.t 67) (.t 68),none,0,3⟩,⟨none,.store 1 (.t 69) (.c (.bool true)),none,0,7⟩]
def f51r17 : List AOper := [⟨some 4,.move (.c (.bool true)),none,0,0⟩]
def f51r18 : List AOper := [⟨some 23,.move (.t 5),none,0,0⟩,⟨some 24,.bin .add (.t 23) (.c (.int .i64 1)),none,0,1⟩,⟨some 5,.move (.t 24),none,0,3⟩]
def f51m6 : ACode :=
 .seq (.seq (.region false f51r6 [0,3,4,5,22] 0)
 (.cond (.t 22)
  (.skip)
  (.exit 2)))
 (.seq (.block 3 (.seq (.region false f51r7 [0,3,4,5,6] 0)
  (.seq (.region false f51r8 [0,3,4,5,6,7] 1)
  (.seq (.seq (.region false f51r9 [0,3,4,5,6,7,34] 0)
  (.cond (.t 34)
   (.region false f51r10 [0,3,4,5,6,7] 0)
   (.skip)))
  (.seq (.seq (.region false f51r11 [0,3,4,5,6,7,8] 0)
  (.block 4 (.loop f51l12)))
  (.seq (.region false f51r15 [0,3,4,5,66] 0)
  (.cond (.t 66)
   (.seq (.region false f51r16 [0,3,5] 0)
   (.region false f51r17 [0,3,4,5] 0))
   (.skip))))))))
 (.region false f51r18 [0,3,4,5] 0))
def f51l6 : ACode := f51m6
theorem f51l6_b {A : Tab} {nt : Nat} {e : Env} {h : Heap} : Brun A nt f51l6 e h = Brun A nt f51m6 e h := rfl
def f51m3 : ACode :=
 .seq (.seq (.region false f51r3 [0,3,15] 0)
 (.cond (.t 15)
  (.skip)
  (.exit 0)))
 (.block 1 (.seq (.region false f51r4 [0,3,4] 0)
  (.seq (.region false f51r5 [0,3,4,5] 0)
  (.block 2 (.loop f51l6)))))
def f51l3 : ACode := f51m3
theorem f51l3_b {A : Tab} {nt : Nat} {e : Env} {h : Heap} : Brun A nt f51l3 e h = Brun A nt f51m3 e h := rfl
def f51r19 : List AOper := [⟨some 70,.move (.t 3),none,0,0⟩,⟨some 2,.move (.t 70),none,0,1⟩]
def f51c : ACode :=
 .seq (.region false f51r0 [0] 0)
 (.seq (.region false f51r1 [0,3] 1)
 (.seq (.region false f51r2 [0,3,4] 0)
 (.seq (.block 0 (.loop f51l3))
 (.seq (.region false f51r19 [2] 0)
 (.ret)))))
def f51 : AFn := ⟨1,71,[.tmp 2],f51c,1,none⟩
def f51k : List (Nat × List Nat) := [(0,[0]),(1,[0,3]),(2,[0,3,4]),(3,[0,3,15]),(4,[0,3,4]),(5,[0,3,4,5]),(6,[0,3,4,5,22]),(8,[0,3,4,5,6]),(9,[0,3,4,5,6,7]),(10,[0,3,4,5,6,7,34]),(11,[0,3,4,5,6,7]),(12,[0,3,4,5,6,7,8]),(13,[0,3,4,5,6,7,8,44]),(15,[0,3,4,5,6,7,8]),(14,[0,3,4,5,6,7,8]),(16,[0,3,4,5,66]),(17,[0,3,5]),(18,[0,3,4,5]),(7,[0,3,4,5]),(19,[2])]
def f51v : List Nat := []
def f54r0 : List AOper := [⟨some 2,.move (.c (.int .i64 0)),none,0,0⟩]
def f54r1 : List AOper := [⟨some 3,.move (.t 0),none,0,0⟩,⟨some 4,.call (.c (.fn 29 [] [])) [(.t 3)],none,0,1⟩,⟨some 5,.un .not (.t 4),none,0,3⟩]
def f54r2 : List AOper := [⟨some 2,.move (.c (.int .i64 0)),none,0,0⟩]
def f54r3 : List AOper := [⟨some 6,.move (.t 0),none,0,0⟩,⟨some 7,.nilCheck (.t 6),none,0,1⟩,⟨some 8,.fieldAddr 0 (.t 7),none,0,3⟩,⟨some 9,.load false 1 (.t 8),none,0,7⟩,⟨some 10,.len 1 (.t 9),none,0,15⟩,⟨some 2,.move (.t 10),none,0,31⟩]
def f54c : ACode :=
 .seq (.region false f54r0 [0] 0)
 (.seq (.seq (.region false f54r1 [0,5] 0)
 (.cond (.t 5)
  (.seq (.region false f54r2 [2] 0)
  (.ret))
  (.skip)))
 (.seq (.region false f54r3 [2] 0)
 (.ret)))
def f54 : AFn := ⟨1,11,[.tmp 2],f54c,1,none⟩
def f54k : List (Nat × List Nat) := [(0,[0]),(1,[0,5]),(2,[2]),(3,[2])]
def f54v : List Nat := []
def f58r0 : List AOper := [⟨some 2,.move (.c (.bool false)),none,0,0⟩]
def f58r1 : List AOper := [⟨some 6,.move (.t 0),none,0,0⟩,⟨some 7,.call (.c (.fn 74 [] [])) [(.t 6),(.c (.str [35]))],none,0,1⟩,⟨some 5,.move (.t 7),none,0,3⟩,⟨some 8,.extract (.t 5) 0,none,0,7⟩,⟨some 9,.extract (.t 5) 1,none,0,7⟩,⟨some 3,.move (.t 8),none,0,15⟩,⟨some 4,.move (.t 9),none,0,63⟩]
def f58r2 : List AOper := [⟨some 10,.move (.t 4),none,0,0⟩]
def f58r3 : List AOper := [⟨some 11,.move (.t 3),none,0,0⟩,⟨some 12,.bin .neq (.t 11) (.c (.str [])),none,0,1⟩,⟨some 13,.move (.t 12),none,0,3⟩,⟨some 14,.move (.t 3),(some (13,true)),0,7⟩,⟨some 15,.len 0 (.t 14),(some (13,true)),0,15⟩,⟨some 16,.bin .leq (.t 15) (.c (.int .i64 9)),(some (13,true)),0,31⟩,⟨some 17,.pick (.t 13) (.t 16) (.c (.bool false)),none,0,63⟩,⟨some 18,.move (.t 17),none,0,127⟩,⟨some 19,.move (.t 3),(some (18,true)),0,255⟩,⟨some 20,.call (.c (.fn 75 [] [])) [(.t 19),(.c (.str [48,49,50,51,52,53,54,55,56,57]))],(some (18,true)),0,511⟩,⟨some 21,.bin .eql (.t 20) (.c (.str [])),(some (18,true)),0,1023⟩,⟨some 22,.pick (.t 18) (.t 21) (.c (.bool false)),none,0,2047⟩,⟨some 2,.move (.t 22),none,0,4095⟩]
def f58r4 : List AOper := [⟨some 23,.move (.t 0),none,0,0⟩,⟨some 24,.call (.c (.fn 62 [] [])) [(.t 23)],none,0,1⟩,⟨some 2,.move (.t 24),none,0,3⟩]
def f58c : ACode :=
 .seq (.region false f58r0 [0] 0)
 (.seq (.seq (.region false f58r1 [0,3,4] 0)
 (.seq (.region false f58r2 [0,3,10] 0)
 (.cond (.t 10)
  (.seq (.region false f58r3 [2] 0)
  (.ret))
  (.skip))))
 (.seq (.region false f58r4 [2] 0)
 (.ret)))
def f58 : AFn := ⟨1,25,[.tmp 2],f58c,1,none⟩
def f58k : List (Nat × List Nat) := [(0,[0]),(1,[0,3,4]),(2,[0,3,10]),(3,[2]),(4,[2])]
def f58v : List Nat := []
def f59r0 : List AOper := [⟨some 3,.box true (.t 1),none,0,0⟩,⟨some 4,.move (.c (.int .i64 0)),none,0,0⟩,⟨some 5,.move (.c (.int .i64 0)),none,0,2⟩]
def f59r1 : List AOper := [⟨some 6,.move (.t 0),none,0,0⟩,⟨some 7,.nilCheck (.t 6),none,0,1⟩,⟨some 8,.fieldAddr 0 (.t 7),none,0,3⟩,⟨some 9,.load false 1 (.t 8),none,0,7⟩,⟨some 10,.len 1 (.t 9),none,0,15⟩,⟨some 11,.bin .geq (.t 10) (.c (.int .i64 512)),none,0,31⟩]
def f59r2 : List AOper := [⟨some 4,.move (.c (.int .i64 0)),none,0,0⟩,⟨some 5,.move (.c (.int .i64 32)),none,0,1⟩]
def f59r3 : List AOper := [⟨some 12,.move (.t 0),none,0,0⟩,⟨some 13,.move (.t 0),none,0,0⟩,⟨some 14,.nilCheck (.t 13),none,0,2⟩,⟨some 15,.fieldAddr 0 (.t 14),none,0,6⟩,⟨some 16,.load false 1 (.t 15),none,0,14⟩,⟨some 17,.load true 6 (.t 3),none,0,0⟩,⟨some 18,.buildSlice false 6 1 [(.int .i64 0),(.int .i64 0),(.int .i64 0),(.str []),(.is [] .nil),(.bool false)] [(0,6,(.t 17))],none,0,32⟩,⟨some 19,.append false 6 72 (.t 16) (.t 18),none,1,126⟩,⟨some 20,.nilCheck (.t 12),none,2,255⟩,⟨some 21,.fieldAddr 0 (.t 20),none,2,511⟩,⟨none,.store 1 (.t 21) (.t 19),none,2,1023⟩]
def f59r4 : List AOper := [⟨some 22,.move (.t 0),none,0,0⟩,⟨some 23,.nilCheck (.t 22),none,0,1⟩,⟨some 24,.fieldAddr 0 (.t 23),none,0,3⟩,⟨some 25,.load false 1 (.t 24),none,0,7⟩,⟨some 26,.len 1 (.t 25),none,0,15⟩,⟨some 27,.bin .sub (.t 26) (.c (.int .i64 1)),none,0,31⟩,⟨some 4,.move (.t 27),none,0,63⟩,⟨some 5,.move (.c (.int .i64 0)),none,0,127⟩]
def f59c : ACode :=
 .seq (.region false f59r0 [0,3] 0)
 (.seq (.seq (.region false f59r1 [0,3,11] 0)
 (.cond (.t 11)
  (.seq (.region false f59r2 [4,5] 0)
  (.ret))
  (.skip)))
 (.seq (.region true f59r3 [0] 2)
 (.seq (.region false f59r4 [4,5] 0)
 (.ret))))
def f59 : AFn := ⟨2,28,[.tmp 4,.tmp 5],f59c,1,none⟩
def f59k : List (Nat × List Nat) := [(0,[0,3]),(1,[0,3,11]),(2,[4,5]),(3,[0]),(4,[4,5])]
def f59v : List Nat := [3]
def f60r0 : List AOper := [⟨some 4,.move (.c (.int .i64 0)),none,0,0⟩]
def f60r1 : List AOper := [⟨some 5,.move (.t 0),none,0,0⟩,⟨some 6,.move (.t 1),none,0,0⟩,⟨some 7,.call (.c (.fn 41 [] [])) [(.t 5),(.t 6)],none,0,3⟩,⟨some 8,.un .not (.t 7),none,0,7⟩]
def f60r2 : List AOper := [⟨some 4,.move (.c (.int .i64 0)),none,0,0⟩]
def f60r3 : List AOper := [⟨some 9,.move (.t 0),none,0,0⟩,⟨some 10,.nilCheck (.t 9),none,0,1⟩,⟨some 11,.fieldAddr 0 (.t 10),none,0,3⟩,⟨some 12,.load false 1 (.t 11),none,0,7⟩,⟨some 13,.move (.t 1),none,0,0⟩,⟨some 14,.idxAddr 6 (.t 12) (.t 13),none,0,31⟩,⟨some 15,.fieldAddr 0 (.t 14),none,0,63⟩,⟨some 16,.load false 1 (.t 15),none,0,127⟩,⟨some 4,.move (.t 16),none,0,255⟩]
def f60c : ACode :=
 .seq (.region false f60r0 [0,1] 0)
 (.seq (.seq (.region false f60r1 [0,1,8] 0)
 (.cond (.t 8)
  (.seq (.region false f60r2 [4] 0)
  (.ret))
  (.skip)))
 (.seq (.region false f60r3 [4] 0)
 (.ret)))
def f60 : AFn := ⟨2,17,[.tmp 4],f60c,1,none⟩
def f60k : List (Nat × List Nat) := [(0,[0,1]),(1,[0,1,8]),(2,[4]),(3,[4])]
def f60v : List Nat := []
def f61r0 : List AOper := [⟨some 6,.move (.c (.bool false)),none,0,0⟩]
def f61r1 : List AOper := [⟨some 8,.move (.t 0),none,0,0⟩,⟨some 9,.move (.t 1),none,0,0⟩,⟨some 10,.call (.c (.fn 60 [] [])) [(.t 8),(.t 9)],none,0,3⟩,⟨some 7,.move (.t 10),none,0,7⟩]
def f61r2 : List AOper := [⟨some 11,.move (.t 7),none,0,0⟩,⟨some 12,.bin .lss (.t 11) (.c (.int .i64 2)),none,0,1⟩,⟨some 13,.move (.t 12),none,0,3⟩,⟨some 14,.move (.t 7),(some (13,false)),0,7⟩,⟨some 15,.bin .gtr (.t 14) (.c (.int .i64 12)),(some (13,false)),0,15⟩,⟨some 16,.pick (.t 13) (.c (.bool true)) (.t 15),none,0,31⟩,⟨some 17,.move (.t 16),none,0,63⟩,⟨some 18,.move (.t 2),(some (17,false)),0,127⟩,⟨some 19,.bin .lss (.t 18) (.c (.int .i64 0)),(some (17,false)),0,255⟩,⟨some 20,.pick (.t 17) (.c (.bool true)) (.t 19),none,0,511⟩]
def f61r3 : List AOper := [⟨some 6,.move (.c (.bool false)),none,0,0⟩]
def f61r4 : List AOper := [⟨some 21,.move (.t 7),none,0,0⟩,⟨some 22,.bin .eql (.t 21) (.c (.int .i64 2)),none,0,1⟩]
def f61r5 : List AOper := [⟨some 23,.move (.t 2),none,0,0⟩,⟨some 24,.bin .leq (.t 23) (.c (.int .i64 1)),none,0,1⟩,⟨some 6,.move (.t 24),none,0,3⟩]
def f61r6 : List AOper := [⟨some 25,.move (.t 2),none,0,0⟩,⟨some 26,.move (.t 7),none,0,0⟩,⟨some 27,.call (.c (.fn 66 [] [])) [(.t 26)],none,0,2⟩,⟨some 28,.bin .mul (.c (.int .i64 8)) (.t 27),none,0,6⟩,⟨some 29,.bin .leq (.t 25) (.t 28),none,0,15⟩,⟨some 6,.move (.t 29),none,0,31⟩]
def f61c : ACode :=
 .seq (.region false f61r0 [0,1,2] 0)
 (.seq (.region false f61r1 [2,7] 0)
 (.seq (.seq (.region false f61r2 [2,7,20] 0)
 (.cond (.t 20)
  (.seq (.region false f61r3 [6] 0)
  (.ret))
  (.skip)))
 (.seq (.seq (.region false f61r4 [2,7,22] 0)
 (.cond (.t 22)
  (.seq (.region false f61r5 [6] 0)
  (.ret))
  (.skip)))
 (.seq (.region false f61r6 [6] 0)
 (.ret)))))
def f61 : AFn := ⟨3,30,[.tmp 6],f61c,1,none⟩
def f61k : List (Nat × List Nat) := [(0,[0,1,2]),(1,[2,7]),(2,[2,7,20]),(3,[6]),(4,[2,7,22]),(5,[6]),(6,[6])]
def f61v : List Nat := []
def f62r0 : List AOper := [⟨some 2,.move (.c (.bool false)),none,0,0⟩]
def f62r1 : List AOper := [⟨some 5,.move (.t 0),none,0,0⟩,⟨some 6,.bin .eql (.t 5) (.c (.str [])),none,0,1⟩,⟨some 7,.move (.t 6),none,0,3⟩,⟨some 8,.move (.t 0),(some (7,false)),0,7⟩,⟨some 9,.len 0 (.t 8),(some (7,false)),0,15⟩,⟨some 10,.bin .gtr (.t 9) (.c (.int .i64 63)),(some (7,false)),0,31⟩,⟨some 11,.pick (.t 7) (.c (.bool true)) (.t 10),none,0,63⟩]
def f62r2 : List AOper := [⟨some 2,.move (.c (.bool false)),none,0,0⟩]
def f62r3 : List AOper := [⟨some 12,.move (.t 0),none,0,0⟩,⟨some 13,.len 0 (.t 12),none,0,1⟩,⟨some 14,.move (.c (.int .i64 0)),none,0,0⟩]
def f62r4 : List AOper := [⟨some 15,.bin .lss (.t 14) (.t 13),none,0,0⟩]
def f62r5 : List AOper := [⟨some 16,.move (.t 14),none,0,0⟩,⟨some 3,.move (.t 16),none,0,1⟩]
def f62r6 : List AOper := [⟨some 17,.move (.t 0),none,0,0⟩,⟨some 18,.move (.t 3),none,0,0⟩,⟨some 19,.strIndex (.t 17) (.t 18),none,0,3⟩,⟨some 4,.move (.t 19),none,0,7⟩]
def f62r7 : List AOper := [⟨some 20,.move (.t 4),none,0,0⟩,⟨some 21,.bin .neq (.t 20) (.c (.int .u8 95)),none,0,1⟩,⟨some 22,.move (.t 21),none,0,3⟩,⟨some 23,.move (.t 4),(some (22,true)),0,7⟩,⟨some 24,.bin .or (.t 23) (.c (.int .u8 32)),(some (22,true)),0,15⟩,⟨some 25,.bin .lss (.t 24) (.c (.int .u8 97)),(some (22,true)),0,31⟩,⟨some 26,.move (.t 25),(some (22,true)),0,63⟩,⟨some 27,.move (.t 4),(some (26,false)),0,127⟩,⟨some 28,.bin .or (.t 27) (.c (.int .u8 32)),(some (26,false)),0,255⟩,⟨some 29,.bin .gtr (.t 28) (.c (.int .u8 122)),(some (26,false)),0,511⟩,⟨some 30,.pick (.t 26) (.c (.bool true)) (.t 29),(some (22,true)),0,1023⟩,⟨some 31,.pick (.t 22) (.t 30) (.c (.bool false)),none,0,2047⟩,⟨some 32,.move (.t 31),none,0,4095⟩,⟨some 33,.move (.t 3),(some (32,true)),0,8191⟩,⟨some 34,.bin .eql (.t 33) (.c (.int .i64 0)),(some (32,true)),0,16383⟩,⟨some 35,.move (.t 34),(some (32,true)),0,32767⟩,⟨some 36,.move (.t 4),(some (35,false)),0,65535⟩,⟨some 37,.bin .lss (.t 36) (.c (.int .u8 48)),(some (35,false)),0,131071⟩,⟨some 38,.pick (.t 35) (.c (.bool true)) (.t 37),(some (32,true)),0,262143⟩,⟨some 39,.move (.t 38),(some (32,true)),0,524287⟩,⟨some 40,.move (.t 4),(some (39,false)),0,1048575⟩,⟨some 41,.bin .gtr (.t 40) (.c (.int .u8 57)),(some (39,false)),0,2097151⟩,⟨some 42,.pick (.t 39) (.c (.bool true)) (.t 41),(some (32,true)),0,4194303⟩,⟨some 43,.pick (.t 32) (.t 42) (.c (.bool false)),none,0,8388607⟩]
def f62r8 : List AOper := [⟨some 2,.move (.c (.bool false)),none,0,0⟩]
def f62r9 : List AOper := [⟨some 44,.bin .add (.t 14) (.c (.int .i64 1)),none,0,0⟩,⟨some 14,.move (.t 44),none,0,1⟩]
def f62m4 : ACode :=
 .seq (.region false f62r4 [0,13,14,15] 0)
 (.seq (.cond (.t 15)
  (.skip)
  (.exit 0))
 (.seq (.block 1 (.seq (.region false f62r5 [0,3,13,14] 0)
  (.seq (.region false f62r6 [0,3,4,13,14] 0)
  (.seq (.region false f62r7 [0,13,14,43] 0)
  (.cond (.t 43)
   (.seq (.region false f62r8 [2] 0)
   (.ret))
   (.skip))))))
 (.region false f62r9 [0,13,14] 0)))
def f62l4 : ACode := f62m4
theorem f62l4_b {A : Tab} {nt : Nat} {e : Env} {h : Heap} : Brun A nt f62l4 e h = Brun A nt f62m4 e h := rfl
def f62r10 : List AOper := [⟨some 2,.move (.c (.bool true)),none,0,0⟩]
def f62c : ACode :=
 .seq (.region false f62r0 [0] 0)
 (.seq (.seq (.region false f62r1 [0,11] 0)
 (.cond (.t 11)
  (.seq (.region false f62r2 [2] 0)
  (.ret))
  (.skip)))
 (.seq (.seq (.region false f62r3 [0,13,14] 0)
 (.block 0 (.loop f62l4)))
 (.seq (.region false f62r10 [2] 0)
 (.ret))))
def f62 : AFn := ⟨1,45,[.tmp 2],f62c,1,none⟩
def f62k : List (Nat × List Nat) := [(0,[0]),(1,[0,11]),(2,[2]),(3,[0,13,14]),(4,[0,13,14,15]),(5,[0,3,13,14]),(6,[0,3,4,13,14]),(7,[0,13,14,43]),(8,[2]),(9,[0,13,14]),(10,[2])]
def f62v : List Nat := []
def f63r0 : List AOper := [⟨some 4,.move (.c (.bool false)),none,0,0⟩]
def f63r1 : List AOper := [⟨some 5,.move (.t 1),none,0,0⟩,⟨some 6,.bin .geq (.t 5) (.c (.int .i64 0)),none,0,1⟩,⟨some 7,.move (.t 6),none,0,3⟩,⟨some 8,.move (.t 1),(some (7,true)),0,7⟩,⟨some 9,.move (.t 0),(some (7,true)),0,7⟩,⟨some 10,.nilCheck (.t 9),(some (7,true)),0,23⟩,⟨some 11,.fieldAddr 0 (.t 10),(some (7,true)),0,55⟩,⟨some 12,.load false 1 (.t 11),(some (7,true)),0,119⟩,⟨some 13,.len 1 (.t 12),(some (7,true)),0,247⟩,⟨some 14,.bin .lss (.t 8) (.t 13),(some (7,true)),0,511⟩,⟨some 15,.pick (.t 7) (.t 14) (.c (.bool false)),none,0,1023⟩,⟨some 4,.move (.t 15),none,0,2047⟩]
def f63c : ACode :=
 .seq (.region false f63r0 [0,1] 0)
 (.seq (.region false f63r1 [4] 0)
 (.ret))
def f63 : AFn := ⟨2,16,[.tmp 4],f63c,1,none⟩
def f63k : List (Nat × List Nat) := [(0,[0,1]),(1,[4])]
def f63v : List Nat := []
end Go.Proofs.YtfhijkapcdmdnaaDoor
