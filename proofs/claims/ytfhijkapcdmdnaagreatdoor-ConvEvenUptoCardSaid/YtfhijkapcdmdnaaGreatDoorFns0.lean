/- The seat's functions as the machine's, part 0. Printed by a program. -/
import Derived.Test.YtfhijkapcdmdnaaGreatDoorLib
namespace Go.Proofs.YtfhijkapcdmdnaaGreatDoor
open Go.AM
set_option maxRecDepth 100000
def f3r0 : List AOper := [⟨some 6, .move (.c (.bool false)), none, 0, 0⟩]
def f3r1 : List AOper := [⟨some 17, .move (.t 0), none, 0, 0⟩, ⟨some 18, .call (.c (.fn 6 [] [])) [(.t 17)], none, 0, 1⟩, ⟨some 16, .move (.t 18), none, 0, 3⟩, ⟨some 19, .extract (.t 16) 0, none, 0, 7⟩, ⟨some 20, .extract (.t 16) 1, none, 0, 7⟩, ⟨some 21, .extract (.t 16) 2, none, 0, 7⟩, ⟨some 7, .move (.t 19), none, 0, 15⟩, ⟨some 8, .move (.t 20), none, 0, 95⟩, ⟨some 9, .move (.t 21), none, 0, 255⟩]
def f3r2 : List AOper := [⟨some 22, .move (.t 9), none, 0, 0⟩, ⟨some 23, .un .not (.t 22), none, 0, 1⟩, ⟨some 24, .move (.t 23), none, 0, 3⟩, ⟨some 25, .move (.t 8), (some (24, false)), 0, 7⟩, ⟨some 26, .move (.t 1), (some (24, false)), 0, 7⟩, ⟨some 27, .call (.c (.fn 7 [] [])) [(.t 25), (.t 26)], (some (24, false)), 0, 31⟩, ⟨some 28, .un .not (.t 27), (some (24, false)), 0, 63⟩, ⟨some 29, .pick (.t 24) (.c (.bool true)) (.t 28), none, 0, 127⟩, ⟨some 30, .move (.t 29), none, 0, 255⟩, ⟨some 31, .move (.t 8), (some (30, false)), 0, 511⟩, ⟨some 32, .move (.t 2), (some (30, false)), 0, 511⟩, ⟨some 33, .call (.c (.fn 7 [] [])) [(.t 31), (.t 32)], (some (30, false)), 0, 2047⟩, ⟨some 34, .un .not (.t 33), (some (30, false)), 0, 4095⟩, ⟨some 35, .pick (.t 30) (.c (.bool true)) (.t 34), none, 0, 8191⟩]
def f3r3 : List AOper := [⟨some 36, .call (.c (.fn 8 [] [])) [], none, 0, 0⟩, ⟨some 6, .move (.t 36), none, 0, 1⟩]
def f3r4 : List AOper := [⟨some 38, .move (.t 8), none, 0, 0⟩, ⟨some 39, .move (.t 1), none, 0, 0⟩, ⟨some 40, .call (.c (.fn 10 [] [])) [(.t 38), (.t 39)], none, 0, 3⟩, ⟨some 41, .move (.t 8), none, 0, 0⟩, ⟨some 42, .move (.t 2), none, 0, 0⟩, ⟨some 43, .call (.c (.fn 10 [] [])) [(.t 41), (.t 42)], none, 0, 31⟩, ⟨some 44, .call (.c (.fn 9 [] [])) [(.t 40), (.t 43)], none, 0, 63⟩, ⟨some 37, .move (.t 44), none, 0, 127⟩, ⟨some 45, .extract (.t 37) 0, none, 0, 255⟩, ⟨some 46, .extract (.t 37) 1, none, 0, 255⟩, ⟨some 10, .move (.t 45), none, 0, 511⟩, ⟨some 11, .move (.t 46), none, 0, 2047⟩]
def f3r5 : List AOper := [⟨some 48, .move (.t 8), none, 0, 0⟩, ⟨some 49, .move (.t 2), none, 0, 0⟩, ⟨some 50, .call (.c (.fn 10 [] [])) [(.t 48), (.t 49)], none, 0, 3⟩, ⟨some 51, .move (.t 8), none, 0, 0⟩, ⟨some 52, .move (.t 1), none, 0, 0⟩, ⟨some 53, .call (.c (.fn 10 [] [])) [(.t 51), (.t 52)], none, 0, 31⟩, ⟨some 54, .call (.c (.fn 9 [] [])) [(.t 50), (.t 53)], none, 0, 63⟩, ⟨some 47, .move (.t 54), none, 0, 127⟩, ⟨some 55, .extract (.t 47) 0, none, 0, 255⟩, ⟨some 56, .extract (.t 47) 1, none, 0, 255⟩, ⟨some 12, .move (.t 55), none, 0, 511⟩, ⟨some 13, .move (.t 56), none, 0, 2047⟩]
def f3r6 : List AOper := [⟨some 57, .move (.t 10), none, 0, 0⟩, ⟨some 58, .move (.t 12), none, 0, 0⟩, ⟨some 59, .bin .neq (.t 57) (.t 58), none, 0, 3⟩, ⟨some 60, .move (.t 59), none, 0, 7⟩, ⟨some 61, .move (.t 11), (some (60, false)), 0, 15⟩, ⟨some 62, .move (.t 13), (some (60, false)), 0, 15⟩, ⟨some 63, .bin .neq (.t 61) (.t 62), (some (60, false)), 0, 63⟩, ⟨some 64, .pick (.t 60) (.c (.bool true)) (.t 63), none, 0, 127⟩, ⟨some 65, .move (.t 64), none, 0, 255⟩, ⟨some 66, .move (.t 11), (some (65, false)), 0, 511⟩, ⟨some 67, .bin .eql (.t 66) (.c (.int .i64 0)), (some (65, false)), 0, 1023⟩, ⟨some 68, .move (.t 8), (some (65, false)), 0, 511⟩, ⟨some 69, .move (.t 1), (some (65, false)), 0, 511⟩, ⟨some 70, .call (.c (.fn 11 [] [])) [(.t 68), (.t 69)], (some (65, false)), 0, 6655⟩, ⟨some 71, .move (.t 70), (some (65, false)), 0, 14847⟩, ⟨some 72, .move (.t 8), (some (71, true)), 0, 31231⟩, ⟨some 73, .move (.t 2), (some (71, true)), 0, 31231⟩, ⟨some 74, .call (.c (.fn 11 [] [])) [(.t 72), (.t 73)], (some (71, true)), 0, 129535⟩, ⟨some 75, .pick (.t 71) (.t 74) (.c (.bool false)), (some (65, false)), 0, 260607⟩, ⟨some 76, .eq true .bool (.t 67) (.t 75), (some (65, false)), 0, 524287⟩, ⟨some 77, .pick (.t 65) (.c (.bool true)) (.t 76), none, 0, 1048575⟩]
def f3r7 : List AOper := [⟨some 6, .move (.c (.bool false)), none, 0, 0⟩]
def f3r8 : List AOper := [⟨some 78, .move (.t 11), none, 0, 0⟩, ⟨some 79, .bin .eql (.t 78) (.c (.int .i64 0)), none, 0, 1⟩, ⟨some 80, .move (.t 79), none, 0, 3⟩, ⟨some 81, .move (.t 10), (some (80, true)), 0, 7⟩, ⟨some 82, .bin .neq (.t 81) (.c (.int .i64 8)), (some (80, true)), 0, 15⟩, ⟨some 83, .pick (.t 80) (.t 82) (.c (.bool false)), none, 0, 31⟩, ⟨some 84, .move (.t 83), none, 0, 63⟩, ⟨some 85, .move (.t 10), (some (84, true)), 0, 127⟩, ⟨some 86, .bin .neq (.t 85) (.c (.int .i64 9)), (some (84, true)), 0, 255⟩, ⟨some 87, .pick (.t 84) (.t 86) (.c (.bool false)), none, 0, 511⟩, ⟨some 88, .move (.t 87), none, 0, 1023⟩, ⟨some 89, .move (.t 10), (some (88, true)), 0, 2047⟩, ⟨some 90, .bin .neq (.t 89) (.c (.int .i64 10)), (some (88, true)), 0, 4095⟩, ⟨some 91, .pick (.t 88) (.t 90) (.c (.bool false)), none, 0, 8191⟩, ⟨some 92, .move (.t 91), none, 0, 16383⟩, ⟨some 93, .move (.t 10), (some (92, true)), 0, 32767⟩, ⟨some 94, .bin .neq (.t 93) (.c (.int .i64 11)), (some (92, true)), 0, 65535⟩, ⟨some 95, .pick (.t 92) (.t 94) (.c (.bool false)), none, 0, 131071⟩]
def f3r9 : List AOper := [⟨some 6, .move (.c (.bool false)), none, 0, 0⟩]
def f3r10 : List AOper := [⟨some 96, .move (.t 8), none, 0, 0⟩, ⟨some 97, .move (.t 1), none, 0, 0⟩, ⟨some 98, .call (.c (.fn 11 [] [])) [(.t 96), (.t 97)], none, 0, 3⟩]
def f3r11 : List AOper := [⟨some 100, .move (.t 8), none, 0, 0⟩, ⟨some 101, .move (.t 1), none, 0, 0⟩, ⟨some 102, .call (.c (.fn 10 [] [])) [(.t 100), (.t 101)], none, 0, 3⟩, ⟨some 103, .move (.t 8), none, 0, 0⟩, ⟨some 104, .move (.t 1), none, 0, 0⟩, ⟨some 105, .call (.c (.fn 10 [] [])) [(.t 103), (.t 104)], none, 0, 31⟩, ⟨some 106, .call (.c (.fn 9 [] [])) [(.t 102), (.t 105)], none, 0, 63⟩, ⟨some 99, .move (.t 106), none, 0, 127⟩, ⟨some 107, .extract (.t 99) 0, none, 0, 255⟩, ⟨some 108, .extract (.t 99) 1, none, 0, 255⟩, ⟨some 14, .move (.t 107), none, 0, 511⟩, ⟨some 15, .move (.t 108), none, 0, 2047⟩]
def f3r12 : List AOper := [⟨some 109, .move (.t 15), none, 0, 0⟩, ⟨some 110, .bin .neq (.t 109) (.c (.int .i64 0)), none, 0, 1⟩, ⟨some 111, .move (.t 110), none, 0, 3⟩, ⟨some 112, .move (.t 14), (some (111, false)), 0, 7⟩, ⟨some 113, .move (.t 8), (some (111, false)), 0, 7⟩, ⟨some 114, .move (.t 1), (some (111, false)), 0, 7⟩, ⟨some 115, .call (.c (.fn 10 [] [])) [(.t 113), (.t 114)], (some (111, false)), 0, 55⟩, ⟨some 116, .call (.c (.fn 12 [] [])) [(.t 115), (.c (.int .i64 (-1)))], (some (111, false)), 0, 119⟩, ⟨some 117, .bin .neq (.t 112) (.t 116), (some (111, false)), 0, 255⟩, ⟨some 118, .pick (.t 111) (.c (.bool true)) (.t 117), none, 0, 511⟩]
def f3r13 : List AOper := [⟨some 6, .move (.c (.bool false)), none, 0, 0⟩]
def f3r14 : List AOper := [⟨some 119, .move (.t 8), none, 0, 0⟩, ⟨some 120, .move (.t 1), none, 0, 0⟩, ⟨some 121, .call (.c (.fn 13 [] [])) [(.t 119), (.t 120)], none, 0, 3⟩, ⟨some 122, .move (.t 121), none, 0, 7⟩, ⟨some 123, .move (.t 7), (some (122, true)), 0, 15⟩, ⟨some 124, .move (.t 1), (some (122, true)), 0, 15⟩, ⟨some 125, .move (.t 1), (some (122, true)), 0, 15⟩, ⟨some 126, .call (.c (.fn 14 [] [])) [(.t 123), (.t 124), (.t 125)], (some (122, true)), 0, 127⟩, ⟨some 127, .bin .neq (.t 126) (.c (.int .i64 0)), (some (122, true)), 0, 255⟩, ⟨some 128, .pick (.t 122) (.t 127) (.c (.bool false)), none, 0, 511⟩]
def f3r15 : List AOper := [⟨some 6, .move (.c (.bool false)), none, 0, 0⟩]
def f3r16 : List AOper := [⟨some 129, .move (.t 7), none, 0, 0⟩, ⟨some 130, .move (.t 1), none, 0, 0⟩, ⟨some 131, .move (.t 2), none, 0, 0⟩, ⟨some 132, .call (.c (.fn 14 [] [])) [(.t 129), (.t 130), (.t 131)], none, 0, 7⟩, ⟨some 133, .bin .neq (.t 132) (.c (.int .i64 0)), none, 0, 15⟩, ⟨some 134, .move (.t 133), none, 0, 31⟩, ⟨some 135, .move (.t 7), (some (134, false)), 0, 63⟩, ⟨some 136, .move (.t 1), (some (134, false)), 0, 63⟩, ⟨some 137, .move (.t 2), (some (134, false)), 0, 63⟩, ⟨some 138, .call (.c (.fn 15 [] [])) [(.t 135), (.t 136), (.t 137)], (some (134, false)), 0, 511⟩, ⟨some 139, .bin .eql (.t 138) (.c (.int .i64 0)), (some (134, false)), 0, 1023⟩, ⟨some 140, .pick (.t 134) (.c (.bool true)) (.t 139), none, 0, 2047⟩, ⟨some 141, .move (.t 140), none, 0, 4095⟩, ⟨some 142, .move (.t 8), (some (141, false)), 0, 8191⟩, ⟨some 143, .move (.t 1), (some (141, false)), 0, 8191⟩, ⟨some 144, .call (.c (.fn 16 [] [])) [(.t 142), (.t 143)], (some (141, false)), 0, 32767⟩, ⟨some 145, .pick (.t 141) (.c (.bool true)) (.t 144), none, 0, 65535⟩, ⟨some 146, .move (.t 145), none, 0, 131071⟩, ⟨some 147, .call (.c (.fn 8 [] [])) [], (some (146, true)), 0, 262143⟩, ⟨some 148, .pick (.t 146) (.t 147) (.c (.bool false)), none, 0, 524287⟩, ⟨some 6, .move (.t 148), none, 0, 1048575⟩]
def f3c : ACode :=
 .seq (.region false f3r0 [0, 1, 2] 0)
 (.seq (.region false f3r1 [1, 2, 7, 8, 9] 0)
 (.seq (.seq (.region false f3r2 [1, 2, 7, 8, 35] 0)
 (.cond (.t 35)
  (.seq (.region false f3r3 [6] 0)
  (.ret))
  (.skip)))
 (.seq (.region false f3r4 [1, 2, 7, 8, 10, 11] 0)
 (.seq (.region false f3r5 [1, 2, 7, 8, 10, 11, 12, 13] 0)
 (.seq (.seq (.region false f3r6 [1, 2, 7, 8, 10, 11, 77] 0)
 (.cond (.t 77)
  (.seq (.region false f3r7 [6] 0)
  (.ret))
  (.skip)))
 (.seq (.seq (.region false f3r8 [1, 2, 7, 8, 95] 0)
 (.cond (.t 95)
  (.seq (.region false f3r9 [6] 0)
  (.ret))
  (.skip)))
 (.seq (.seq (.region false f3r10 [1, 2, 7, 8, 98] 0)
 (.cond (.t 98)
  (.seq (.region false f3r11 [1, 2, 7, 8, 14, 15] 0)
  (.seq (.region false f3r12 [1, 2, 7, 8, 118] 0)
  (.cond (.t 118)
   (.seq (.region false f3r13 [6] 0)
   (.ret))
   (.skip))))
  (.skip)))
 (.seq (.seq (.region false f3r14 [1, 2, 7, 8, 128] 0)
 (.cond (.t 128)
  (.seq (.region false f3r15 [6] 0)
  (.ret))
  (.skip)))
 (.seq (.region false f3r16 [6] 0)
 (.ret))))))))))
def f3 : AFn := ⟨3, 149, [.tmp 6], f3c, 1, none⟩
def f3k : List (Nat × List Nat) := [(0, [0, 1, 2]), (1, [1, 2, 7, 8, 9]), (2, [1, 2, 7, 8, 35]), (3, [6]), (4, [1, 2, 7, 8, 10, 11]), (5, [1, 2, 7, 8, 10, 11, 12, 13]), (6, [1, 2, 7, 8, 10, 11, 77]), (7, [6]), (8, [1, 2, 7, 8, 95]), (9, [6]), (10, [1, 2, 7, 8, 98]), (11, [1, 2, 7, 8, 14, 15]), (12, [1, 2, 7, 8, 118]), (13, [6]), (14, [1, 2, 7, 8, 128]), (15, [6]), (16, [6])]
def f3v : List Nat := []
def f6r0 : List AOper := [⟨some 2, .move (.c .nilp), none, 0, 0⟩, ⟨some 3, .move (.c .nilp), none, 0, 1⟩, ⟨some 4, .move (.c (.bool false)), none, 0, 3⟩]
def f6r1 : List AOper := [⟨some 10, .move (.t 0), none, 0, 0⟩, ⟨some 11, .call (.c (.fn 32 [] [])) [(.t 10)], none, 0, 1⟩, ⟨some 9, .move (.t 11), none, 0, 3⟩, ⟨some 12, .extract (.t 9) 0, none, 0, 7⟩, ⟨some 13, .extract (.t 9) 1, none, 0, 7⟩, ⟨some 5, .move (.t 12), none, 0, 15⟩, ⟨some 6, .move (.t 13), none, 0, 63⟩]
def f6r2 : List AOper := [⟨some 14, .move (.t 6), none, 0, 0⟩, ⟨some 15, .bin .neq (.t 14) (.c (.int .i64 0)), none, 0, 1⟩]
def f6r3 : List AOper := [⟨some 2, .move (.c .nilp), none, 0, 0⟩, ⟨some 3, .move (.c .nilp), none, 0, 1⟩, ⟨some 4, .move (.c (.bool false)), none, 0, 3⟩]
def f6r4 : List AOper := [⟨some 17, .move (.t 0), none, 0, 0⟩, ⟨some 18, .build [(.is [] .nil)] [(0, 1, (.t 17))], none, 0, 1⟩, ⟨some 19, .box false (.t 18), none, 0, 3⟩, ⟨some 20, .call (.c (.fn 34 [] [])) [(.t 19)], none, 1, 7⟩, ⟨some 21, .nilCheck (.t 20), none, 1, 15⟩, ⟨some 22, .fieldAddr 0 (.t 21), none, 1, 31⟩, ⟨some 23, .load false 1 (.t 22), none, 1, 63⟩, ⟨some 24, .call (.c (.fn 33 [] [])) [(.t 23)], none, 1, 127⟩, ⟨some 16, .move (.t 24), none, 1, 255⟩, ⟨some 25, .extract (.t 16) 0, none, 1, 511⟩, ⟨some 26, .extract (.t 16) 1, none, 1, 511⟩, ⟨some 7, .move (.t 25), none, 1, 1023⟩, ⟨some 8, .move (.t 26), none, 1, 4095⟩]
def f6r5 : List AOper := [⟨some 27, .move (.t 7), none, 0, 0⟩, ⟨some 28, .move (.t 5), none, 0, 0⟩, ⟨some 2, .move (.t 27), none, 0, 1⟩, ⟨some 3, .move (.t 28), none, 0, 7⟩, ⟨some 4, .move (.c (.bool true)), none, 0, 15⟩]
def f6c : ACode :=
 .seq (.region false f6r0 [0] 0)
 (.seq (.region false f6r1 [0, 5, 6] 0)
 (.seq (.seq (.region false f6r2 [0, 5, 15] 0)
 (.cond (.t 15)
  (.seq (.region false f6r3 [2, 3, 4] 0)
  (.ret))
  (.skip)))
 (.seq (.region false f6r4 [5, 7] 1)
 (.seq (.region false f6r5 [2, 3, 4] 0)
 (.ret)))))
def f6 : AFn := ⟨1, 29, [.tmp 2, .tmp 3, .tmp 4], f6c, 0, none⟩
def f6k : List (Nat × List Nat) := [(0, [0]), (1, [0, 5, 6]), (2, [0, 5, 15]), (3, [2, 3, 4]), (4, [5, 7]), (5, [2, 3, 4])]
def f6v : List Nat := []
def f7r0 : List AOper := [⟨some 4, .move (.c (.bool false)), none, 0, 0⟩]
def f7r1 : List AOper := [⟨some 5, .move (.t 1), none, 0, 0⟩, ⟨some 6, .bin .geq (.t 5) (.c (.int .i64 0)), none, 0, 1⟩, ⟨some 7, .move (.t 6), none, 0, 3⟩, ⟨some 8, .move (.t 1), (some (7, true)), 0, 7⟩, ⟨some 9, .move (.t 0), (some (7, true)), 0, 7⟩, ⟨some 10, .nilCheck (.t 9), (some (7, true)), 0, 23⟩, ⟨some 11, .fieldAddr 0 (.t 10), (some (7, true)), 0, 55⟩, ⟨some 12, .load false 1 (.t 11), (some (7, true)), 0, 119⟩, ⟨some 13, .len 1 (.t 12), (some (7, true)), 0, 247⟩, ⟨some 14, .bin .lss (.t 8) (.t 13), (some (7, true)), 0, 511⟩, ⟨some 15, .pick (.t 7) (.t 14) (.c (.bool false)), none, 0, 1023⟩, ⟨some 4, .move (.t 15), none, 0, 2047⟩]
def f7c : ACode :=
 .seq (.region false f7r0 [0, 1] 0)
 (.seq (.region false f7r1 [4] 0)
 (.ret))
def f7 : AFn := ⟨2, 16, [.tmp 4], f7c, 1, none⟩
def f7k : List (Nat × List Nat) := [(0, [0, 1]), (1, [4])]
def f7v : List Nat := []
def f8r0 : List AOper := [⟨some 0, .move (.c (.bool false)), none, 0, 0⟩]
def f8r1 : List AOper := [⟨some 22, .call (.c (.fn 35 [] [])) [], none, 0, 0⟩, ⟨some 1, .move (.t 22), none, 0, 1⟩]
def f8r2 : List AOper := [⟨some 24, .move (.t 1), none, 0, 0⟩, ⟨some 25, .call (.c (.fn 36 [] [])) [(.t 24), (.c (.int .i64 7))], none, 0, 1⟩, ⟨some 23, .move (.t 25), none, 0, 3⟩, ⟨some 26, .extract (.t 23) 0, none, 0, 7⟩, ⟨some 27, .extract (.t 23) 1, none, 0, 7⟩, ⟨some 2, .move (.t 26), none, 0, 15⟩, ⟨some 3, .move (.t 27), none, 0, 63⟩]
def f8r3 : List AOper := [⟨some 29, .move (.t 1), none, 0, 0⟩, ⟨some 30, .call (.c (.fn 36 [] [])) [(.t 29), (.c (.int .i64 2))], none, 0, 1⟩, ⟨some 28, .move (.t 30), none, 0, 3⟩, ⟨some 31, .extract (.t 28) 0, none, 0, 7⟩, ⟨some 32, .extract (.t 28) 1, none, 0, 7⟩, ⟨some 4, .move (.t 31), none, 0, 15⟩, ⟨some 5, .move (.t 32), none, 0, 63⟩]
def f8r4 : List AOper := [⟨some 34, .call (.c (.fn 9 [] [])) [(.c (.int .i64 10)), (.c (.int .i64 9))], none, 0, 0⟩, ⟨some 33, .move (.t 34), none, 0, 1⟩, ⟨some 35, .extract (.t 33) 0, none, 0, 3⟩, ⟨some 36, .extract (.t 33) 1, none, 0, 3⟩, ⟨some 6, .move (.t 35), none, 0, 7⟩, ⟨some 7, .move (.t 36), none, 0, 31⟩]
def f8r5 : List AOper := [⟨some 38, .move (.t 1), none, 0, 0⟩, ⟨some 39, .move (.t 2), none, 0, 0⟩, ⟨some 40, .call (.c (.fn 17 [] [])) [(.t 38), (.c (.str [43])), (.t 39), (.c (.int .i64 2))], none, 0, 3⟩, ⟨some 37, .move (.t 40), none, 0, 7⟩, ⟨some 41, .extract (.t 37) 0, none, 0, 15⟩, ⟨some 42, .extract (.t 37) 1, none, 0, 15⟩, ⟨some 8, .alloc false (List.replicate 5 (.int .i64 0)), none, 0, 0⟩, ⟨none, .store 5 (.t 8) (.t 41), none, 1, 95⟩, ⟨some 9, .move (.t 42), none, 1, 255⟩]
def f8r6 : List AOper := [⟨some 44, .move (.t 1), none, 0, 0⟩, ⟨some 45, .call (.c (.fn 17 [] [])) [(.t 44), (.c (.str [60])), (.c (.int .i64 8)), (.c (.int .i64 7))], none, 0, 1⟩, ⟨some 43, .move (.t 45), none, 0, 3⟩, ⟨some 46, .extract (.t 43) 0, none, 0, 7⟩, ⟨some 47, .extract (.t 43) 1, none, 0, 7⟩, ⟨some 10, .alloc false (List.replicate 5 (.int .i64 0)), none, 0, 0⟩, ⟨none, .store 5 (.t 10) (.t 46), none, 1, 47⟩, ⟨some 11, .move (.t 47), none, 1, 127⟩]
def f8r7 : List AOper := [⟨some 49, .move (.t 1), none, 0, 0⟩, ⟨some 50, .move (.t 2), none, 0, 0⟩, ⟨some 51, .move (.t 4), none, 0, 0⟩, ⟨some 52, .call (.c (.fn 17 [] [])) [(.t 49), (.c (.str [45])), (.t 50), (.t 51)], none, 0, 7⟩, ⟨some 48, .move (.t 52), none, 0, 15⟩, ⟨some 53, .extract (.t 48) 0, none, 0, 31⟩, ⟨some 54, .extract (.t 48) 1, none, 0, 31⟩, ⟨some 12, .alloc false (List.replicate 5 (.int .i64 0)), none, 0, 0⟩, ⟨none, .store 5 (.t 12) (.t 53), none, 1, 191⟩, ⟨some 13, .move (.t 54), none, 1, 511⟩]
def f8r8 : List AOper := [⟨some 56, .call (.c (.fn 37 [] [])) [(.c (.int .i64 5)), (.c (.int .i64 1)), (.c (.int .u32 250)), (.c (.int .u32 10))], none, 0, 0⟩, ⟨some 55, .move (.t 56), none, 0, 1⟩, ⟨some 57, .extract (.t 55) 0, none, 0, 3⟩, ⟨some 58, .extract (.t 55) 1, none, 0, 3⟩, ⟨some 14, .move (.t 57), none, 0, 7⟩, ⟨some 15, .move (.t 58), none, 0, 31⟩]
def f8r9 : List AOper := [⟨some 60, .call (.c (.fn 37 [] [])) [(.c (.int .i64 8)), (.c (.int .i64 4)), (.c (.int .u32 1)), (.c (.int .u32 0))], none, 0, 0⟩, ⟨some 59, .move (.t 60), none, 0, 1⟩, ⟨some 61, .extract (.t 59) 0, none, 0, 3⟩, ⟨some 62, .extract (.t 59) 1, none, 0, 3⟩, ⟨some 16, .move (.t 61), none, 0, 7⟩, ⟨some 17, .move (.t 62), none, 0, 31⟩]
def f8r10 : List AOper := [⟨some 64, .move (.t 1), none, 0, 0⟩, ⟨some 65, .move (.t 2), none, 0, 0⟩, ⟨some 66, .call (.c (.fn 19 [] [])) [(.t 64), (.c (.str [33])), (.t 65)], none, 0, 3⟩, ⟨some 63, .move (.t 66), none, 0, 7⟩, ⟨some 67, .extract (.t 63) 0, none, 0, 15⟩, ⟨some 68, .extract (.t 63) 1, none, 0, 15⟩, ⟨some 18, .move (.t 67), none, 0, 31⟩, ⟨some 19, .move (.t 68), none, 0, 127⟩]
def f8r11 : List AOper := [⟨some 70, .move (.t 1), none, 0, 0⟩, ⟨some 71, .call (.c (.fn 21 [] [])) [(.t 70), (.c (.int .i64 2)), (.c (.int .i64 8))], none, 0, 1⟩, ⟨some 69, .move (.t 71), none, 0, 3⟩, ⟨some 72, .extract (.t 69) 0, none, 0, 7⟩, ⟨some 73, .extract (.t 69) 1, none, 0, 7⟩, ⟨some 20, .move (.t 72), none, 0, 15⟩, ⟨some 21, .move (.t 73), none, 0, 63⟩]
def f8r12 : List AOper := [⟨some 74, .move (.t 6), none, 0, 0⟩, ⟨some 75, .bin .eql (.t 74) (.c (.int .i64 11)), none, 0, 1⟩, ⟨some 76, .move (.t 75), none, 0, 3⟩, ⟨some 77, .move (.t 7), (some (76, true)), 0, 7⟩, ⟨some 78, .bin .eql (.t 77) (.c (.int .i64 0)), (some (76, true)), 0, 15⟩, ⟨some 79, .pick (.t 76) (.t 78) (.c (.bool false)), none, 0, 31⟩, ⟨some 80, .move (.t 79), none, 0, 63⟩, ⟨some 81, .move (.t 9), (some (80, true)), 0, 127⟩, ⟨some 82, .bin .eql (.t 81) (.c (.int .i64 0)), (some (80, true)), 0, 255⟩, ⟨some 83, .pick (.t 80) (.t 82) (.c (.bool false)), none, 0, 511⟩, ⟨some 84, .move (.t 83), none, 0, 1023⟩, ⟨some 85, .load true 5 (.t 8), (some (84, true)), 0, 2047⟩, ⟨some 86, .move (.t 2), (some (84, true)), 0, 2047⟩, ⟨some 87, .move (.t 2), (some (84, true)), 0, 2047⟩, ⟨some 88, .build (List.replicate 5 (.int .i64 0)) [(0, 1, (.c (.int .i64 1))), (1, 1, (.t 86)), (2, 1, (.c (.int .i64 7))), (3, 1, (.t 87)), (4, 1, (.c (.int .i64 4)))], (some (84, true)), 0, 14335⟩, ⟨some 89, .eq false (.agg [.int .i64, .int .i64, .int .i64, .int .i64, .int .i64]) (.t 85) (.t 88), (some (84, true)), 0, 32767⟩, ⟨some 90, .pick (.t 84) (.t 89) (.c (.bool false)), none, 0, 65535⟩, ⟨some 91, .move (.t 90), none, 0, 131071⟩, ⟨some 92, .move (.t 11), (some (91, true)), 0, 262143⟩, ⟨some 93, .bin .eql (.t 92) (.c (.int .i64 0)), (some (91, true)), 0, 524287⟩, ⟨some 94, .pick (.t 91) (.t 93) (.c (.bool false)), none, 0, 1048575⟩, ⟨some 95, .move (.t 94), none, 0, 2097151⟩, ⟨some 96, .load true 5 (.t 10), (some (95, true)), 0, 4194303⟩, ⟨some 97, .build (List.replicate 5 (.int .i64 0)) [(0, 1, (.c (.int .i64 17))), (1, 1, (.c (.int .i64 8))), (2, 1, (.c (.int .i64 8))), (3, 1, (.c (.int .i64 7)))], (some (95, true)), 0, 4194303⟩, ⟨some 98, .eq false (.agg [.int .i64, .int .i64, .int .i64, .int .i64, .int .i64]) (.t 96) (.t 97), (some (95, true)), 0, 16777215⟩, ⟨some 99, .pick (.t 95) (.t 98) (.c (.bool false)), none, 0, 33554431⟩, ⟨some 100, .move (.t 99), none, 0, 67108863⟩, ⟨some 101, .move (.t 13), (some (100, true)), 0, 134217727⟩, ⟨some 102, .bin .eql (.t 101) (.c (.int .i64 70)), (some (100, true)), 0, 268435455⟩, ⟨some 103, .pick (.t 100) (.t 102) (.c (.bool false)), none, 0, 536870911⟩, ⟨some 104, .move (.t 103), none, 0, 1073741823⟩, ⟨some 105, .move (.t 14), (some (104, true)), 0, 2147483647⟩, ⟨some 106, .bin .eql (.t 105) (.c (.int .u32 4)), (some (104, true)), 0, 4294967295⟩, ⟨some 107, .pick (.t 104) (.t 106) (.c (.bool false)), none, 0, 8589934591⟩, ⟨some 108, .move (.t 107), none, 0, 17179869183⟩, ⟨some 109, .move (.t 15), (some (108, true)), 0, 34359738367⟩, ⟨some 110, .bin .eql (.t 109) (.c (.int .i64 0)), (some (108, true)), 0, 68719476735⟩, ⟨some 111, .pick (.t 108) (.t 110) (.c (.bool false)), none, 0, 137438953471⟩, ⟨some 112, .move (.t 111), none, 0, 274877906943⟩, ⟨some 113, .move (.t 17), (some (112, true)), 0, 549755813887⟩, ⟨some 114, .bin .eql (.t 113) (.c (.int .i64 71)), (some (112, true)), 0, 1099511627775⟩, ⟨some 115, .pick (.t 112) (.t 114) (.c (.bool false)), none, 0, 2199023255551⟩, ⟨some 116, .move (.t 115), none, 0, 4398046511103⟩, ⟨some 117, .move (.t 18), (some (116, true)), 0, 8796093022207⟩, ⟨some 118, .bin .eql (.t 117) (.c (.int .i64 7)), (some (116, true)), 0, 17592186044415⟩, ⟨some 119, .pick (.t 116) (.t 118) (.c (.bool false)), none, 0, 35184372088831⟩, ⟨some 120, .move (.t 119), none, 0, 70368744177663⟩, ⟨some 121, .move (.t 19), (some (120, true)), 0, 140737488355327⟩, ⟨some 122, .bin .eql (.t 121) (.c (.int .i64 0)), (some (120, true)), 0, 281474976710655⟩, ⟨some 123, .pick (.t 120) (.t 122) (.c (.bool false)), none, 0, 562949953421311⟩, ⟨some 124, .move (.t 123), none, 0, 1125899906842623⟩, ⟨some 125, .move (.t 20), (some (124, true)), 0, 2251799813685247⟩, ⟨some 126, .bin .eql (.t 125) (.c (.int .i64 8)), (some (124, true)), 0, 4503599627370495⟩, ⟨some 127, .pick (.t 124) (.t 126) (.c (.bool false)), none, 0, 9007199254740991⟩, ⟨some 128, .move (.t 127), none, 0, 18014398509481983⟩, ⟨some 129, .move (.t 21), (some (128, true)), 0, 36028797018963967⟩, ⟨some 130, .bin .eql (.t 129) (.c (.int .i64 0)), (some (128, true)), 0, 72057594037927935⟩, ⟨some 131, .pick (.t 128) (.t 130) (.c (.bool false)), none, 0, 144115188075855871⟩, ⟨some 132, .move (.t 131), none, 0, 288230376151711743⟩, ⟨some 133, .move (.t 1), (some (132, true)), 0, 576460752303423487⟩, ⟨some 134, .move (.t 2), (some (132, true)), 0, 576460752303423487⟩, ⟨some 135, .move (.t 4), (some (132, true)), 0, 576460752303423487⟩, ⟨some 136, .call (.c (.fn 14 [] [])) [(.t 133), (.t 134), (.t 135)], (some (132, true)), 0, 4611686018427387903⟩, ⟨some 137, .bin .eql (.t 136) (.c (.int .i64 70)), (some (132, true)), 0, 9223372036854775807⟩, ⟨some 138, .pick (.t 132) (.t 137) (.c (.bool false)), none, 0, 18446744073709551615⟩, ⟨some 139, .move (.t 138), none, 0, 36893488147419103231⟩, ⟨some 140, .move (.t 1), (some (139, true)), 0, 73786976294838206463⟩, ⟨some 141, .move (.t 2), (some (139, true)), 0, 73786976294838206463⟩, ⟨some 142, .move (.t 4), (some (139, true)), 0, 73786976294838206463⟩, ⟨some 143, .call (.c (.fn 15 [] [])) [(.t 140), (.t 141), (.t 142)], (some (139, true)), 0, 590295810358705651711⟩, ⟨some 144, .bin .eql (.t 143) (.c (.int .i64 0)), (some (139, true)), 0, 1180591620717411303423⟩, ⟨some 145, .pick (.t 139) (.t 144) (.c (.bool false)), none, 0, 2361183241434822606847⟩, ⟨some 146, .move (.t 145), none, 0, 4722366482869645213695⟩, ⟨some 147, .call (.c (.fn 12 [] [])) [(.c (.int .i64 9)), (.c (.int .i64 5))], (some (146, true)), 0, 9444732965739290427391⟩, ⟨some 148, .bin .eql (.t 147) (.c (.int .i64 8)), (some (146, true)), 0, 18889465931478580854783⟩, ⟨some 149, .pick (.t 146) (.t 148) (.c (.bool false)), none, 0, 37778931862957161709567⟩, ⟨some 0, .move (.t 149), none, 0, 75557863725914323419135⟩]
def f8c : ACode :=
 .seq (.region false f8r0 [] 0)
 (.seq (.region false f8r1 [1] 0)
 (.seq (.region false f8r2 [1, 2] 0)
 (.seq (.region false f8r3 [1, 2, 4] 0)
 (.seq (.region false f8r4 [1, 2, 4, 6, 7] 0)
 (.seq (.region false f8r5 [1, 2, 4, 6, 7, 8, 9] 1)
 (.seq (.region false f8r6 [1, 2, 4, 6, 7, 8, 9, 10, 11] 1)
 (.seq (.region false f8r7 [1, 2, 4, 6, 7, 8, 9, 10, 11, 13] 1)
 (.seq (.region false f8r8 [1, 2, 4, 6, 7, 8, 9, 10, 11, 13, 14, 15] 0)
 (.seq (.region false f8r9 [1, 2, 4, 6, 7, 8, 9, 10, 11, 13, 14, 15, 17] 0)
 (.seq (.region false f8r10 [1, 2, 4, 6, 7, 8, 9, 10, 11, 13, 14, 15, 17, 18, 19] 0)
 (.seq (.region false f8r11 [1, 2, 4, 6, 7, 8, 9, 10, 11, 13, 14, 15, 17, 18, 19, 20, 21] 0)
 (.seq (.region false f8r12 [0] 0)
 (.ret)))))))))))))
def f8 : AFn := ⟨0, 150, [.tmp 0], f8c, 1, none⟩
def f8k : List (Nat × List Nat) := [(0, []), (1, [1]), (2, [1, 2]), (3, [1, 2, 4]), (4, [1, 2, 4, 6, 7]), (5, [1, 2, 4, 6, 7, 8, 9]), (6, [1, 2, 4, 6, 7, 8, 9, 10, 11]), (7, [1, 2, 4, 6, 7, 8, 9, 10, 11, 13]), (8, [1, 2, 4, 6, 7, 8, 9, 10, 11, 13, 14, 15]), (9, [1, 2, 4, 6, 7, 8, 9, 10, 11, 13, 14, 15, 17]), (10, [1, 2, 4, 6, 7, 8, 9, 10, 11, 13, 14, 15, 17, 18, 19]), (11, [1, 2, 4, 6, 7, 8, 9, 10, 11, 13, 14, 15, 17, 18, 19, 20, 21]), (12, [0])]
def f8v : List Nat := []
def f9r0 : List AOper := [⟨some 2, .box false (.t 0), none, 0, 0⟩, ⟨some 3, .box false (.t 1), none, 1, 0⟩, ⟨some 4, .move (.c (.int .i64 0)), none, 2, 0⟩, ⟨some 5, .move (.c (.int .i64 0)), none, 2, 4⟩]
def f9r1 : List AOper := [⟨some 7, .load false 1 (.t 2), none, 0, 0⟩, ⟨some 8, .call (.c (.fn 38 [] [])) [(.t 7)], none, 0, 1⟩, ⟨some 9, .un .not (.t 8), none, 0, 3⟩, ⟨some 10, .move (.t 9), none, 0, 7⟩, ⟨some 11, .load false 1 (.t 3), (some (10, false)), 0, 15⟩, ⟨some 12, .call (.c (.fn 38 [] [])) [(.t 11)], (some (10, false)), 0, 31⟩, ⟨some 13, .un .not (.t 12), (some (10, false)), 0, 63⟩, ⟨some 14, .pick (.t 10) (.c (.bool true)) (.t 13), none, 0, 127⟩]
def f9r2 : List AOper := [⟨some 4, .move (.c (.int .i64 0)), none, 0, 0⟩, ⟨some 5, .move (.c (.int .i64 70)), none, 0, 1⟩]
def f9q3 : List AOper := [⟨some 15, .load false 1 (.t 2), none, 0, 0⟩, ⟨some 16, .call (.c (.fn 12 [] [])) [(.t 15), (.c (.int .i64 (-1)))], none, 0, 1⟩, ⟨some 17, .load false 1 (.t 3), none, 0, 0⟩, ⟨some 18, .call (.c (.fn 12 [] [])) [(.t 17), (.c (.int .i64 (-1)))], none, 0, 7⟩, ⟨none, .store 1 (.t 2) (.t 16), none, 0, 15⟩, ⟨none, .store 1 (.t 3) (.t 18), none, 0, 31⟩]
def f9r3 : List AOper := f9q3
def f9r4 : List AOper := [⟨some 19, .fn 39 [] [(.t 2), (.t 3)], none, 0, 0⟩, ⟨some 6, .move (.t 19), none, 0, 1⟩]
def f9r5 : List AOper := [⟨some 21, .move (.t 6), none, 0, 0⟩, ⟨some 22, .call (.t 21) [(.c (.int .i64 11))], none, 0, 1⟩, ⟨some 20, .move (.t 22), none, 0, 3⟩]
def f9r6 : List AOper := [⟨some 23, .move (.t 6), none, 0, 0⟩, ⟨some 24, .call (.t 23) [(.c (.int .i64 10))], none, 0, 1⟩, ⟨some 25, .move (.t 24), none, 0, 3⟩, ⟨some 26, .move (.t 6), (some (25, true)), 0, 7⟩, ⟨some 27, .call (.t 26) [(.c (.int .i64 9))], (some (25, true)), 0, 15⟩, ⟨some 28, .pick (.t 25) (.t 27) (.c (.bool false)), none, 0, 31⟩, ⟨some 20, .move (.t 28), none, 0, 63⟩]
def f9r7 : List AOper := [⟨some 4, .move (.c (.int .i64 11)), none, 0, 0⟩, ⟨some 5, .move (.c (.int .i64 0)), none, 0, 1⟩]
def f9r8 : List AOper := [⟨some 30, .move (.t 6), none, 0, 0⟩, ⟨some 31, .call (.t 30) [(.c (.int .i64 10))], none, 0, 1⟩, ⟨some 29, .move (.t 31), none, 0, 3⟩]
def f9r9 : List AOper := [⟨some 4, .move (.c (.int .i64 10)), none, 0, 0⟩, ⟨some 5, .move (.c (.int .i64 0)), none, 0, 1⟩]
def f9r10 : List AOper := [⟨some 33, .move (.t 6), none, 0, 0⟩, ⟨some 34, .call (.t 33) [(.c (.int .i64 9))], none, 0, 1⟩, ⟨some 32, .move (.t 34), none, 0, 3⟩]
def f9r11 : List AOper := [⟨some 4, .move (.c (.int .i64 9)), none, 0, 0⟩, ⟨some 5, .move (.c (.int .i64 0)), none, 0, 1⟩]
def f9r12 : List AOper := [⟨some 4, .move (.c (.int .i64 8)), none, 0, 0⟩, ⟨some 5, .move (.c (.int .i64 0)), none, 0, 1⟩]
theorem f9r3_s : staticOK 0 f9r3 = true := by rfl
theorem f9r3_w {A : Tab} {nt : Nat} {keep : List Nat} {n : Nat} {e : Env} {h : Heap} (hr : (bkeep keep (stepsF nt (stepF A true) h.length f9r3 e (h ++ List.replicate n .free))).isSome = true) : Brun A nt (.region true f9r3 keep n) e h = bkeep keep (stepsF nt (stepF A true) h.length f9r3 e (h ++ List.replicate n .free)) := Brun_drawnS f9r3_s hr
theorem f9r3_u (nt base : Nat) (step : Nat → AOp → Env → Heap → Option (AV × Heap)) (e : Env) (h : Heap) : stepsF nt step base f9r3 e h = stepsF nt step base f9q3 e h := rfl
def f9c : ACode :=
 .seq (.region false f9r0 [2, 3] 2)
 (.seq (.seq (.region false f9r1 [2, 3, 14] 0)
 (.cond (.t 14)
  (.seq (.region false f9r2 [4, 5] 0)
  (.ret))
  (.skip)))
 (.seq (.region true f9r3 [2, 3] 0)
 (.seq (.region false f9r4 [6] 0)
 (.seq (.block 0 (.seq (.seq (.region false f9r5 [6, 20] 0)
  (.cond (.t 20)
   (.skip)
   (.region false f9r6 [6, 20] 0)))
  (.cond (.t 20)
   (.seq (.region false f9r7 [4, 5] 0)
   (.ret))
   (.seq (.region false f9r8 [6, 29] 0)
   (.cond (.t 29)
    (.seq (.region false f9r9 [4, 5] 0)
    (.ret))
    (.seq (.region false f9r10 [32] 0)
    (.cond (.t 32)
     (.seq (.region false f9r11 [4, 5] 0)
     (.ret))
     (.skip))))))))
 (.seq (.region false f9r12 [4, 5] 0)
 (.ret))))))
def f9 : AFn := ⟨2, 35, [.tmp 4, .tmp 5], f9c, 1, none⟩
def f9k : List (Nat × List Nat) := [(0, [2, 3]), (1, [2, 3, 14]), (2, [4, 5]), (3, [2, 3]), (4, [6]), (5, [6, 20]), (6, [6, 20]), (8, [6, 29]), (10, [32]), (11, [4, 5]), (9, [4, 5]), (7, [4, 5]), (12, [4, 5])]
def f9v : List Nat := []
def f10r0 : List AOper := [⟨some 4, .move (.c (.int .i64 0)), none, 0, 0⟩]
def f10r1 : List AOper := [⟨some 5, .move (.t 0), none, 0, 0⟩, ⟨some 6, .move (.t 1), none, 0, 0⟩, ⟨some 7, .call (.c (.fn 7 [] [])) [(.t 5), (.t 6)], none, 0, 3⟩, ⟨some 8, .un .not (.t 7), none, 0, 7⟩]
def f10r2 : List AOper := [⟨some 4, .move (.c (.int .i64 0)), none, 0, 0⟩]
def f10r3 : List AOper := [⟨some 9, .move (.t 0), none, 0, 0⟩, ⟨some 10, .nilCheck (.t 9), none, 0, 1⟩, ⟨some 11, .fieldAddr 0 (.t 10), none, 0, 3⟩, ⟨some 12, .load false 1 (.t 11), none, 0, 7⟩, ⟨some 13, .move (.t 1), none, 0, 0⟩, ⟨some 14, .idxAddr 6 (.t 12) (.t 13), none, 0, 31⟩, ⟨some 15, .fieldAddr 0 (.t 14), none, 0, 63⟩, ⟨some 16, .load false 1 (.t 15), none, 0, 127⟩, ⟨some 4, .move (.t 16), none, 0, 255⟩]
def f10c : ACode :=
 .seq (.region false f10r0 [0, 1] 0)
 (.seq (.seq (.region false f10r1 [0, 1, 8] 0)
 (.cond (.t 8)
  (.seq (.region false f10r2 [4] 0)
  (.ret))
  (.skip)))
 (.seq (.region false f10r3 [4] 0)
 (.ret)))
def f10 : AFn := ⟨2, 17, [.tmp 4], f10c, 1, none⟩
def f10k : List (Nat × List Nat) := [(0, [0, 1]), (1, [0, 1, 8]), (2, [4]), (3, [4])]
def f10v : List Nat := []
def f11r0 : List AOper := [⟨some 4, .move (.c (.bool false)), none, 0, 0⟩]
def f11r1 : List AOper := [⟨some 6, .move (.t 0), none, 0, 0⟩, ⟨some 7, .move (.t 1), none, 0, 0⟩, ⟨some 8, .call (.c (.fn 10 [] [])) [(.t 6), (.t 7)], none, 0, 3⟩, ⟨some 5, .move (.t 8), none, 0, 7⟩]
def f11r2 : List AOper := [⟨some 9, .move (.t 5), none, 0, 0⟩, ⟨some 10, .bin .gtr (.t 9) (.c (.int .i64 1)), none, 0, 1⟩, ⟨some 11, .move (.t 10), none, 0, 3⟩, ⟨some 12, .move (.t 5), (some (11, true)), 0, 7⟩, ⟨some 13, .bin .leq (.t 12) (.c (.int .i64 12)), (some (11, true)), 0, 15⟩, ⟨some 14, .pick (.t 11) (.t 13) (.c (.bool false)), none, 0, 31⟩, ⟨some 4, .move (.t 14), none, 0, 63⟩]
def f11c : ACode :=
 .seq (.region false f11r0 [0, 1] 0)
 (.seq (.region false f11r1 [5] 0)
 (.seq (.region false f11r2 [4] 0)
 (.ret)))
def f11 : AFn := ⟨2, 15, [.tmp 4], f11c, 1, none⟩
def f11k : List (Nat × List Nat) := [(0, [0, 1]), (1, [5]), (2, [4])]
def f11v : List Nat := []
def f12r0 : List AOper := [⟨some 4, .move (.c (.int .i64 0)), none, 0, 0⟩]
def f12r1 : List AOper := [⟨some 6, .move (.t 0), none, 0, 0⟩, ⟨some 7, .call (.c (.fn 38 [] [])) [(.t 6)], none, 0, 1⟩, ⟨some 8, .un .not (.t 7), none, 0, 3⟩, ⟨some 5, .move (.t 8), none, 0, 7⟩]
def f12r2 : List AOper := [⟨some 10, .move (.t 1), none, 0, 0⟩, ⟨some 11, .bin .geq (.t 10) (.c (.int .i64 0)), none, 0, 1⟩, ⟨some 12, .move (.t 11), none, 0, 3⟩, ⟨some 13, .move (.t 1), (some (12, true)), 0, 7⟩, ⟨some 14, .bin .leq (.t 13) (.c (.int .i64 31)), (some (12, true)), 0, 15⟩, ⟨some 15, .pick (.t 12) (.t 14) (.c (.bool false)), none, 0, 31⟩, ⟨some 9, .move (.t 15), none, 0, 63⟩]
def f12r3 : List AOper := [⟨some 16, .move (.t 0), none, 0, 0⟩, ⟨some 17, .bin .leq (.t 16) (.c (.int .i64 7)), none, 0, 1⟩, ⟨some 9, .move (.t 17), none, 0, 3⟩]
def f12r4 : List AOper := [⟨some 18, .move (.t 0), none, 0, 0⟩, ⟨some 19, .bin .eql (.t 18) (.c (.int .i64 12)), none, 0, 1⟩, ⟨some 9, .move (.t 19), none, 0, 3⟩]
def f12r5 : List AOper := [⟨some 4, .move (.c (.int .i64 8)), none, 0, 0⟩]
def f12r6 : List AOper := [⟨some 20, .move (.t 0), none, 0, 0⟩, ⟨some 4, .move (.t 20), none, 0, 1⟩]
def f12c : ACode :=
 .seq (.region false f12r0 [0, 1] 0)
 (.seq (.block 0 (.seq (.region false f12r1 [0, 1, 5] 0)
  (.cond (.t 5)
   (.skip)
   (.seq (.seq (.region false f12r2 [0, 9] 0)
   (.cond (.t 9)
    (.skip)
    (.seq (.region false f12r3 [0, 9] 0)
    (.cond (.t 9)
     (.skip)
     (.region false f12r4 [0, 9] 0)))))
   (.cond (.t 9)
    (.seq (.region false f12r5 [4] 0)
    (.ret))
    (.skip))))))
 (.seq (.region false f12r6 [4] 0)
 (.ret)))
def f12 : AFn := ⟨2, 21, [.tmp 4], f12c, 1, none⟩
def f12k : List (Nat × List Nat) := [(0, [0, 1]), (1, [0, 1, 5]), (2, [0, 9]), (3, [0, 9]), (4, [0, 9]), (5, [4]), (6, [4])]
def f12v : List Nat := []
def f13r0 : List AOper := [⟨some 4, .move (.c (.bool false)), none, 0, 0⟩]
def f13r1 : List AOper := [⟨some 6, .move (.t 0), none, 0, 0⟩, ⟨some 7, .move (.t 1), none, 0, 0⟩, ⟨some 8, .call (.c (.fn 10 [] [])) [(.t 6), (.t 7)], none, 0, 3⟩, ⟨some 5, .move (.t 8), none, 0, 7⟩]
def f13r2 : List AOper := [⟨some 9, .move (.t 5), none, 0, 0⟩, ⟨some 10, .bin .gtr (.t 9) (.c (.int .i64 1)), none, 0, 1⟩, ⟨some 11, .move (.t 10), none, 0, 3⟩, ⟨some 12, .move (.t 5), (some (11, true)), 0, 7⟩, ⟨some 13, .bin .leq (.t 12) (.c (.int .i64 13)), (some (11, true)), 0, 15⟩, ⟨some 14, .pick (.t 11) (.t 13) (.c (.bool false)), none, 0, 31⟩, ⟨some 4, .move (.t 14), none, 0, 63⟩]
def f13c : ACode :=
 .seq (.region false f13r0 [0, 1] 0)
 (.seq (.region false f13r1 [5] 0)
 (.seq (.region false f13r2 [4] 0)
 (.ret)))
def f13 : AFn := ⟨2, 15, [.tmp 4], f13c, 1, none⟩
def f13k : List (Nat × List Nat) := [(0, [0, 1]), (1, [5]), (2, [4])]
def f13v : List Nat := []
def f14r0 : List AOper := [⟨some 6, .move (.c (.int .i64 0)), none, 0, 0⟩]
def f14r1 : List AOper := [⟨some 10, .move (.t 0), none, 0, 0⟩, ⟨some 11, .move (.t 1), none, 0, 0⟩, ⟨some 12, .move (.t 2), none, 0, 0⟩, ⟨some 13, .buildSlice true 1 2 [(.int .i64 0), (.int .i64 0)] [(0, 1, (.t 11)), (1, 1, (.t 12))], none, 0, 6⟩, ⟨some 14, .call (.c (.fn 40 [] [])) [(.t 10), (.t 13)], none, 0, 15⟩, ⟨some 7, .move (.t 14), none, 0, 31⟩]
def f14r2 : List AOper := [⟨some 15, .move (.t 7), none, 0, 0⟩, ⟨some 16, .bin .neq (.t 15) (.c (.int .i64 0)), none, 0, 1⟩]
def f14r3 : List AOper := [⟨some 17, .move (.t 7), none, 0, 0⟩, ⟨some 6, .move (.t 17), none, 0, 1⟩]
def f14r4 : List AOper := [⟨some 18, .move (.t 0), none, 0, 0⟩, ⟨some 19, .build [.nilp] [(0, 1, (.t 18))], none, 0, 1⟩, ⟨some 8, .alloc false [.nilp], none, 0, 0⟩, ⟨none, .store 1 (.t 8) (.t 19), none, 1, 7⟩]
def f14r5 : List AOper := [⟨some 20, .load true 1 (.t 8), none, 0, 0⟩, ⟨some 21, .move (.t 1), none, 0, 0⟩, ⟨some 22, .call (.c (.fn 41 [] [])) [(.t 20), (.t 21)], none, 0, 3⟩, ⟨some 9, .alloc false [(.int .i64 0), (.int .i64 0), (.int .i64 0), (.str []), (.is [] .nil), (.bool false)], none, 0, 0⟩, ⟨none, .store 6 (.t 9) (.t 22), none, 1, 15⟩]
def f14r6 : List AOper := [⟨some 23, .load true 1 (.t 8), none, 0, 0⟩, ⟨some 24, .move (.t 1), none, 0, 0⟩, ⟨some 25, .call (.c (.fn 42 [] [])) [(.t 23), (.t 24)], none, 0, 3⟩, ⟨some 26, .move (.t 25), none, 0, 7⟩, ⟨some 27, .load true 1 (.t 8), (some (26, true)), 0, 15⟩, ⟨some 28, .move (.t 2), (some (26, true)), 0, 15⟩, ⟨some 29, .call (.c (.fn 42 [] [])) [(.t 27), (.t 28)], (some (26, true)), 0, 63⟩, ⟨some 30, .pick (.t 26) (.t 29) (.c (.bool false)), none, 0, 127⟩, ⟨some 31, .move (.t 30), none, 0, 255⟩, ⟨some 32, .load true 1 (.t 8), (some (31, false)), 0, 511⟩, ⟨some 33, .move (.t 1), (some (31, false)), 0, 511⟩, ⟨some 34, .move (.t 2), (some (31, false)), 0, 511⟩, ⟨some 35, .call (.c (.fn 43 [] [])) [(.t 32), (.t 33), (.t 34)], (some (31, false)), 0, 4095⟩, ⟨some 36, .pick (.t 31) (.c (.bool true)) (.t 35), none, 0, 8191⟩, ⟨some 37, .move (.t 36), none, 0, 16383⟩, ⟨some 38, .move (.t 1), (some (37, false)), 0, 32767⟩, ⟨some 39, .move (.t 2), (some (37, false)), 0, 32767⟩, ⟨some 40, .bin .eql (.t 38) (.t 39), (some (37, false)), 0, 131071⟩, ⟨some 41, .move (.t 40), (some (37, false)), 0, 262143⟩, ⟨some 42, .fieldAddr 5 (.t 9), (some (41, true)), 0, 524287⟩, ⟨some 43, .load false 1 (.t 42), (some (41, true)), 0, 1048575⟩, ⟨some 44, .pick (.t 41) (.t 43) (.c (.bool false)), (some (37, false)), 0, 2097151⟩, ⟨some 45, .pick (.t 37) (.c (.bool true)) (.t 44), none, 0, 4194303⟩]
def f14r7 : List AOper := [⟨some 6, .move (.c (.int .i64 0)), none, 0, 0⟩]
def f14r8 : List AOper := [⟨some 6, .move (.c (.int .i64 70)), none, 0, 0⟩]
def f14c : ACode :=
 .seq (.region false f14r0 [0, 1, 2] 0)
 (.seq (.seq (.region false f14r1 [0, 1, 2, 7] 0)
 (.seq (.region false f14r2 [0, 1, 2, 7, 16] 0)
 (.cond (.t 16)
  (.seq (.region false f14r3 [6] 0)
  (.ret))
  (.skip))))
 (.seq (.region false f14r4 [1, 2, 8] 1)
 (.seq (.region false f14r5 [1, 2, 8, 9] 1)
 (.seq (.seq (.region false f14r6 [45] 0)
 (.cond (.t 45)
  (.seq (.region false f14r7 [6] 0)
  (.ret))
  (.skip)))
 (.seq (.region false f14r8 [6] 0)
 (.ret))))))
def f14 : AFn := ⟨3, 46, [.tmp 6], f14c, 1, none⟩
def f14k : List (Nat × List Nat) := [(0, [0, 1, 2]), (1, [0, 1, 2, 7]), (2, [0, 1, 2, 7, 16]), (3, [6]), (4, [1, 2, 8]), (5, [1, 2, 8, 9]), (6, [45]), (7, [6]), (8, [6])]
def f14v : List Nat := [13]
def f15r0 : List AOper := [⟨some 6, .move (.c (.int .i64 0)), none, 0, 0⟩]
def f15r1 : List AOper := [⟨some 10, .move (.t 0), none, 0, 0⟩, ⟨some 11, .move (.t 1), none, 0, 0⟩, ⟨some 12, .move (.t 2), none, 0, 0⟩, ⟨some 13, .buildSlice true 1 2 [(.int .i64 0), (.int .i64 0)] [(0, 1, (.t 11)), (1, 1, (.t 12))], none, 0, 6⟩, ⟨some 14, .call (.c (.fn 40 [] [])) [(.t 10), (.t 13)], none, 0, 15⟩, ⟨some 7, .move (.t 14), none, 0, 31⟩]
def f15r2 : List AOper := [⟨some 15, .move (.t 7), none, 0, 0⟩, ⟨some 16, .bin .neq (.t 15) (.c (.int .i64 0)), none, 0, 1⟩]
def f15r3 : List AOper := [⟨some 17, .move (.t 7), none, 0, 0⟩, ⟨some 6, .move (.t 17), none, 0, 1⟩]
def f15r4 : List AOper := [⟨some 18, .move (.t 0), none, 0, 0⟩, ⟨some 19, .build [.nilp] [(0, 1, (.t 18))], none, 0, 1⟩, ⟨some 8, .alloc false [.nilp], none, 0, 0⟩, ⟨none, .store 1 (.t 8) (.t 19), none, 1, 7⟩]
def f15r5 : List AOper := [⟨some 20, .load true 1 (.t 8), none, 0, 0⟩, ⟨some 21, .move (.t 1), none, 0, 0⟩, ⟨some 22, .call (.c (.fn 44 [] [])) [(.t 20), (.t 21)], none, 0, 3⟩, ⟨some 9, .move (.t 22), none, 0, 7⟩]
def f15r6 : List AOper := [⟨some 24, .move (.t 9), none, 0, 0⟩, ⟨some 25, .bin .eql (.t 24) (.c (.int .i64 1)), none, 0, 1⟩, ⟨some 23, .move (.t 25), none, 0, 3⟩]
def f15r7 : List AOper := [⟨some 26, .load true 1 (.t 8), none, 0, 0⟩, ⟨some 27, .move (.t 1), none, 0, 0⟩, ⟨some 28, .call (.c (.fn 42 [] [])) [(.t 26), (.t 27)], none, 0, 3⟩, ⟨some 29, .move (.t 28), none, 0, 7⟩, ⟨some 30, .load true 1 (.t 8), (some (29, true)), 0, 15⟩, ⟨some 31, .move (.t 2), (some (29, true)), 0, 15⟩, ⟨some 32, .call (.c (.fn 42 [] [])) [(.t 30), (.t 31)], (some (29, true)), 0, 63⟩, ⟨some 33, .pick (.t 29) (.t 32) (.c (.bool false)), none, 0, 127⟩, ⟨some 23, .move (.t 33), none, 0, 255⟩]
def f15r8 : List AOper := [⟨some 34, .load true 1 (.t 8), none, 0, 0⟩, ⟨some 35, .move (.t 1), none, 0, 0⟩, ⟨some 36, .call (.c (.fn 45 [] [])) [(.t 34), (.t 35)], none, 0, 3⟩, ⟨some 37, .move (.t 36), none, 0, 7⟩, ⟨some 38, .load true 1 (.t 8), (some (37, true)), 0, 15⟩, ⟨some 39, .move (.t 2), (some (37, true)), 0, 15⟩, ⟨some 40, .call (.c (.fn 45 [] [])) [(.t 38), (.t 39)], (some (37, true)), 0, 63⟩, ⟨some 41, .pick (.t 37) (.t 40) (.c (.bool false)), none, 0, 127⟩, ⟨some 23, .move (.t 41), none, 0, 255⟩]
def f15r9 : List AOper := [⟨some 42, .move (.t 9), none, 0, 0⟩, ⟨some 43, .bin .eql (.t 42) (.c (.int .i64 2)), none, 0, 1⟩, ⟨some 44, .move (.t 43), none, 0, 3⟩, ⟨some 45, .load true 1 (.t 8), (some (44, true)), 0, 7⟩, ⟨some 46, .move (.t 2), (some (44, true)), 0, 7⟩, ⟨some 47, .call (.c (.fn 45 [] [])) [(.t 45), (.t 46)], (some (44, true)), 0, 31⟩, ⟨some 48, .pick (.t 44) (.t 47) (.c (.bool false)), none, 0, 63⟩, ⟨some 23, .move (.t 48), none, 0, 127⟩]
def f15r10 : List AOper := [⟨some 6, .move (.c (.int .i64 0)), none, 0, 0⟩]
def f15r11 : List AOper := [⟨some 6, .move (.c (.int .i64 70)), none, 0, 0⟩]
def f15c : ACode :=
 .seq (.region false f15r0 [0, 1, 2] 0)
 (.seq (.seq (.region false f15r1 [0, 1, 2, 7] 0)
 (.seq (.region false f15r2 [0, 1, 2, 7, 16] 0)
 (.cond (.t 16)
  (.seq (.region false f15r3 [6] 0)
  (.ret))
  (.skip))))
 (.seq (.region false f15r4 [1, 2, 8] 1)
 (.seq (.seq (.region false f15r5 [1, 2, 8, 9] 0)
 (.block 0 (.seq (.seq (.region false f15r6 [1, 2, 8, 9, 23] 0)
  (.cond (.t 23)
   (.skip)
   (.seq (.region false f15r7 [1, 2, 8, 9, 23] 0)
   (.cond (.t 23)
    (.skip)
    (.seq (.region false f15r8 [2, 8, 9, 23] 0)
    (.cond (.t 23)
     (.skip)
     (.region false f15r9 [23] 0)))))))
  (.cond (.t 23)
   (.seq (.region false f15r10 [6] 0)
   (.ret))
   (.skip)))))
 (.seq (.region false f15r11 [6] 0)
 (.ret)))))
def f15 : AFn := ⟨3, 49, [.tmp 6], f15c, 1, none⟩
def f15k : List (Nat × List Nat) := [(0, [0, 1, 2]), (1, [0, 1, 2, 7]), (2, [0, 1, 2, 7, 16]), (3, [6]), (4, [1, 2, 8]), (5, [1, 2, 8, 9]), (6, [1, 2, 8, 9, 23]), (7, [1, 2, 8, 9, 23]), (8, [2, 8, 9, 23]), (9, [23]), (10, [6]), (11, [6])]
def f15v : List Nat := [13]
def f16r0 : List AOper := [⟨some 4, .move (.c (.bool false)), none, 0, 0⟩]
def f16r1 : List AOper := [⟨some 5, .move (.t 0), none, 0, 0⟩, ⟨some 6, .move (.t 1), none, 0, 0⟩, ⟨some 7, .call (.c (.fn 10 [] [])) [(.t 5), (.t 6)], none, 0, 3⟩, ⟨some 8, .bin .eql (.t 7) (.c (.int .i64 15)), none, 0, 7⟩, ⟨some 9, .move (.t 8), none, 0, 15⟩, ⟨some 10, .move (.t 0), (some (9, false)), 0, 31⟩, ⟨some 11, .move (.t 1), (some (9, false)), 0, 31⟩, ⟨some 12, .call (.c (.fn 10 [] [])) [(.t 10), (.t 11)], (some (9, false)), 0, 127⟩, ⟨some 13, .bin .eql (.t 12) (.c (.int .i64 16)), (some (9, false)), 0, 255⟩, ⟨some 14, .pick (.t 9) (.c (.bool true)) (.t 13), none, 0, 511⟩, ⟨some 4, .move (.t 14), none, 0, 1023⟩]
def f16c : ACode :=
 .seq (.region false f16r0 [0, 1] 0)
 (.seq (.region false f16r1 [4] 0)
 (.ret))
def f16 : AFn := ⟨2, 15, [.tmp 4], f16c, 1, none⟩
def f16k : List (Nat × List Nat) := [(0, [0, 1]), (1, [4])]
def f16v : List Nat := []
def f17r0 : List AOper := [⟨some 8, .alloc false (List.replicate 5 (.int .i64 0)), none, 0, 0⟩, ⟨some 9, .move (.c (.int .i64 0)), none, 1, 0⟩]
def f17r1 : List AOper := [⟨some 13, .move (.t 0), none, 0, 0⟩, ⟨some 14, .move (.t 2), none, 0, 0⟩, ⟨some 15, .move (.t 3), none, 0, 0⟩, ⟨some 16, .buildSlice true 1 2 [(.int .i64 0), (.int .i64 0)] [(0, 1, (.t 14)), (1, 1, (.t 15))], none, 0, 6⟩, ⟨some 17, .call (.c (.fn 40 [] [])) [(.t 13), (.t 16)], none, 0, 15⟩, ⟨some 10, .move (.t 17), none, 0, 31⟩]
def f17r2 : List AOper := [⟨some 18, .move (.t 10), none, 0, 0⟩, ⟨some 19, .bin .neq (.t 18) (.c (.int .i64 0)), none, 0, 1⟩]
def f17r3 : List AOper := [⟨some 20, .build (List.replicate 5 (.int .i64 0)) [], none, 0, 0⟩, ⟨some 21, .move (.t 10), none, 0, 0⟩, ⟨none, .store 5 (.t 8) (.t 20), none, 0, 1⟩, ⟨some 9, .move (.t 21), none, 0, 7⟩]
def f17r4 : List AOper := [⟨some 22, .move (.t 0), none, 0, 0⟩, ⟨some 23, .build [.nilp] [(0, 1, (.t 22))], none, 0, 1⟩, ⟨some 11, .alloc false [.nilp], none, 0, 0⟩, ⟨none, .store 1 (.t 11) (.t 23), none, 1, 7⟩]
def f17r5 : List AOper := [⟨some 24, .load true 1 (.t 11), none, 0, 0⟩, ⟨some 25, .fn 42 [(.t 24)] [], none, 0, 1⟩, ⟨some 12, .move (.t 25), none, 0, 3⟩]
def f17r6 : List AOper := [⟨some 27, .move (.t 12), none, 0, 0⟩, ⟨some 28, .move (.t 2), none, 0, 0⟩, ⟨some 29, .call (.t 27) [(.t 28)], none, 0, 3⟩, ⟨some 30, .move (.t 29), none, 0, 7⟩, ⟨some 31, .move (.t 12), (some (30, true)), 0, 15⟩, ⟨some 32, .move (.t 3), (some (30, true)), 0, 15⟩, ⟨some 33, .call (.t 31) [(.t 32)], (some (30, true)), 0, 63⟩, ⟨some 34, .pick (.t 30) (.t 33) (.c (.bool false)), none, 0, 127⟩, ⟨some 26, .move (.t 34), none, 0, 255⟩]
def f17q7 : List AOper := [⟨some 35, .move (.t 1), none, 0, 0⟩, ⟨some 36, .load true 1 (.t 11), none, 0, 0⟩, ⟨some 37, .move (.t 2), none, 0, 0⟩, ⟨some 38, .call (.c (.fn 44 [] [])) [(.t 36), (.t 37)], none, 0, 6⟩, ⟨some 39, .load true 1 (.t 11), none, 0, 0⟩, ⟨some 40, .move (.t 3), none, 0, 0⟩, ⟨some 41, .call (.c (.fn 44 [] [])) [(.t 39), (.t 40)], none, 0, 62⟩, ⟨some 42, .call (.c (.fn 46 [] [])) [(.t 35), (.t 38), (.t 41)], none, 0, 127⟩, ⟨some 43, .extract (.t 42) 0, none, 0, 255⟩, ⟨some 44, .extract (.t 42) 1, none, 0, 255⟩, ⟨none, .store 5 (.t 8) (.t 43), none, 0, 1023⟩, ⟨some 9, .move (.t 44), none, 0, 2047⟩]
def f17r7 : List AOper := f17q7
def f17r8 : List AOper := [⟨some 46, .load true 1 (.t 11), none, 0, 0⟩, ⟨some 47, .move (.t 2), none, 0, 0⟩, ⟨some 48, .call (.c (.fn 45 [] [])) [(.t 46), (.t 47)], none, 0, 3⟩, ⟨some 49, .move (.t 48), none, 0, 7⟩, ⟨some 50, .load true 1 (.t 11), (some (49, true)), 0, 15⟩, ⟨some 51, .move (.t 3), (some (49, true)), 0, 15⟩, ⟨some 52, .call (.c (.fn 45 [] [])) [(.t 50), (.t 51)], (some (49, true)), 0, 63⟩, ⟨some 53, .pick (.t 49) (.t 52) (.c (.bool false)), none, 0, 127⟩, ⟨some 45, .move (.t 53), none, 0, 255⟩]
def f17r9 : List AOper := [⟨some 54, .load true 1 (.t 11), none, 0, 0⟩, ⟨some 55, .move (.t 1), none, 0, 0⟩, ⟨some 56, .move (.t 2), none, 0, 0⟩, ⟨some 57, .move (.t 3), none, 0, 0⟩, ⟨some 58, .call (.c (.fn 47 [] [])) [(.t 54), (.t 55), (.t 56), (.t 57)], none, 0, 15⟩, ⟨some 59, .extract (.t 58) 0, none, 0, 31⟩, ⟨some 60, .extract (.t 58) 1, none, 0, 31⟩, ⟨none, .store 5 (.t 8) (.t 59), none, 0, 127⟩, ⟨some 9, .move (.t 60), none, 0, 255⟩]
def f17r10 : List AOper := [⟨some 62, .load true 1 (.t 11), none, 0, 0⟩, ⟨some 63, .move (.t 2), none, 0, 0⟩, ⟨some 64, .call (.c (.fn 45 [] [])) [(.t 62), (.t 63)], none, 0, 3⟩, ⟨some 65, .move (.t 64), none, 0, 7⟩, ⟨some 66, .move (.t 12), (some (65, true)), 0, 15⟩, ⟨some 67, .move (.t 3), (some (65, true)), 0, 15⟩, ⟨some 68, .call (.t 66) [(.t 67)], (some (65, true)), 0, 63⟩, ⟨some 69, .pick (.t 65) (.t 68) (.c (.bool false)), none, 0, 127⟩, ⟨some 70, .move (.t 69), none, 0, 255⟩, ⟨some 71, .move (.t 1), (some (70, true)), 0, 511⟩, ⟨some 72, .bin .eql (.t 71) (.c (.str [43])), (some (70, true)), 0, 1023⟩, ⟨some 73, .pick (.t 70) (.t 72) (.c (.bool false)), none, 0, 2047⟩, ⟨some 61, .move (.t 73), none, 0, 4095⟩]
def f17q11 : List AOper := [⟨some 74, .load true 1 (.t 11), none, 0, 0⟩, ⟨some 75, .move (.t 2), none, 0, 0⟩, ⟨some 76, .call (.c (.fn 49 [] [])) [], none, 0, 0⟩, ⟨some 77, .build (List.replicate 5 (.int .i64 0)) [(0, 1, (.c (.int .i64 1))), (1, 1, (.t 75)), (2, 1, (.t 76))], none, 0, 6⟩, ⟨some 78, .move (.t 2), none, 0, 0⟩, ⟨some 79, .call (.c (.fn 48 [] [])) [(.t 74), (.t 77), (.t 78)], none, 0, 31⟩, ⟨some 80, .extract (.t 79) 0, none, 0, 63⟩, ⟨some 81, .extract (.t 79) 1, none, 0, 63⟩, ⟨none, .store 5 (.t 8) (.t 80), none, 0, 255⟩, ⟨some 9, .move (.t 81), none, 0, 511⟩]
def f17r11 : List AOper := f17q11
def f17r12 : List AOper := [⟨some 83, .load true 1 (.t 11), none, 0, 0⟩, ⟨some 84, .move (.t 2), none, 0, 0⟩, ⟨some 85, .call (.c (.fn 45 [] [])) [(.t 83), (.t 84)], none, 0, 3⟩, ⟨some 86, .move (.t 85), none, 0, 7⟩, ⟨some 87, .move (.t 12), (some (86, true)), 0, 15⟩, ⟨some 88, .move (.t 3), (some (86, true)), 0, 15⟩, ⟨some 89, .call (.t 87) [(.t 88)], (some (86, true)), 0, 63⟩, ⟨some 90, .pick (.t 86) (.t 89) (.c (.bool false)), none, 0, 127⟩, ⟨some 91, .move (.t 90), none, 0, 255⟩, ⟨some 92, .move (.t 1), (some (91, true)), 0, 511⟩, ⟨some 93, .bin .eql (.t 92) (.c (.str [45])), (some (91, true)), 0, 1023⟩, ⟨some 94, .pick (.t 91) (.t 93) (.c (.bool false)), none, 0, 2047⟩, ⟨some 82, .move (.t 94), none, 0, 4095⟩]
def f17q13 : List AOper := [⟨some 95, .load true 1 (.t 11), none, 0, 0⟩, ⟨some 96, .move (.t 2), none, 0, 0⟩, ⟨some 97, .call (.c (.fn 49 [] [])) [], none, 0, 0⟩, ⟨some 98, .build (List.replicate 5 (.int .i64 0)) [(0, 1, (.c (.int .i64 2))), (1, 1, (.t 96)), (2, 1, (.t 97))], none, 0, 6⟩, ⟨some 99, .move (.t 2), none, 0, 0⟩, ⟨some 100, .call (.c (.fn 48 [] [])) [(.t 95), (.t 98), (.t 99)], none, 0, 31⟩, ⟨some 101, .extract (.t 100) 0, none, 0, 63⟩, ⟨some 102, .extract (.t 100) 1, none, 0, 63⟩, ⟨none, .store 5 (.t 8) (.t 101), none, 0, 255⟩, ⟨some 9, .move (.t 102), none, 0, 511⟩]
def f17r13 : List AOper := f17q13
def f17r14 : List AOper := [⟨some 104, .move (.t 12), none, 0, 0⟩, ⟨some 105, .move (.t 2), none, 0, 0⟩, ⟨some 106, .call (.t 104) [(.t 105)], none, 0, 3⟩, ⟨some 107, .move (.t 106), none, 0, 7⟩, ⟨some 108, .load true 1 (.t 11), (some (107, true)), 0, 15⟩, ⟨some 109, .move (.t 3), (some (107, true)), 0, 15⟩, ⟨some 110, .call (.c (.fn 45 [] [])) [(.t 108), (.t 109)], (some (107, true)), 0, 63⟩, ⟨some 111, .pick (.t 107) (.t 110) (.c (.bool false)), none, 0, 127⟩, ⟨some 112, .move (.t 111), none, 0, 255⟩, ⟨some 113, .move (.t 1), (some (112, true)), 0, 511⟩, ⟨some 114, .bin .eql (.t 113) (.c (.str [43])), (some (112, true)), 0, 1023⟩, ⟨some 115, .pick (.t 112) (.t 114) (.c (.bool false)), none, 0, 2047⟩, ⟨some 103, .move (.t 115), none, 0, 4095⟩]
def f17q15 : List AOper := [⟨some 116, .load true 1 (.t 11), none, 0, 0⟩, ⟨some 117, .call (.c (.fn 49 [] [])) [], none, 0, 0⟩, ⟨some 118, .move (.t 3), none, 0, 0⟩, ⟨some 119, .build (List.replicate 5 (.int .i64 0)) [(0, 1, (.c (.int .i64 1))), (1, 1, (.t 117)), (2, 1, (.t 118))], none, 0, 6⟩, ⟨some 120, .move (.t 3), none, 0, 0⟩, ⟨some 121, .call (.c (.fn 48 [] [])) [(.t 116), (.t 119), (.t 120)], none, 0, 31⟩, ⟨some 122, .extract (.t 121) 0, none, 0, 63⟩, ⟨some 123, .extract (.t 121) 1, none, 0, 63⟩, ⟨none, .store 5 (.t 8) (.t 122), none, 0, 255⟩, ⟨some 9, .move (.t 123), none, 0, 511⟩]
def f17r15 : List AOper := f17q15
def f17r16 : List AOper := [⟨some 124, .build (List.replicate 5 (.int .i64 0)) [], none, 0, 0⟩, ⟨none, .store 5 (.t 8) (.t 124), none, 0, 1⟩, ⟨some 9, .move (.c (.int .i64 70)), none, 0, 3⟩]
theorem f17r7_s : staticOK 0 f17r7 = true := by rfl
theorem f17r7_w {A : Tab} {nt : Nat} {keep : List Nat} {n : Nat} {e : Env} {h : Heap} (hr : (bkeep keep (stepsF nt (stepF A true) h.length f17r7 e (h ++ List.replicate n .free))).isSome = true) : Brun A nt (.region true f17r7 keep n) e h = bkeep keep (stepsF nt (stepF A true) h.length f17r7 e (h ++ List.replicate n .free)) := Brun_drawnS f17r7_s hr
theorem f17r7_u (nt base : Nat) (step : Nat → AOp → Env → Heap → Option (AV × Heap)) (e : Env) (h : Heap) : stepsF nt step base f17r7 e h = stepsF nt step base f17q7 e h := rfl
theorem f17r11_s : staticOK 0 f17r11 = true := by rfl
theorem f17r11_w {A : Tab} {nt : Nat} {keep : List Nat} {n : Nat} {e : Env} {h : Heap} (hr : (bkeep keep (stepsF nt (stepF A true) h.length f17r11 e (h ++ List.replicate n .free))).isSome = true) : Brun A nt (.region true f17r11 keep n) e h = bkeep keep (stepsF nt (stepF A true) h.length f17r11 e (h ++ List.replicate n .free)) := Brun_drawnS f17r11_s hr
theorem f17r11_u (nt base : Nat) (step : Nat → AOp → Env → Heap → Option (AV × Heap)) (e : Env) (h : Heap) : stepsF nt step base f17r11 e h = stepsF nt step base f17q11 e h := rfl
theorem f17r13_s : staticOK 0 f17r13 = true := by rfl
theorem f17r13_w {A : Tab} {nt : Nat} {keep : List Nat} {n : Nat} {e : Env} {h : Heap} (hr : (bkeep keep (stepsF nt (stepF A true) h.length f17r13 e (h ++ List.replicate n .free))).isSome = true) : Brun A nt (.region true f17r13 keep n) e h = bkeep keep (stepsF nt (stepF A true) h.length f17r13 e (h ++ List.replicate n .free)) := Brun_drawnS f17r13_s hr
theorem f17r13_u (nt base : Nat) (step : Nat → AOp → Env → Heap → Option (AV × Heap)) (e : Env) (h : Heap) : stepsF nt step base f17r13 e h = stepsF nt step base f17q13 e h := rfl
theorem f17r15_s : staticOK 0 f17r15 = true := by rfl
theorem f17r15_w {A : Tab} {nt : Nat} {keep : List Nat} {n : Nat} {e : Env} {h : Heap} (hr : (bkeep keep (stepsF nt (stepF A true) h.length f17r15 e (h ++ List.replicate n .free))).isSome = true) : Brun A nt (.region true f17r15 keep n) e h = bkeep keep (stepsF nt (stepF A true) h.length f17r15 e (h ++ List.replicate n .free)) := Brun_drawnS f17r15_s hr
theorem f17r15_u (nt base : Nat) (step : Nat → AOp → Env → Heap → Option (AV × Heap)) (e : Env) (h : Heap) : stepsF nt step base f17r15 e h = stepsF nt step base f17q15 e h := rfl
def f17c : ACode :=
 .seq (.region false f17r0 [0, 1, 2, 3, 8] 1)
 (.seq (.seq (.region false f17r1 [0, 1, 2, 3, 8, 10] 0)
 (.seq (.region false f17r2 [0, 1, 2, 3, 8, 10, 19] 0)
 (.cond (.t 19)
  (.seq (.region false f17r3 [8, 9] 0)
  (.ret))
  (.skip))))
 (.seq (.region false f17r4 [1, 2, 3, 8, 11] 1)
 (.seq (.region false f17r5 [1, 2, 3, 8, 11, 12] 0)
 (.seq (.block 0 (.seq (.region false f17r6 [1, 2, 3, 8, 11, 12, 26] 0)
  (.cond (.t 26)
   (.seq (.region true f17r7 [8, 9] 0)
   (.ret))
   (.seq (.region false f17r8 [1, 2, 3, 8, 11, 12, 45] 0)
   (.cond (.t 45)
    (.seq (.region false f17r9 [8, 9] 0)
    (.ret))
    (.seq (.region false f17r10 [1, 2, 3, 8, 11, 12, 61] 0)
    (.cond (.t 61)
     (.seq (.region true f17r11 [8, 9] 0)
     (.ret))
     (.seq (.region false f17r12 [1, 2, 3, 8, 11, 12, 82] 0)
     (.cond (.t 82)
      (.seq (.region true f17r13 [8, 9] 0)
      (.ret))
      (.seq (.region false f17r14 [3, 8, 11, 103] 0)
      (.cond (.t 103)
       (.seq (.region true f17r15 [8, 9] 0)
       (.ret))
       (.skip))))))))))))
 (.seq (.region false f17r16 [8, 9] 0)
 (.ret))))))
def f17 : AFn := ⟨4, 125, [.cell 8 true 5, .tmp 9], f17c, 1, none⟩
def f17k : List (Nat × List Nat) := [(0, [0, 1, 2, 3, 8]), (1, [0, 1, 2, 3, 8, 10]), (2, [0, 1, 2, 3, 8, 10, 19]), (3, [8, 9]), (4, [1, 2, 3, 8, 11]), (5, [1, 2, 3, 8, 11, 12]), (6, [1, 2, 3, 8, 11, 12, 26]), (8, [1, 2, 3, 8, 11, 12, 45]), (10, [1, 2, 3, 8, 11, 12, 61]), (12, [1, 2, 3, 8, 11, 12, 82]), (14, [3, 8, 11, 103]), (15, [8, 9]), (13, [8, 9]), (11, [8, 9]), (9, [8, 9]), (7, [8, 9]), (16, [8, 9])]
def f17v : List Nat := [16]
def f19r0 : List AOper := [⟨some 6, .move (.c (.int .i64 0)), none, 0, 0⟩, ⟨some 7, .move (.c (.int .i64 0)), none, 0, 1⟩]
def f19r1 : List AOper := [⟨some 10, .move (.t 0), none, 0, 0⟩, ⟨some 11, .move (.t 2), none, 0, 0⟩, ⟨some 12, .buildSlice true 1 1 [(.int .i64 0)] [(0, 1, (.t 11))], none, 0, 2⟩, ⟨some 13, .call (.c (.fn 40 [] [])) [(.t 10), (.t 12)], none, 0, 7⟩, ⟨some 8, .move (.t 13), none, 0, 15⟩]
def f19r2 : List AOper := [⟨some 14, .move (.t 8), none, 0, 0⟩, ⟨some 15, .bin .neq (.t 14) (.c (.int .i64 0)), none, 0, 1⟩]
def f19r3 : List AOper := [⟨some 16, .move (.t 8), none, 0, 0⟩, ⟨some 6, .move (.c (.int .i64 0)), none, 0, 0⟩, ⟨some 7, .move (.t 16), none, 0, 3⟩]
def f19r4 : List AOper := [⟨some 17, .move (.t 0), none, 0, 0⟩, ⟨some 18, .build [.nilp] [(0, 1, (.t 17))], none, 0, 1⟩, ⟨some 9, .alloc false [.nilp], none, 0, 0⟩, ⟨none, .store 1 (.t 9) (.t 18), none, 1, 7⟩]
def f19r5 : List AOper := [⟨some 20, .move (.t 1), none, 0, 0⟩, ⟨some 21, .bin .eql (.t 20) (.c (.str [33])), none, 0, 1⟩, ⟨some 22, .move (.t 21), none, 0, 3⟩, ⟨some 23, .move (.t 0), (some (22, true)), 0, 7⟩, ⟨some 24, .move (.t 2), (some (22, true)), 0, 7⟩, ⟨some 25, .call (.c (.fn 56 [] [])) [(.t 23), (.t 24)], (some (22, true)), 0, 31⟩, ⟨some 26, .pick (.t 22) (.t 25) (.c (.bool false)), none, 0, 63⟩, ⟨some 19, .move (.t 26), none, 0, 127⟩]
def f19r6 : List AOper := [⟨some 27, .call (.c (.fn 49 [] [])) [], none, 0, 0⟩, ⟨some 6, .move (.t 27), none, 0, 1⟩, ⟨some 7, .move (.c (.int .i64 0)), none, 0, 3⟩]
def f19r7 : List AOper := [⟨some 29, .move (.t 1), none, 0, 0⟩, ⟨some 30, .bin .eql (.t 29) (.c (.str [43])), none, 0, 1⟩, ⟨some 31, .move (.t 30), none, 0, 3⟩, ⟨some 32, .move (.t 1), (some (31, false)), 0, 7⟩, ⟨some 33, .bin .eql (.t 32) (.c (.str [45])), (some (31, false)), 0, 15⟩, ⟨some 34, .pick (.t 31) (.c (.bool true)) (.t 33), none, 0, 31⟩, ⟨some 35, .move (.t 34), none, 0, 63⟩, ⟨some 36, .move (.t 1), (some (35, false)), 0, 127⟩, ⟨some 37, .bin .eql (.t 36) (.c (.str [126])), (some (35, false)), 0, 255⟩, ⟨some 38, .pick (.t 35) (.c (.bool true)) (.t 37), none, 0, 511⟩, ⟨some 39, .move (.t 38), none, 0, 1023⟩, ⟨some 40, .load true 1 (.t 9), (some (39, true)), 0, 2047⟩, ⟨some 41, .move (.t 2), (some (39, true)), 0, 2047⟩, ⟨some 42, .call (.c (.fn 42 [] [])) [(.t 40), (.t 41)], (some (39, true)), 0, 8191⟩, ⟨some 43, .pick (.t 39) (.t 42) (.c (.bool false)), none, 0, 16383⟩, ⟨some 28, .move (.t 43), none, 0, 32767⟩]
def f19r8 : List AOper := [⟨some 44, .load true 1 (.t 9), none, 0, 0⟩, ⟨some 45, .move (.t 2), none, 0, 0⟩, ⟨some 46, .call (.c (.fn 44 [] [])) [(.t 44), (.t 45)], none, 0, 3⟩, ⟨some 47, .call (.c (.fn 12 [] [])) [(.t 46), (.c (.int .i64 (-1)))], none, 0, 7⟩, ⟨some 48, .call (.c (.fn 57 [] [])) [(.t 47)], none, 0, 15⟩, ⟨some 6, .move (.t 48), none, 0, 31⟩, ⟨some 7, .move (.c (.int .i64 0)), none, 0, 63⟩]
def f19r9 : List AOper := [⟨some 6, .move (.c (.int .i64 0)), none, 0, 0⟩, ⟨some 7, .move (.c (.int .i64 70)), none, 0, 1⟩]
def f19c : ACode :=
 .seq (.region false f19r0 [0, 1, 2] 0)
 (.seq (.seq (.region false f19r1 [0, 1, 2, 8] 0)
 (.seq (.region false f19r2 [0, 1, 2, 8, 15] 0)
 (.cond (.t 15)
  (.seq (.region false f19r3 [6, 7] 0)
  (.ret))
  (.skip))))
 (.seq (.region false f19r4 [0, 1, 2, 9] 1)
 (.seq (.block 0 (.seq (.region false f19r5 [1, 2, 9, 19] 0)
  (.cond (.t 19)
   (.seq (.region false f19r6 [6, 7] 0)
   (.ret))
   (.seq (.region false f19r7 [2, 9, 28] 0)
   (.cond (.t 28)
    (.seq (.region false f19r8 [6, 7] 0)
    (.ret))
    (.skip))))))
 (.seq (.region false f19r9 [6, 7] 0)
 (.ret)))))
def f19 : AFn := ⟨3, 49, [.tmp 6, .tmp 7], f19c, 1, none⟩
def f19k : List (Nat × List Nat) := [(0, [0, 1, 2]), (1, [0, 1, 2, 8]), (2, [0, 1, 2, 8, 15]), (3, [6, 7]), (4, [0, 1, 2, 9]), (5, [1, 2, 9, 19]), (7, [2, 9, 28]), (8, [6, 7]), (6, [6, 7]), (9, [6, 7])]
def f19v : List Nat := [12]
def f21r0 : List AOper := [⟨some 6, .move (.c (.int .i64 0)), none, 0, 0⟩, ⟨some 7, .move (.c (.int .i64 0)), none, 0, 1⟩]
def f21r1 : List AOper := [⟨some 13, .move (.t 0), none, 0, 0⟩, ⟨some 14, .move (.t 1), none, 0, 0⟩, ⟨some 15, .move (.t 2), none, 0, 0⟩, ⟨some 16, .buildSlice true 1 2 [(.int .i64 0), (.int .i64 0)] [(0, 1, (.t 14)), (1, 1, (.t 15))], none, 0, 6⟩, ⟨some 17, .call (.c (.fn 40 [] [])) [(.t 13), (.t 16)], none, 0, 15⟩, ⟨some 8, .move (.t 17), none, 0, 31⟩]
def f21r2 : List AOper := [⟨some 18, .move (.t 8), none, 0, 0⟩, ⟨some 19, .bin .neq (.t 18) (.c (.int .i64 0)), none, 0, 1⟩]
def f21r3 : List AOper := [⟨some 20, .move (.t 8), none, 0, 0⟩, ⟨some 6, .move (.c (.int .i64 0)), none, 0, 0⟩, ⟨some 7, .move (.t 20), none, 0, 3⟩]
def f21r4 : List AOper := [⟨some 21, .move (.t 0), none, 0, 0⟩, ⟨some 22, .build [.nilp] [(0, 1, (.t 21))], none, 0, 1⟩, ⟨some 9, .alloc false [.nilp], none, 0, 0⟩, ⟨none, .store 1 (.t 9) (.t 22), none, 1, 7⟩]
def f21r5 : List AOper := [⟨some 23, .load true 1 (.t 9), none, 0, 0⟩, ⟨some 24, .move (.t 1), none, 0, 0⟩, ⟨some 25, .call (.c (.fn 42 [] [])) [(.t 23), (.t 24)], none, 0, 3⟩, ⟨some 26, .move (.t 25), none, 0, 7⟩, ⟨some 27, .load true 1 (.t 9), (some (26, true)), 0, 15⟩, ⟨some 28, .move (.t 2), (some (26, true)), 0, 15⟩, ⟨some 29, .call (.c (.fn 42 [] [])) [(.t 27), (.t 28)], (some (26, true)), 0, 63⟩, ⟨some 30, .pick (.t 26) (.t 29) (.c (.bool false)), none, 0, 127⟩]
def f21q6 : List AOper := [⟨some 32, .load true 1 (.t 9), none, 0, 0⟩, ⟨some 33, .move (.t 1), none, 0, 0⟩, ⟨some 34, .call (.c (.fn 44 [] [])) [(.t 32), (.t 33)], none, 0, 3⟩, ⟨some 35, .load true 1 (.t 9), none, 0, 0⟩, ⟨some 36, .move (.t 2), none, 0, 0⟩, ⟨some 37, .call (.c (.fn 44 [] [])) [(.t 35), (.t 36)], none, 0, 31⟩, ⟨some 38, .call (.c (.fn 9 [] [])) [(.t 34), (.t 37)], none, 0, 63⟩, ⟨some 31, .move (.t 38), none, 0, 127⟩, ⟨some 39, .extract (.t 31) 0, none, 0, 255⟩, ⟨some 40, .extract (.t 31) 1, none, 0, 255⟩, ⟨some 10, .move (.t 39), none, 0, 511⟩, ⟨some 11, .move (.t 40), none, 0, 2047⟩]
def f21r6 : List AOper := f21q6
def f21r7 : List AOper := [⟨some 41, .move (.t 10), none, 0, 0⟩, ⟨some 42, .call (.c (.fn 57 [] [])) [(.t 41)], none, 0, 1⟩, ⟨some 43, .move (.t 11), none, 0, 0⟩, ⟨some 6, .move (.t 42), none, 0, 3⟩, ⟨some 7, .move (.t 43), none, 0, 15⟩]
def f21r8 : List AOper := [⟨some 44, .load true 1 (.t 9), none, 0, 0⟩, ⟨some 45, .move (.t 1), none, 0, 0⟩, ⟨some 46, .call (.c (.fn 44 [] [])) [(.t 44), (.t 45)], none, 0, 3⟩, ⟨some 12, .move (.t 46), none, 0, 7⟩]
def f21r9 : List AOper := [⟨some 48, .move (.t 1), none, 0, 0⟩, ⟨some 49, .move (.t 2), none, 0, 0⟩, ⟨some 50, .bin .eql (.t 48) (.t 49), none, 0, 3⟩, ⟨some 51, .move (.t 50), none, 0, 7⟩, ⟨some 52, .move (.t 12), (some (51, true)), 0, 15⟩, ⟨some 53, .bin .eql (.t 52) (.c (.int .i64 13)), (some (51, true)), 0, 31⟩, ⟨some 54, .move (.t 53), (some (51, true)), 0, 63⟩, ⟨some 55, .move (.t 12), (some (54, false)), 0, 127⟩, ⟨some 56, .bin .eql (.t 55) (.c (.int .i64 1)), (some (54, false)), 0, 255⟩, ⟨some 57, .pick (.t 54) (.c (.bool true)) (.t 56), (some (51, true)), 0, 511⟩, ⟨some 58, .move (.t 57), (some (51, true)), 0, 1023⟩, ⟨some 59, .move (.t 12), (some (58, false)), 0, 2047⟩, ⟨some 60, .bin .eql (.t 59) (.c (.int .i64 15)), (some (58, false)), 0, 4095⟩, ⟨some 61, .pick (.t 58) (.c (.bool true)) (.t 60), (some (51, true)), 0, 8191⟩, ⟨some 62, .move (.t 61), (some (51, true)), 0, 16383⟩, ⟨some 63, .move (.t 12), (some (62, false)), 0, 32767⟩, ⟨some 64, .bin .eql (.t 63) (.c (.int .i64 16)), (some (62, false)), 0, 65535⟩, ⟨some 65, .pick (.t 62) (.c (.bool true)) (.t 64), (some (51, true)), 0, 131071⟩, ⟨some 66, .pick (.t 51) (.t 65) (.c (.bool false)), none, 0, 262143⟩, ⟨some 47, .move (.t 66), none, 0, 524287⟩]
def f21r10 : List AOper := [⟨some 67, .move (.t 1), none, 0, 0⟩, ⟨some 6, .move (.t 67), none, 0, 1⟩, ⟨some 7, .move (.c (.int .i64 0)), none, 0, 3⟩]
def f21r11 : List AOper := [⟨some 69, .load true 1 (.t 9), none, 0, 0⟩, ⟨some 70, .move (.t 1), none, 0, 0⟩, ⟨some 71, .call (.c (.fn 59 [] [])) [(.t 69), (.t 70)], none, 0, 3⟩, ⟨some 72, .move (.t 71), none, 0, 7⟩, ⟨some 73, .load true 1 (.t 9), (some (72, true)), 0, 15⟩, ⟨some 74, .move (.t 2), (some (72, true)), 0, 15⟩, ⟨some 75, .call (.c (.fn 45 [] [])) [(.t 73), (.t 74)], (some (72, true)), 0, 63⟩, ⟨some 76, .pick (.t 72) (.t 75) (.c (.bool false)), none, 0, 127⟩, ⟨some 68, .move (.t 76), none, 0, 255⟩]
def f21r12 : List AOper := [⟨some 77, .move (.t 1), none, 0, 0⟩, ⟨some 6, .move (.t 77), none, 0, 1⟩, ⟨some 7, .move (.c (.int .i64 0)), none, 0, 3⟩]
def f21r13 : List AOper := [⟨some 79, .load true 1 (.t 9), none, 0, 0⟩, ⟨some 80, .move (.t 1), none, 0, 0⟩, ⟨some 81, .call (.c (.fn 45 [] [])) [(.t 79), (.t 80)], none, 0, 3⟩, ⟨some 82, .move (.t 81), none, 0, 7⟩, ⟨some 83, .load true 1 (.t 9), (some (82, true)), 0, 15⟩, ⟨some 84, .move (.t 2), (some (82, true)), 0, 15⟩, ⟨some 85, .call (.c (.fn 59 [] [])) [(.t 83), (.t 84)], (some (82, true)), 0, 63⟩, ⟨some 86, .pick (.t 82) (.t 85) (.c (.bool false)), none, 0, 127⟩, ⟨some 78, .move (.t 86), none, 0, 255⟩]
def f21r14 : List AOper := [⟨some 87, .move (.t 2), none, 0, 0⟩, ⟨some 6, .move (.t 87), none, 0, 1⟩, ⟨some 7, .move (.c (.int .i64 0)), none, 0, 3⟩]
def f21r15 : List AOper := [⟨some 6, .move (.c (.int .i64 0)), none, 0, 0⟩, ⟨some 7, .move (.c (.int .i64 70)), none, 0, 1⟩]
theorem f21r6_s : staticOK 0 f21r6 = true := by rfl
theorem f21r6_w {A : Tab} {nt : Nat} {keep : List Nat} {n : Nat} {e : Env} {h : Heap} (hr : (bkeep keep (stepsF nt (stepF A true) h.length f21r6 e (h ++ List.replicate n .free))).isSome = true) : Brun A nt (.region true f21r6 keep n) e h = bkeep keep (stepsF nt (stepF A true) h.length f21r6 e (h ++ List.replicate n .free)) := Brun_drawnS f21r6_s hr
theorem f21r6_u (nt base : Nat) (step : Nat → AOp → Env → Heap → Option (AV × Heap)) (e : Env) (h : Heap) : stepsF nt step base f21r6 e h = stepsF nt step base f21q6 e h := rfl
def f21c : ACode :=
 .seq (.region false f21r0 [0, 1, 2] 0)
 (.seq (.seq (.region false f21r1 [0, 1, 2, 8] 0)
 (.seq (.region false f21r2 [0, 1, 2, 8, 19] 0)
 (.cond (.t 19)
  (.seq (.region false f21r3 [6, 7] 0)
  (.ret))
  (.skip))))
 (.seq (.region false f21r4 [1, 2, 9] 1)
 (.seq (.seq (.region false f21r5 [1, 2, 9, 30] 0)
 (.cond (.t 30)
  (.seq (.region true f21r6 [10, 11] 0)
  (.seq (.region false f21r7 [6, 7] 0)
  (.ret)))
  (.skip)))
 (.seq (.seq (.region false f21r8 [1, 2, 9, 12] 0)
 (.block 0 (.seq (.region false f21r9 [1, 2, 9, 47] 0)
  (.cond (.t 47)
   (.seq (.region false f21r10 [6, 7] 0)
   (.ret))
   (.seq (.region false f21r11 [1, 2, 9, 68] 0)
   (.cond (.t 68)
    (.seq (.region false f21r12 [6, 7] 0)
    (.ret))
    (.seq (.region false f21r13 [2, 78] 0)
    (.cond (.t 78)
     (.seq (.region false f21r14 [6, 7] 0)
     (.ret))
     (.skip)))))))))
 (.seq (.region false f21r15 [6, 7] 0)
 (.ret))))))
def f21 : AFn := ⟨3, 88, [.tmp 6, .tmp 7], f21c, 1, none⟩
def f21k : List (Nat × List Nat) := [(0, [0, 1, 2]), (1, [0, 1, 2, 8]), (2, [0, 1, 2, 8, 19]), (3, [6, 7]), (4, [1, 2, 9]), (5, [1, 2, 9, 30]), (6, [10, 11]), (7, [6, 7]), (8, [1, 2, 9, 12]), (9, [1, 2, 9, 47]), (11, [1, 2, 9, 68]), (13, [2, 78]), (14, [6, 7]), (12, [6, 7]), (10, [6, 7]), (15, [6, 7])]
def f21v : List Nat := [16]
def f32r0 : List AOper := [⟨some 2, .move (.c .nilp), none, 0, 0⟩, ⟨some 3, .move (.c (.int .i64 0)), none, 0, 1⟩]
def f32r1 : List AOper := [⟨some 8, .move (.t 0), none, 0, 0⟩, ⟨some 9, .len 1 (.t 8), none, 0, 1⟩, ⟨some 10, .bin .lss (.t 9) (.c (.int .i64 11)), none, 0, 3⟩, ⟨some 11, .move (.t 10), none, 0, 7⟩, ⟨some 12, .move (.t 0), (some (11, false)), 0, 15⟩, ⟨some 13, .len 1 (.t 12), (some (11, false)), 0, 31⟩, ⟨some 14, .bin .gtr (.t 13) (.c (.int .i64 512)), (some (11, false)), 0, 63⟩, ⟨some 15, .pick (.t 11) (.c (.bool true)) (.t 14), none, 0, 127⟩]
def f32r2 : List AOper := [⟨some 2, .move (.c .nilp), none, 0, 0⟩, ⟨some 3, .move (.c (.int .i64 30)), none, 0, 1⟩]
def f32r3 : List AOper := [⟨some 16, .move (.t 0), none, 0, 0⟩, ⟨some 17, .build [(.is [] .nil)] [(0, 1, (.t 16))], none, 0, 1⟩, ⟨some 18, .box false (.t 17), none, 0, 3⟩, ⟨some 19, .call (.c (.fn 34 [] [])) [(.t 18)], none, 1, 7⟩, ⟨some 4, .move (.t 19), none, 1, 15⟩]
def f32r4 : List AOper := [⟨some 5, .move (.c (.int .i64 0)), none, 0, 0⟩]
def f32r5 : List AOper := [⟨some 20, .move (.t 5), none, 0, 0⟩, ⟨some 21, .move (.t 4), none, 0, 0⟩, ⟨some 22, .nilCheck (.t 21), none, 0, 2⟩, ⟨some 23, .fieldAddr 0 (.t 22), none, 0, 6⟩, ⟨some 24, .load false 1 (.t 23), none, 0, 14⟩, ⟨some 25, .len 1 (.t 24), none, 0, 30⟩, ⟨some 26, .bin .lss (.t 20) (.t 25), none, 0, 63⟩]
def f32r6 : List AOper := [⟨some 29, .move (.t 4), none, 0, 0⟩, ⟨some 30, .move (.t 5), none, 0, 0⟩, ⟨some 31, .call (.c (.fn 81 [] [])) [(.t 29), (.t 30)], none, 0, 3⟩, ⟨some 32, .un .not (.t 31), none, 0, 7⟩, ⟨some 33, .move (.t 32), none, 0, 15⟩, ⟨some 34, .move (.t 4), (some (33, false)), 0, 31⟩, ⟨some 35, .move (.t 5), (some (33, false)), 0, 31⟩, ⟨some 36, .call (.c (.fn 82 [] [])) [(.t 34), (.t 35)], (some (33, false)), 0, 127⟩, ⟨some 37, .pick (.t 33) (.c (.bool true)) (.t 36), none, 0, 255⟩]
def f32r7 : List AOper := [⟨some 2, .move (.c .nilp), none, 0, 0⟩, ⟨some 3, .move (.c (.int .i64 30)), none, 0, 1⟩]
def f32r8 : List AOper := [⟨some 27, .move (.t 5), none, 0, 0⟩, ⟨some 28, .bin .add (.t 27) (.c (.int .i64 1)), none, 0, 1⟩, ⟨some 5, .move (.t 28), none, 0, 3⟩]
def f32m5 : ACode :=
 .seq (.seq (.region false f32r5 [4, 5, 26] 0)
 (.cond (.t 26)
  (.skip)
  (.exit 0)))
 (.seq (.block 1 (.seq (.region false f32r6 [4, 5, 37] 0)
  (.cond (.t 37)
   (.seq (.region false f32r7 [2, 3] 0)
   (.ret))
   (.skip))))
 (.region false f32r8 [4, 5] 0))
def f32l5 : ACode := f32m5
theorem f32l5_b {A : Tab} {nt : Nat} {e : Env} {h : Heap} : Brun A nt f32l5 e h = Brun A nt f32m5 e h := rfl
def f32r9 : List AOper := [⟨some 38, .move (.t 4), none, 0, 0⟩, ⟨some 39, .call (.c (.fn 83 [] [])) [(.t 38)], none, 0, 1⟩, ⟨some 6, .move (.t 39), none, 0, 3⟩]
def f32r10 : List AOper := [⟨some 7, .move (.c (.int .i64 0)), none, 0, 0⟩]
def f32r11 : List AOper := [⟨some 40, .move (.t 7), none, 0, 0⟩, ⟨some 41, .move (.t 6), none, 0, 0⟩, ⟨some 42, .len 1 (.t 41), none, 0, 2⟩, ⟨some 43, .bin .lss (.t 40) (.t 42), none, 0, 7⟩]
def f32r12 : List AOper := [⟨some 46, .move (.t 6), none, 0, 0⟩, ⟨some 47, .move (.t 7), none, 0, 0⟩, ⟨some 48, .idxAddr 1 (.t 46) (.t 47), none, 0, 3⟩, ⟨some 49, .load false 1 (.t 48), none, 0, 7⟩, ⟨some 50, .un .not (.t 49), none, 0, 15⟩]
def f32r13 : List AOper := [⟨some 2, .move (.c .nilp), none, 0, 0⟩, ⟨some 3, .move (.c (.int .i64 30)), none, 0, 1⟩]
def f32r14 : List AOper := [⟨some 44, .move (.t 7), none, 0, 0⟩, ⟨some 45, .bin .add (.t 44) (.c (.int .i64 1)), none, 0, 1⟩, ⟨some 7, .move (.t 45), none, 0, 3⟩]
def f32m11 : ACode :=
 .seq (.seq (.region false f32r11 [4, 6, 7, 43] 0)
 (.cond (.t 43)
  (.skip)
  (.exit 2)))
 (.seq (.block 3 (.seq (.region false f32r12 [4, 6, 7, 50] 0)
  (.cond (.t 50)
   (.seq (.region false f32r13 [2, 3] 0)
   (.ret))
   (.skip))))
 (.region false f32r14 [4, 6, 7] 0))
def f32l11 : ACode := f32m11
theorem f32l11_b {A : Tab} {nt : Nat} {e : Env} {h : Heap} : Brun A nt f32l11 e h = Brun A nt f32m11 e h := rfl
def f32r15 : List AOper := [⟨some 51, .move (.t 4), none, 0, 0⟩, ⟨some 2, .move (.t 51), none, 0, 1⟩, ⟨some 3, .move (.c (.int .i64 0)), none, 0, 3⟩]
def f32c : ACode :=
 .seq (.region false f32r0 [0] 0)
 (.seq (.seq (.region false f32r1 [0, 15] 0)
 (.cond (.t 15)
  (.seq (.region false f32r2 [2, 3] 0)
  (.ret))
  (.skip)))
 (.seq (.region false f32r3 [4] 1)
 (.seq (.seq (.region false f32r4 [4, 5] 0)
 (.block 0 (.loop f32l5)))
 (.seq (.region false f32r9 [4, 6] 0)
 (.seq (.seq (.region false f32r10 [4, 6, 7] 0)
 (.block 2 (.loop f32l11)))
 (.seq (.region false f32r15 [2, 3] 0)
 (.ret)))))))
def f32 : AFn := ⟨1, 52, [.tmp 2, .tmp 3], f32c, 0, none⟩
def f32k : List (Nat × List Nat) := [(0, [0]), (1, [0, 15]), (2, [2, 3]), (3, [4]), (4, [4, 5]), (5, [4, 5, 26]), (7, [4, 5, 37]), (8, [2, 3]), (6, [4, 5]), (9, [4, 6]), (10, [4, 6, 7]), (11, [4, 6, 7, 43]), (13, [4, 6, 7, 50]), (14, [2, 3]), (12, [4, 6, 7]), (15, [2, 3])]
def f32v : List Nat := []
def f33r0 : List AOper := [⟨some 2, .move (.c .nilp), none, 0, 0⟩, ⟨some 3, .move (.c (.int .i64 0)), none, 0, 1⟩]
def f33r1 : List AOper := [⟨some 15, .call (.c (.fn 35 [] [])) [], none, 0, 0⟩, ⟨some 4, .move (.t 15), none, 0, 1⟩]
def f33r2 : List AOper := [⟨some 16, .move (.t 4), none, 0, 0⟩, ⟨some 17, .nilCheck (.t 16), none, 0, 1⟩, ⟨some 18, .fieldAddr 0 (.t 17), none, 0, 3⟩, ⟨some 19, .load false 1 (.t 18), none, 0, 7⟩, ⟨some 20, .len 1 (.t 19), none, 0, 15⟩, ⟨some 5, .move (.t 20), none, 0, 31⟩]
def f33r3 : List AOper := [⟨some 21, .move (.t 0), none, 0, 0⟩, ⟨some 22, .len 1 (.t 21), none, 0, 1⟩, ⟨some 23, .move (.t 5), none, 0, 0⟩, ⟨some 24, .bin .lss (.t 22) (.t 23), none, 0, 7⟩, ⟨some 25, .move (.t 24), none, 0, 15⟩, ⟨some 26, .move (.t 0), (some (25, false)), 0, 31⟩, ⟨some 27, .len 1 (.t 26), (some (25, false)), 0, 63⟩, ⟨some 28, .bin .gtr (.t 27) (.c (.int .i64 512)), (some (25, false)), 0, 127⟩, ⟨some 29, .pick (.t 25) (.c (.bool true)) (.t 28), none, 0, 255⟩]
def f33r4 : List AOper := [⟨some 2, .move (.c .nilp), none, 0, 0⟩, ⟨some 3, .move (.c (.int .i64 30)), none, 0, 1⟩]
def f33r5 : List AOper := [⟨some 30, .move (.t 0), none, 0, 0⟩, ⟨some 31, .len 1 (.t 30), none, 0, 1⟩, ⟨some 32, .move (.c (.int .i64 0)), none, 0, 0⟩]
def f33r6 : List AOper := [⟨some 33, .bin .lss (.t 32) (.t 31), none, 0, 0⟩]
def f33r7 : List AOper := [⟨some 34, .move (.t 32), none, 0, 0⟩, ⟨some 35, .idxAddr 6 (.t 30) (.t 32), none, 0, 0⟩, ⟨some 36, .load true 6 (.t 35), none, 0, 2⟩, ⟨some 7, .alloc false [(.int .i64 0), (.int .i64 0), (.int .i64 0), (.str []), (.is [] .nil), (.bool false)], none, 0, 0⟩, ⟨some 6, .move (.t 34), none, 1, 15⟩, ⟨none, .store 6 (.t 7) (.t 36), none, 1, 31⟩]
def f33r8 : List AOper := [⟨some 37, .move (.t 6), none, 0, 0⟩, ⟨some 38, .move (.t 5), none, 0, 0⟩, ⟨some 39, .bin .lss (.t 37) (.t 38), none, 0, 3⟩]
def f33q9 : List AOper := [⟨some 40, .fieldAddr 0 (.t 7), none, 0, 0⟩, ⟨some 41, .load false 1 (.t 40), none, 0, 1⟩, ⟨some 42, .move (.t 4), none, 0, 0⟩, ⟨some 43, .nilCheck (.t 42), none, 0, 4⟩, ⟨some 44, .fieldAddr 0 (.t 43), none, 0, 12⟩, ⟨some 45, .load false 1 (.t 44), none, 0, 28⟩, ⟨some 46, .move (.t 6), none, 0, 0⟩, ⟨some 47, .idxAddr 6 (.t 45) (.t 46), none, 0, 124⟩, ⟨some 48, .fieldAddr 0 (.t 47), none, 0, 252⟩, ⟨some 49, .load false 1 (.t 48), none, 0, 508⟩, ⟨some 50, .bin .neq (.t 41) (.t 49), none, 0, 1023⟩, ⟨some 51, .move (.t 50), none, 0, 2047⟩, ⟨some 52, .fieldAddr 1 (.t 7), (some (51, false)), 0, 4095⟩, ⟨some 53, .load false 1 (.t 52), (some (51, false)), 0, 8191⟩, ⟨some 54, .bin .neq (.t 53) (.c (.int .i64 0)), (some (51, false)), 0, 16383⟩, ⟨some 55, .pick (.t 51) (.c (.bool true)) (.t 54), none, 0, 32767⟩, ⟨some 56, .move (.t 55), none, 0, 65535⟩, ⟨some 57, .fieldAddr 2 (.t 7), (some (56, false)), 0, 131071⟩, ⟨some 58, .load false 1 (.t 57), (some (56, false)), 0, 262143⟩, ⟨some 59, .bin .neq (.t 58) (.c (.int .i64 0)), (some (56, false)), 0, 524287⟩, ⟨some 60, .pick (.t 56) (.c (.bool true)) (.t 59), none, 0, 1048575⟩, ⟨some 61, .move (.t 60), none, 0, 2097151⟩, ⟨some 62, .fieldAddr 3 (.t 7), (some (61, false)), 0, 4194303⟩, ⟨some 63, .load false 1 (.t 62), (some (61, false)), 0, 8388607⟩, ⟨some 64, .bin .neq (.t 63) (.c (.str [])), (some (61, false)), 0, 16777215⟩, ⟨some 65, .pick (.t 61) (.c (.bool true)) (.t 64), none, 0, 33554431⟩, ⟨some 66, .move (.t 65), none, 0, 67108863⟩, ⟨some 67, .fieldAddr 4 (.t 7), (some (66, false)), 0, 134217727⟩, ⟨some 68, .load false 1 (.t 67), (some (66, false)), 0, 268435455⟩, ⟨some 69, .len 1 (.t 68), (some (66, false)), 0, 536870911⟩, ⟨some 70, .bin .gtr (.t 69) (.c (.int .i64 0)), (some (66, false)), 0, 1073741823⟩, ⟨some 71, .pick (.t 66) (.c (.bool true)) (.t 70), none, 0, 2147483647⟩, ⟨some 72, .move (.t 71), none, 0, 4294967295⟩, ⟨some 73, .fieldAddr 5 (.t 7), (some (72, false)), 0, 8589934591⟩, ⟨some 74, .load false 1 (.t 73), (some (72, false)), 0, 17179869183⟩, ⟨some 75, .pick (.t 72) (.c (.bool true)) (.t 74), none, 0, 34359738367⟩]
def f33r9 : List AOper := f33q9
def f33r10 : List AOper := [⟨some 2, .move (.c .nilp), none, 0, 0⟩, ⟨some 3, .move (.c (.int .i64 30)), none, 0, 1⟩]
def f33r11 : List AOper := [⟨some 76, .move (.t 4), none, 0, 0⟩, ⟨some 77, .move (.t 4), none, 0, 0⟩, ⟨some 78, .nilCheck (.t 77), none, 0, 2⟩, ⟨some 79, .fieldAddr 0 (.t 78), none, 0, 6⟩, ⟨some 80, .load false 1 (.t 79), none, 0, 14⟩, ⟨some 81, .load true 6 (.t 7), none, 0, 0⟩, ⟨some 82, .call (.c (.fn 84 [] [])) [(.t 81)], none, 0, 32⟩, ⟨some 83, .buildSlice false 6 1 [(.int .i64 0), (.int .i64 0), (.int .i64 0), (.str []), (.is [] .nil), (.bool false)] [(0, 6, (.t 82))], none, 0, 96⟩, ⟨some 84, .append false 6 72 (.t 80) (.t 83), none, 1, 254⟩, ⟨some 85, .nilCheck (.t 76), none, 2, 511⟩, ⟨some 86, .fieldAddr 0 (.t 85), none, 2, 1023⟩, ⟨none, .store 1 (.t 86) (.t 84), none, 2, 2047⟩]
def f33r12 : List AOper := [⟨some 87, .move (.t 4), none, 0, 0⟩, ⟨some 88, .move (.t 6), none, 0, 0⟩, ⟨some 89, .call (.c (.fn 85 [] [])) [(.t 87), (.t 88)], none, 0, 3⟩, ⟨some 90, .un .not (.t 89), none, 0, 7⟩]
def f33r13 : List AOper := [⟨some 2, .move (.c .nilp), none, 0, 0⟩, ⟨some 3, .move (.c (.int .i64 30)), none, 0, 1⟩]
def f33r14 : List AOper := [⟨some 91, .fieldAddr 0 (.t 7), none, 0, 0⟩, ⟨some 92, .load false 1 (.t 91), none, 0, 1⟩, ⟨some 93, .bin .eql (.t 92) (.c (.int .i64 13)), none, 0, 3⟩, ⟨some 94, .move (.t 93), none, 0, 7⟩, ⟨some 95, .fieldAddr 0 (.t 7), (some (94, false)), 0, 15⟩, ⟨some 96, .load false 1 (.t 95), (some (94, false)), 0, 31⟩, ⟨some 97, .bin .eql (.t 96) (.c (.int .i64 14)), (some (94, false)), 0, 63⟩, ⟨some 98, .pick (.t 94) (.c (.bool true)) (.t 97), none, 0, 127⟩]
def f33r15 : List AOper := [⟨some 99, .fieldAddr 0 (.t 7), none, 0, 0⟩, ⟨some 100, .load false 1 (.t 99), none, 0, 1⟩, ⟨some 101, .fieldAddr 1 (.t 7), none, 0, 0⟩, ⟨some 102, .load false 1 (.t 101), none, 0, 4⟩, ⟨some 103, .fieldAddr 2 (.t 7), none, 0, 0⟩, ⟨some 104, .load false 1 (.t 103), none, 0, 16⟩, ⟨some 105, .build [(.int .i64 0), (.int .i64 0), (.int .i64 0)] [(0, 1, (.t 100)), (1, 1, (.t 102)), (2, 1, (.t 104))], none, 0, 63⟩, ⟨some 8, .alloc false [(.int .i64 0), (.int .i64 0), (.int .i64 0)], none, 0, 0⟩, ⟨none, .store 3 (.t 8) (.t 105), none, 1, 255⟩]
def f33q16 : List AOper := [⟨some 107, .move (.t 4), none, 0, 0⟩, ⟨some 108, .nilCheck (.t 107), none, 0, 1⟩, ⟨some 109, .fieldAddr 1 (.t 108), none, 0, 3⟩, ⟨some 110, .load false 1 (.t 109), none, 0, 7⟩, ⟨some 111, .load true 3 (.t 8), none, 0, 0⟩, ⟨some 112, .lookup true [.int .i64, .int .i64, .int .i64] (.int .i64 0) true (.t 110) (.t 111), none, 0, 31⟩, ⟨some 106, .move (.t 112), none, 0, 63⟩, ⟨some 113, .extract (.t 106) 0, none, 0, 127⟩, ⟨some 114, .extract (.t 106) 1, none, 0, 127⟩, ⟨some 9, .move (.t 113), none, 0, 255⟩, ⟨some 10, .move (.t 114), none, 0, 1023⟩]
def f33r16 : List AOper := f33q16
def f33r17 : List AOper := [⟨some 115, .move (.t 10), none, 0, 0⟩]
def f33r18 : List AOper := [⟨some 2, .move (.c .nilp), none, 0, 0⟩, ⟨some 3, .move (.c (.int .i64 30)), none, 0, 1⟩]
def f33q19 : List AOper := [⟨some 116, .move (.t 4), none, 0, 0⟩, ⟨some 117, .nilCheck (.t 116), none, 0, 1⟩, ⟨some 118, .fieldAddr 1 (.t 117), none, 0, 3⟩, ⟨some 119, .load false 1 (.t 118), none, 0, 7⟩, ⟨some 120, .load true 3 (.t 8), none, 0, 0⟩, ⟨some 121, .move (.t 6), none, 0, 0⟩, ⟨none, .mapUpdate true [.int .i64, .int .i64, .int .i64] (.t 119) (.t 120) (.t 121), none, 0, 63⟩]
def f33r19 : List AOper := f33q19
def f33r20 : List AOper := [⟨some 122, .bin .add (.t 32) (.c (.int .i64 1)), none, 0, 0⟩, ⟨some 32, .move (.t 122), none, 0, 1⟩]
def f33m6 : ACode :=
 .seq (.region false f33r6 [0, 4, 5, 30, 31, 32, 33] 0)
 (.seq (.cond (.t 33)
  (.skip)
  (.exit 0))
 (.seq (.block 1 (.seq (.region false f33r7 [0, 4, 5, 6, 7, 30, 31, 32] 1)
  (.seq (.seq (.region false f33r8 [0, 4, 5, 6, 7, 30, 31, 32, 39] 0)
  (.cond (.t 39)
   (.seq (.seq (.region true f33r9 [0, 4, 5, 30, 31, 32, 75] 0)
   (.cond (.t 75)
    (.seq (.region false f33r10 [2, 3] 0)
    (.ret))
    (.skip)))
   (.exit 1))
   (.skip)))
  (.seq (.region true f33r11 [0, 4, 5, 6, 7, 30, 31, 32] 2)
  (.seq (.seq (.region false f33r12 [0, 4, 5, 6, 7, 30, 31, 32, 90] 0)
  (.cond (.t 90)
   (.seq (.region false f33r13 [2, 3] 0)
   (.ret))
   (.skip)))
  (.seq (.region false f33r14 [0, 4, 5, 6, 7, 30, 31, 32, 98] 0)
  (.cond (.t 98)
   (.seq (.region false f33r15 [0, 4, 5, 6, 8, 30, 31, 32] 1)
   (.seq (.seq (.region true f33r16 [0, 4, 5, 6, 8, 10, 30, 31, 32] 0)
   (.seq (.region false f33r17 [0, 4, 5, 6, 8, 30, 31, 32, 115] 0)
   (.cond (.t 115)
    (.seq (.region false f33r18 [2, 3] 0)
    (.ret))
    (.skip))))
   (.region true f33r19 [0, 4, 5, 30, 31, 32] 0)))
   (.skip))))))))
 (.region false f33r20 [0, 4, 5, 30, 31, 32] 0)))
def f33l6 : ACode := f33m6
theorem f33l6_b {A : Tab} {nt : Nat} {e : Env} {h : Heap} : Brun A nt f33l6 e h = Brun A nt f33m6 e h := rfl
def f33r21 : List AOper := [⟨some 123, .move (.t 0), none, 0, 0⟩, ⟨some 124, .len 1 (.t 123), none, 0, 1⟩, ⟨some 125, .mkSlice false 1 8 [(.int .i64 0)] (.t 124) (.t 124), none, 0, 3⟩, ⟨some 11, .move (.t 125), none, 1, 7⟩]
def f33r22 : List AOper := [⟨some 126, .move (.t 4), none, 0, 0⟩, ⟨some 127, .nilCheck (.t 126), none, 0, 1⟩, ⟨some 128, .fieldAddr 0 (.t 127), none, 0, 3⟩, ⟨some 129, .load false 1 (.t 128), none, 0, 7⟩, ⟨some 130, .len 1 (.t 129), none, 0, 15⟩, ⟨some 131, .move (.c (.int .i64 0)), none, 0, 0⟩]
def f33r23 : List AOper := [⟨some 132, .bin .lss (.t 131) (.t 130), none, 0, 0⟩]
def f33r24 : List AOper := [⟨some 133, .idxAddr 6 (.t 129) (.t 131), none, 0, 0⟩, ⟨some 134, .load true 6 (.t 133), none, 0, 1⟩, ⟨some 13, .alloc false [(.int .i64 0), (.int .i64 0), (.int .i64 0), (.str []), (.is [] .nil), (.bool false)], none, 0, 0⟩, ⟨none, .store 6 (.t 13) (.t 134), none, 1, 7⟩]
def f33r25 : List AOper := [⟨some 135, .fieldAddr 0 (.t 13), none, 0, 0⟩, ⟨some 136, .load false 1 (.t 135), none, 0, 1⟩, ⟨some 137, .bin .eql (.t 136) (.c (.int .i64 14)), none, 0, 3⟩, ⟨some 138, .move (.t 137), none, 0, 7⟩, ⟨some 139, .move (.t 4), (some (138, true)), 0, 15⟩, ⟨some 140, .fieldAddr 1 (.t 13), (some (138, true)), 0, 15⟩, ⟨some 141, .load false 1 (.t 140), (some (138, true)), 0, 47⟩, ⟨some 142, .call (.c (.fn 86 [] [])) [(.t 139), (.t 141)], (some (138, true)), 0, 127⟩, ⟨some 143, .un .not (.t 142), (some (138, true)), 0, 255⟩, ⟨some 144, .pick (.t 138) (.t 143) (.c (.bool false)), none, 0, 511⟩, ⟨some 145, .move (.t 144), none, 0, 1023⟩, ⟨some 146, .fieldAddr 5 (.t 13), (some (145, false)), 0, 2047⟩, ⟨some 147, .load false 1 (.t 146), (some (145, false)), 0, 4095⟩, ⟨some 148, .move (.t 147), (some (145, false)), 0, 8191⟩, ⟨some 149, .move (.t 4), (some (148, true)), 0, 16383⟩, ⟨some 150, .fieldAddr 4 (.t 13), (some (148, true)), 0, 16383⟩, ⟨some 151, .load false 1 (.t 150), (some (148, true)), 0, 49151⟩, ⟨some 152, .call (.c (.fn 87 [] [])) [(.t 149), (.t 151)], (some (148, true)), 0, 131071⟩, ⟨some 153, .bin .neq (.t 152) (.c (.int .i64 0)), (some (148, true)), 0, 262143⟩, ⟨some 154, .pick (.t 148) (.t 153) (.c (.bool false)), (some (145, false)), 0, 524287⟩, ⟨some 155, .pick (.t 145) (.c (.bool true)) (.t 154), none, 0, 1048575⟩]
def f33r26 : List AOper := [⟨some 2, .move (.c .nilp), none, 0, 0⟩, ⟨some 3, .move (.c (.int .i64 30)), none, 0, 1⟩]
def f33r27 : List AOper := [⟨some 156, .bin .add (.t 131) (.c (.int .i64 1)), none, 0, 0⟩, ⟨some 131, .move (.t 156), none, 0, 1⟩]
def f33m23 : ACode :=
 .seq (.region false f33r23 [4, 11, 129, 130, 131, 132] 0)
 (.seq (.cond (.t 132)
  (.skip)
  (.exit 2))
 (.seq (.block 3 (.seq (.region false f33r24 [4, 11, 13, 129, 130, 131] 1)
  (.seq (.region false f33r25 [4, 11, 129, 130, 131, 155] 0)
  (.cond (.t 155)
   (.seq (.region false f33r26 [2, 3] 0)
   (.ret))
   (.skip)))))
 (.region false f33r27 [4, 11, 129, 130, 131] 0)))
def f33l23 : ACode := f33m23
theorem f33l23_b {A : Tab} {nt : Nat} {e : Env} {h : Heap} : Brun A nt f33l23 e h = Brun A nt f33m23 e h := rfl
def f33r28 : List AOper := [⟨some 157, .move (.t 4), none, 0, 0⟩, ⟨some 158, .nilCheck (.t 157), none, 0, 1⟩, ⟨some 159, .fieldAddr 0 (.t 158), none, 0, 3⟩, ⟨some 160, .load false 1 (.t 159), none, 0, 7⟩, ⟨some 161, .len 1 (.t 160), none, 0, 15⟩, ⟨some 162, .move (.c (.int .i64 0)), none, 0, 0⟩]
def f33r29 : List AOper := [⟨some 163, .bin .lss (.t 162) (.t 161), none, 0, 0⟩]
def f33r30 : List AOper := [⟨some 164, .move (.t 162), none, 0, 0⟩, ⟨some 14, .move (.t 164), none, 0, 1⟩]
def f33r31 : List AOper := [⟨some 165, .move (.t 4), none, 0, 0⟩, ⟨some 166, .move (.t 14), none, 0, 0⟩, ⟨some 167, .move (.t 11), none, 0, 0⟩, ⟨some 168, .call (.c (.fn 88 [] [])) [(.t 165), (.t 166), (.t 167)], none, 0, 7⟩, ⟨some 169, .un .not (.t 168), none, 0, 15⟩]
def f33r32 : List AOper := [⟨some 2, .move (.c .nilp), none, 0, 0⟩, ⟨some 3, .move (.c (.int .i64 30)), none, 0, 1⟩]
def f33r33 : List AOper := [⟨some 170, .bin .add (.t 162) (.c (.int .i64 1)), none, 0, 0⟩, ⟨some 162, .move (.t 170), none, 0, 1⟩]
def f33m29 : ACode :=
 .seq (.region false f33r29 [4, 11, 161, 162, 163] 0)
 (.seq (.cond (.t 163)
  (.skip)
  (.exit 4))
 (.seq (.block 5 (.seq (.region false f33r30 [4, 11, 14, 161, 162] 0)
  (.seq (.region false f33r31 [4, 11, 161, 162, 169] 0)
  (.cond (.t 169)
   (.seq (.region false f33r32 [2, 3] 0)
   (.ret))
   (.skip)))))
 (.region false f33r33 [4, 11, 161, 162] 0)))
def f33l29 : ACode := f33m29
theorem f33l29_b {A : Tab} {nt : Nat} {e : Env} {h : Heap} : Brun A nt f33l29 e h = Brun A nt f33m29 e h := rfl
def f33r34 : List AOper := [⟨some 171, .move (.t 4), none, 0, 0⟩, ⟨some 2, .move (.t 171), none, 0, 1⟩, ⟨some 3, .move (.c (.int .i64 0)), none, 0, 3⟩]
theorem f33r9_s : staticOK 0 f33r9 = true := by rfl
theorem f33r9_w {A : Tab} {nt : Nat} {keep : List Nat} {n : Nat} {e : Env} {h : Heap} (hr : (bkeep keep (stepsF nt (stepF A true) h.length f33r9 e (h ++ List.replicate n .free))).isSome = true) : Brun A nt (.region true f33r9 keep n) e h = bkeep keep (stepsF nt (stepF A true) h.length f33r9 e (h ++ List.replicate n .free)) := Brun_drawnS f33r9_s hr
theorem f33r9_u (nt base : Nat) (step : Nat → AOp → Env → Heap → Option (AV × Heap)) (e : Env) (h : Heap) : stepsF nt step base f33r9 e h = stepsF nt step base f33q9 e h := rfl
theorem f33r16_s : staticOK 0 f33r16 = true := by rfl
theorem f33r16_w {A : Tab} {nt : Nat} {keep : List Nat} {n : Nat} {e : Env} {h : Heap} (hr : (bkeep keep (stepsF nt (stepF A true) h.length f33r16 e (h ++ List.replicate n .free))).isSome = true) : Brun A nt (.region true f33r16 keep n) e h = bkeep keep (stepsF nt (stepF A true) h.length f33r16 e (h ++ List.replicate n .free)) := Brun_drawnS f33r16_s hr
theorem f33r16_u (nt base : Nat) (step : Nat → AOp → Env → Heap → Option (AV × Heap)) (e : Env) (h : Heap) : stepsF nt step base f33r16 e h = stepsF nt step base f33q16 e h := rfl
theorem f33r19_s : staticOK 0 f33r19 = true := by rfl
theorem f33r19_w {A : Tab} {nt : Nat} {keep : List Nat} {n : Nat} {e : Env} {h : Heap} (hr : (bkeep keep (stepsF nt (stepF A true) h.length f33r19 e (h ++ List.replicate n .free))).isSome = true) : Brun A nt (.region true f33r19 keep n) e h = bkeep keep (stepsF nt (stepF A true) h.length f33r19 e (h ++ List.replicate n .free)) := Brun_drawnS f33r19_s hr
theorem f33r19_u (nt base : Nat) (step : Nat → AOp → Env → Heap → Option (AV × Heap)) (e : Env) (h : Heap) : stepsF nt step base f33r19 e h = stepsF nt step base f33q19 e h := rfl
def f33c : ACode :=
 .seq (.region false f33r0 [0] 0)
 (.seq (.region false f33r1 [0, 4] 0)
 (.seq (.region false f33r2 [0, 4, 5] 0)
 (.seq (.seq (.region false f33r3 [0, 4, 5, 29] 0)
 (.cond (.t 29)
  (.seq (.region false f33r4 [2, 3] 0)
  (.ret))
  (.skip)))
 (.seq (.seq (.region false f33r5 [0, 4, 5, 30, 31, 32] 0)
 (.block 0 (.loop f33l6)))
 (.seq (.region false f33r21 [4, 11] 1)
 (.seq (.seq (.region false f33r22 [4, 11, 129, 130, 131] 0)
 (.block 2 (.loop f33l23)))
 (.seq (.seq (.region false f33r28 [4, 11, 161, 162] 0)
 (.block 4 (.loop f33l29)))
 (.seq (.region false f33r34 [2, 3] 0)
 (.ret)))))))))
def f33 : AFn := ⟨1, 172, [.tmp 2, .tmp 3], f33c, 0, none⟩
def f33k : List (Nat × List Nat) := [(0, [0]), (1, [0, 4]), (2, [0, 4, 5]), (3, [0, 4, 5, 29]), (4, [2, 3]), (5, [0, 4, 5, 30, 31, 32]), (6, [0, 4, 5, 30, 31, 32, 33]), (7, [0, 4, 5, 6, 7, 30, 31, 32]), (8, [0, 4, 5, 6, 7, 30, 31, 32, 39]), (9, [0, 4, 5, 30, 31, 32, 75]), (10, [2, 3]), (11, [0, 4, 5, 6, 7, 30, 31, 32]), (12, [0, 4, 5, 6, 7, 30, 31, 32, 90]), (13, [2, 3]), (14, [0, 4, 5, 6, 7, 30, 31, 32, 98]), (15, [0, 4, 5, 6, 8, 30, 31, 32]), (16, [0, 4, 5, 6, 8, 10, 30, 31, 32]), (17, [0, 4, 5, 6, 8, 30, 31, 32, 115]), (18, [2, 3]), (19, [0, 4, 5, 30, 31, 32]), (20, [0, 4, 5, 30, 31, 32]), (21, [4, 11]), (22, [4, 11, 129, 130, 131]), (23, [4, 11, 129, 130, 131, 132]), (24, [4, 11, 13, 129, 130, 131]), (25, [4, 11, 129, 130, 131, 155]), (26, [2, 3]), (27, [4, 11, 129, 130, 131]), (28, [4, 11, 161, 162]), (29, [4, 11, 161, 162, 163]), (30, [4, 11, 14, 161, 162]), (31, [4, 11, 161, 162, 169]), (32, [2, 3]), (33, [4, 11, 161, 162]), (34, [2, 3])]
def f33v : List Nat := []
def f34r0 : List AOper := [⟨some 2, .move (.c .nilp), none, 0, 0⟩]
def f34r1 : List AOper := [⟨some 5, .build [(.is [] .nil)] [], none, 0, 0⟩, ⟨some 6, .box false (.t 5), none, 0, 1⟩, ⟨some 3, .move (.t 6), none, 1, 3⟩]
def f34r2 : List AOper := [⟨some 4, .move (.c (.int .i64 0)), none, 0, 0⟩]
def f34r3 : List AOper := [⟨some 7, .move (.t 4), none, 0, 0⟩, ⟨some 8, .move (.t 0), none, 0, 0⟩, ⟨some 9, .nilCheck (.t 8), none, 0, 2⟩, ⟨some 10, .fieldAddr 0 (.t 9), none, 0, 6⟩, ⟨some 11, .load false 1 (.t 10), none, 0, 14⟩, ⟨some 12, .len 1 (.t 11), none, 0, 30⟩, ⟨some 13, .bin .lss (.t 7) (.t 12), none, 0, 63⟩]
def f34r4 : List AOper := [⟨some 16, .move (.t 3), none, 0, 0⟩, ⟨some 17, .move (.t 3), none, 0, 0⟩, ⟨some 18, .nilCheck (.t 17), none, 0, 2⟩, ⟨some 19, .fieldAddr 0 (.t 18), none, 0, 6⟩, ⟨some 20, .load false 1 (.t 19), none, 0, 14⟩, ⟨some 21, .move (.t 0), none, 0, 0⟩, ⟨some 22, .nilCheck (.t 21), none, 0, 32⟩, ⟨some 23, .fieldAddr 0 (.t 22), none, 0, 96⟩, ⟨some 24, .load false 1 (.t 23), none, 0, 224⟩, ⟨some 25, .move (.t 4), none, 0, 0⟩, ⟨some 26, .idxAddr 6 (.t 24) (.t 25), none, 0, 992⟩, ⟨some 27, .load true 6 (.t 26), none, 0, 2016⟩, ⟨some 28, .call (.c (.fn 89 [] [])) [(.t 27)], none, 0, 4064⟩, ⟨some 29, .buildSlice true 6 1 [(.int .i64 0), (.int .i64 0), (.int .i64 0), (.str []), (.is [] .nil), (.bool false)] [(0, 6, (.t 28))], none, 0, 8160⟩, ⟨some 30, .append true 6 72 (.t 20) (.t 29), none, 0, 16382⟩, ⟨some 31, .nilCheck (.t 16), none, 1, 32767⟩, ⟨some 32, .fieldAddr 0 (.t 31), none, 1, 65535⟩, ⟨none, .store 1 (.t 32) (.t 30), none, 1, 131071⟩]
def f34r5 : List AOper := [⟨some 14, .move (.t 4), none, 0, 0⟩, ⟨some 15, .bin .add (.t 14) (.c (.int .i64 1)), none, 0, 1⟩, ⟨some 4, .move (.t 15), none, 0, 3⟩]
def f34m3 : ACode :=
 .seq (.seq (.region false f34r3 [0, 3, 4, 13] 0)
 (.cond (.t 13)
  (.skip)
  (.exit 0)))
 (.seq (.block 1 (.region true f34r4 [0, 3, 4] 1))
 (.region false f34r5 [0, 3, 4] 0))
def f34l3 : ACode := f34m3
theorem f34l3_b {A : Tab} {nt : Nat} {e : Env} {h : Heap} : Brun A nt f34l3 e h = Brun A nt f34m3 e h := rfl
def f34r6 : List AOper := [⟨some 33, .move (.t 3), none, 0, 0⟩, ⟨some 2, .move (.t 33), none, 0, 1⟩]
def f34c : ACode :=
 .seq (.region false f34r0 [0] 0)
 (.seq (.region false f34r1 [0, 3] 1)
 (.seq (.seq (.region false f34r2 [0, 3, 4] 0)
 (.block 0 (.loop f34l3)))
 (.seq (.region false f34r6 [2] 0)
 (.ret))))
def f34 : AFn := ⟨1, 34, [.tmp 2], f34c, 0, none⟩
def f34k : List (Nat × List Nat) := [(0, [0]), (1, [0, 3]), (2, [0, 3, 4]), (3, [0, 3, 4, 13]), (5, [0, 3, 4]), (4, [0, 3, 4]), (6, [2])]
def f34v : List Nat := [30, 29]
def f35r0 : List AOper := [⟨some 0, .move (.c .nilp), none, 0, 0⟩]
def f35r1 : List AOper := [⟨some 3, .mkMap, none, 0, 0⟩, ⟨some 4, .build [(.is [] .nil), .nilm] [(1, 1, (.t 3))], none, 1, 1⟩, ⟨some 5, .box false (.t 4), none, 1, 3⟩, ⟨some 1, .move (.t 5), none, 2, 7⟩]
def f35r2 : List AOper := [⟨some 2, .move (.c (.int .i64 1)), none, 0, 0⟩]
def f35r3 : List AOper := [⟨some 6, .move (.t 2), none, 0, 0⟩, ⟨some 7, .bin .leq (.t 6) (.c (.int .i64 11)), none, 0, 1⟩]
def f35r4 : List AOper := [⟨some 10, .move (.t 1), none, 0, 0⟩, ⟨some 11, .move (.t 1), none, 0, 0⟩, ⟨some 12, .nilCheck (.t 11), none, 0, 2⟩, ⟨some 13, .fieldAddr 0 (.t 12), none, 0, 6⟩, ⟨some 14, .load false 1 (.t 13), none, 0, 14⟩, ⟨some 15, .move (.t 2), none, 0, 0⟩, ⟨some 16, .build [(.int .i64 0), (.int .i64 0), (.int .i64 0), (.str []), (.is [] .nil), (.bool false)] [(0, 1, (.t 15))], none, 0, 32⟩, ⟨some 17, .buildSlice false 6 1 [(.int .i64 0), (.int .i64 0), (.int .i64 0), (.str []), (.is [] .nil), (.bool false)] [(0, 6, (.t 16))], none, 0, 96⟩, ⟨some 18, .append false 6 72 (.t 14) (.t 17), none, 1, 254⟩, ⟨some 19, .nilCheck (.t 10), none, 2, 511⟩, ⟨some 20, .fieldAddr 0 (.t 19), none, 2, 1023⟩, ⟨none, .store 1 (.t 20) (.t 18), none, 2, 2047⟩]
def f35r5 : List AOper := [⟨some 8, .move (.t 2), none, 0, 0⟩, ⟨some 9, .bin .add (.t 8) (.c (.int .i64 1)), none, 0, 1⟩, ⟨some 2, .move (.t 9), none, 0, 3⟩]
def f35m3 : ACode :=
 .seq (.seq (.region false f35r3 [1, 2, 7] 0)
 (.cond (.t 7)
  (.skip)
  (.exit 0)))
 (.seq (.block 1 (.region false f35r4 [1, 2] 2))
 (.region false f35r5 [1, 2] 0))
def f35l3 : ACode := f35m3
theorem f35l3_b {A : Tab} {nt : Nat} {e : Env} {h : Heap} : Brun A nt f35l3 e h = Brun A nt f35m3 e h := rfl
def f35r6 : List AOper := [⟨some 21, .move (.t 1), none, 0, 0⟩, ⟨some 0, .move (.t 21), none, 0, 1⟩]
def f35c : ACode :=
 .seq (.region false f35r0 [] 0)
 (.seq (.region false f35r1 [1] 2)
 (.seq (.seq (.region false f35r2 [1, 2] 0)
 (.block 0 (.loop f35l3)))
 (.seq (.region false f35r6 [0] 0)
 (.ret))))
def f35 : AFn := ⟨0, 22, [.tmp 0], f35c, 0, none⟩
def f35k : List (Nat × List Nat) := [(0, []), (1, [1]), (2, [1, 2]), (3, [1, 2, 7]), (5, [1, 2]), (4, [1, 2]), (6, [0])]
def f35v : List Nat := []
def f36r0 : List AOper := [⟨some 4, .move (.c (.int .i64 0)), none, 0, 0⟩, ⟨some 5, .move (.c (.int .i64 0)), none, 0, 1⟩]
def f36r1 : List AOper := [⟨some 7, .move (.t 0), none, 0, 0⟩, ⟨some 8, .call (.c (.fn 90 [] [])) [(.t 7)], none, 0, 1⟩, ⟨some 9, .un .not (.t 8), none, 0, 3⟩, ⟨some 6, .move (.t 9), none, 0, 7⟩]
def f36r2 : List AOper := [⟨some 4, .move (.c (.int .i64 0)), none, 0, 0⟩, ⟨some 5, .move (.c (.int .i64 1)), none, 0, 1⟩]
def f36r3 : List AOper := [⟨some 11, .move (.t 0), none, 0, 0⟩, ⟨some 12, .move (.t 1), none, 0, 0⟩, ⟨some 13, .call (.c (.fn 91 [] [])) [(.t 11), (.t 12)], none, 0, 3⟩, ⟨some 14, .un .not (.t 13), none, 0, 7⟩, ⟨some 10, .move (.t 14), none, 0, 15⟩]
def f36r4 : List AOper := [⟨some 4, .move (.c (.int .i64 0)), none, 0, 0⟩, ⟨some 5, .move (.c (.int .i64 30)), none, 0, 1⟩]
def f36r5 : List AOper := [⟨some 15, .move (.t 0), none, 0, 0⟩, ⟨some 16, .move (.t 1), none, 0, 0⟩, ⟨some 17, .build [(.int .i64 0), (.int .i64 0), (.int .i64 0)] [(0, 1, (.c (.int .i64 13))), (1, 1, (.t 16)), (2, 1, (.c (.int .i64 0)))], none, 0, 2⟩, ⟨some 18, .call (.c (.fn 92 [] [])) [(.t 15), (.t 17)], none, 0, 7⟩, ⟨some 19, .extract (.t 18) 0, none, 0, 15⟩, ⟨some 20, .extract (.t 18) 1, none, 0, 15⟩, ⟨some 4, .move (.t 19), none, 0, 63⟩, ⟨some 5, .move (.t 20), none, 0, 127⟩]
def f36c : ACode :=
 .seq (.region false f36r0 [0, 1] 0)
 (.seq (.block 0 (.seq (.region false f36r1 [0, 1, 6] 0)
  (.cond (.t 6)
   (.seq (.region false f36r2 [4, 5] 0)
   (.ret))
   (.seq (.region false f36r3 [0, 1, 10] 0)
   (.cond (.t 10)
    (.seq (.region false f36r4 [4, 5] 0)
    (.ret))
    (.skip))))))
 (.seq (.region false f36r5 [4, 5] 0)
 (.ret)))
def f36 : AFn := ⟨2, 21, [.tmp 4, .tmp 5], f36c, 1, none⟩
def f36k : List (Nat × List Nat) := [(0, [0, 1]), (1, [0, 1, 6]), (3, [0, 1, 10]), (4, [4, 5]), (2, [4, 5]), (5, [4, 5])]
def f36v : List Nat := []
def f37r0 : List AOper := [⟨some 8, .move (.c (.int .u32 0)), none, 0, 0⟩, ⟨some 9, .move (.c (.int .i64 0)), none, 0, 1⟩]
def f37r1 : List AOper := [⟨some 13, .move (.t 0), none, 0, 0⟩, ⟨some 14, .call (.c (.fn 38 [] [])) [(.t 13)], none, 0, 1⟩, ⟨some 15, .un .not (.t 14), none, 0, 3⟩, ⟨some 16, .move (.t 15), none, 0, 7⟩, ⟨some 17, .move (.t 1), (some (16, false)), 0, 15⟩, ⟨some 18, .call (.c (.fn 93 [] [])) [(.t 17)], (some (16, false)), 0, 31⟩, ⟨some 19, .bin .eql (.t 18) (.c (.str [])), (some (16, false)), 0, 63⟩, ⟨some 20, .pick (.t 16) (.c (.bool true)) (.t 19), none, 0, 127⟩]
def f37r2 : List AOper := [⟨some 8, .move (.c (.int .u32 0)), none, 0, 0⟩, ⟨some 9, .move (.c (.int .i64 70)), none, 0, 1⟩]
def f37r3 : List AOper := [⟨some 10, .move (.c (.fn 94 [] [])), none, 0, 0⟩]
def f37r4 : List AOper := [⟨some 22, .move (.t 10), none, 0, 0⟩, ⟨some 23, .move (.t 1), none, 0, 0⟩, ⟨some 24, .move (.t 2), none, 0, 0⟩, ⟨some 25, .move (.t 3), none, 0, 0⟩, ⟨some 26, .call (.t 22) [(.t 23), (.t 24), (.t 25)], none, 0, 15⟩, ⟨some 21, .move (.t 26), none, 0, 31⟩, ⟨some 27, .extract (.t 21) 0, none, 0, 63⟩, ⟨some 28, .extract (.t 21) 1, none, 0, 63⟩, ⟨some 11, .move (.t 27), none, 0, 127⟩, ⟨some 12, .move (.t 28), none, 0, 511⟩]
def f37r5 : List AOper := [⟨some 29, .move (.t 12), none, 0, 0⟩, ⟨some 30, .un .not (.t 29), none, 0, 1⟩]
def f37r6 : List AOper := [⟨some 8, .move (.c (.int .u32 0)), none, 0, 0⟩, ⟨some 9, .move (.c (.int .i64 71)), none, 0, 1⟩]
def f37r7 : List AOper := [⟨some 31, .move (.t 0), none, 0, 0⟩, ⟨some 32, .move (.t 11), none, 0, 0⟩, ⟨some 33, .call (.c (.fn 95 [] [])) [(.t 31), (.t 32)], none, 0, 3⟩, ⟨some 8, .move (.t 33), none, 0, 7⟩, ⟨some 9, .move (.c (.int .i64 0)), none, 0, 15⟩]
def f37c : ACode :=
 .seq (.region false f37r0 [0, 1, 2, 3] 0)
 (.seq (.seq (.region false f37r1 [0, 1, 2, 3, 20] 0)
 (.cond (.t 20)
  (.seq (.region false f37r2 [8, 9] 0)
  (.ret))
  (.skip)))
 (.seq (.region false f37r3 [0, 1, 2, 3, 10] 0)
 (.seq (.region false f37r4 [0, 11, 12] 0)
 (.seq (.seq (.region false f37r5 [0, 11, 30] 0)
 (.cond (.t 30)
  (.seq (.region false f37r6 [8, 9] 0)
  (.ret))
  (.skip)))
 (.seq (.region false f37r7 [8, 9] 0)
 (.ret))))))
def f37 : AFn := ⟨4, 34, [.tmp 8, .tmp 9], f37c, 1, none⟩
def f37k : List (Nat × List Nat) := [(0, [0, 1, 2, 3]), (1, [0, 1, 2, 3, 20]), (2, [8, 9]), (3, [0, 1, 2, 3, 10]), (4, [0, 11, 12]), (5, [0, 11, 30]), (6, [8, 9]), (7, [8, 9])]
def f37v : List Nat := []
def f38r0 : List AOper := [⟨some 2, .move (.c (.bool false)), none, 0, 0⟩]
def f38r1 : List AOper := [⟨some 3, .move (.t 0), none, 0, 0⟩, ⟨some 4, .bin .geq (.t 3) (.c (.int .i64 2)), none, 0, 1⟩, ⟨some 5, .move (.t 4), none, 0, 3⟩, ⟨some 6, .move (.t 0), (some (5, true)), 0, 7⟩, ⟨some 7, .bin .leq (.t 6) (.c (.int .i64 12)), (some (5, true)), 0, 15⟩, ⟨some 8, .pick (.t 5) (.t 7) (.c (.bool false)), none, 0, 31⟩, ⟨some 2, .move (.t 8), none, 0, 63⟩]
def f38c : ACode :=
 .seq (.region false f38r0 [0] 0)
 (.seq (.region false f38r1 [2] 0)
 (.ret))
def f38 : AFn := ⟨1, 9, [.tmp 2], f38c, 1, none⟩
def f38k : List (Nat × List Nat) := [(0, [0]), (1, [2])]
def f38v : List Nat := []
def f39r0 : List AOper := [⟨some 4, .move (.c (.bool false)), none, 0, 0⟩]
def f39r1 : List AOper := [⟨some 5, .load false 1 (.t 1), none, 0, 0⟩, ⟨some 6, .move (.t 0), none, 0, 0⟩, ⟨some 7, .bin .eql (.t 5) (.t 6), none, 0, 3⟩, ⟨some 8, .move (.t 7), none, 0, 7⟩, ⟨some 9, .load false 1 (.t 2), (some (8, false)), 0, 15⟩, ⟨some 10, .move (.t 0), (some (8, false)), 0, 15⟩, ⟨some 11, .bin .eql (.t 9) (.t 10), (some (8, false)), 0, 63⟩, ⟨some 12, .pick (.t 8) (.c (.bool true)) (.t 11), none, 0, 127⟩, ⟨some 4, .move (.t 12), none, 0, 255⟩]
def f39c : ACode :=
 .seq (.region false f39r0 [0, 1, 2] 0)
 (.seq (.region false f39r1 [4] 0)
 (.ret))
def f39 : AFn := ⟨3, 13, [.tmp 4], f39c, 1, none⟩
def f39k : List (Nat × List Nat) := [(0, [0, 1, 2]), (1, [4])]
def f39v : List Nat := []
def f40r0 : List AOper := [⟨some 4, .move (.c (.int .i64 0)), none, 0, 0⟩]
def f40r1 : List AOper := [⟨some 7, .move (.t 0), none, 0, 0⟩, ⟨some 8, .call (.c (.fn 63 [] [])) [(.t 7)], none, 0, 1⟩, ⟨some 9, .bin .eql (.t 8) (.c (.int .i64 0)), none, 0, 3⟩]
def f40r2 : List AOper := [⟨some 4, .move (.c (.int .i64 1)), none, 0, 0⟩]
def f40r3 : List AOper := [⟨some 10, .move (.t 1), none, 0, 0⟩, ⟨some 11, .len 1 (.t 10), none, 0, 1⟩, ⟨some 12, .move (.c (.int .i64 0)), none, 0, 0⟩]
def f40r4 : List AOper := [⟨some 13, .bin .lss (.t 12) (.t 11), none, 0, 0⟩]
def f40r5 : List AOper := [⟨some 14, .idxAddr 1 (.t 10) (.t 12), none, 0, 0⟩, ⟨some 15, .load false 1 (.t 14), none, 0, 1⟩, ⟨some 6, .move (.t 15), none, 0, 3⟩]
def f40r6 : List AOper := [⟨some 16, .move (.t 6), none, 0, 0⟩, ⟨some 17, .bin .lss (.t 16) (.c (.int .i64 0)), none, 0, 1⟩, ⟨some 18, .move (.t 17), none, 0, 3⟩, ⟨some 19, .move (.t 6), (some (18, false)), 0, 7⟩, ⟨some 20, .move (.t 0), (some (18, false)), 0, 7⟩, ⟨some 21, .call (.c (.fn 63 [] [])) [(.t 20)], (some (18, false)), 0, 23⟩, ⟨some 22, .bin .geq (.t 19) (.t 21), (some (18, false)), 0, 63⟩, ⟨some 23, .pick (.t 18) (.c (.bool true)) (.t 22), none, 0, 127⟩]
def f40r7 : List AOper := [⟨some 4, .move (.c (.int .i64 30)), none, 0, 0⟩]
def f40r8 : List AOper := [⟨some 24, .bin .add (.t 12) (.c (.int .i64 1)), none, 0, 0⟩, ⟨some 12, .move (.t 24), none, 0, 1⟩]
def f40m4 : ACode :=
 .seq (.region false f40r4 [0, 10, 11, 12, 13] 0)
 (.seq (.cond (.t 13)
  (.skip)
  (.exit 0))
 (.seq (.block 1 (.seq (.region false f40r5 [0, 6, 10, 11, 12] 0)
  (.seq (.region false f40r6 [0, 10, 11, 12, 23] 0)
  (.cond (.t 23)
   (.seq (.region false f40r7 [4] 0)
   (.ret))
   (.skip)))))
 (.region false f40r8 [0, 10, 11, 12] 0)))
def f40l4 : ACode := f40m4
theorem f40l4_b {A : Tab} {nt : Nat} {e : Env} {h : Heap} : Brun A nt f40l4 e h = Brun A nt f40m4 e h := rfl
def f40r9 : List AOper := [⟨some 4, .move (.c (.int .i64 0)), none, 0, 0⟩]
def f40c : ACode :=
 .seq (.region false f40r0 [0, 1] 0)
 (.seq (.seq (.region false f40r1 [0, 1, 9] 0)
 (.cond (.t 9)
  (.seq (.region false f40r2 [4] 0)
  (.ret))
  (.skip)))
 (.seq (.seq (.region false f40r3 [0, 10, 11, 12] 0)
 (.block 0 (.loop f40l4)))
 (.seq (.region false f40r9 [4] 0)
 (.ret))))
def f40 : AFn := ⟨2, 25, [.tmp 4], f40c, 1, none⟩
def f40k : List (Nat × List Nat) := [(0, [0, 1]), (1, [0, 1, 9]), (2, [4]), (3, [0, 10, 11, 12]), (4, [0, 10, 11, 12, 13]), (5, [0, 6, 10, 11, 12]), (6, [0, 10, 11, 12, 23]), (7, [4]), (8, [0, 10, 11, 12]), (9, [4])]
def f40v : List Nat := []
def f41r0 : List AOper := [⟨some 2, .box false (.t 0), none, 0, 0⟩, ⟨some 4, .alloc false [(.int .i64 0), (.int .i64 0), (.int .i64 0), (.str []), (.is [] .nil), (.bool false)], none, 1, 0⟩]
def f41r1 : List AOper := [⟨some 8, .fieldAddr 0 (.t 2), none, 0, 0⟩, ⟨some 9, .load false 1 (.t 8), none, 0, 1⟩, ⟨some 10, .move (.t 1), none, 0, 0⟩, ⟨some 11, .call (.c (.fn 71 [] [])) [(.t 9), (.t 10)], none, 0, 7⟩, ⟨some 7, .move (.t 11), none, 0, 15⟩, ⟨some 12, .extract (.t 7) 0, none, 0, 31⟩, ⟨some 13, .extract (.t 7) 1, none, 0, 31⟩, ⟨some 5, .alloc false [(.int .i64 0), (.int .i64 0), (.int .i64 0), (.str []), (.is [] .nil), (.bool false)], none, 0, 0⟩, ⟨none, .store 6 (.t 5) (.t 12), none, 1, 191⟩, ⟨some 6, .move (.t 13), none, 1, 511⟩]
def f41r2 : List AOper := [⟨some 14, .load true 6 (.t 5), none, 0, 0⟩, ⟨none, .store 6 (.t 4) (.t 14), none, 0, 1⟩]
def f41c : ACode :=
 .seq (.region false f41r0 [1, 2, 4] 2)
 (.seq (.region false f41r1 [4, 5] 1)
 (.seq (.region false f41r2 [4] 0)
 (.ret)))
def f41 : AFn := ⟨2, 15, [.cell 4 true 6], f41c, 1, none⟩
def f41k : List (Nat × List Nat) := [(0, [1, 2, 4]), (1, [4, 5]), (2, [4])]
def f41v : List Nat := []
def f42r0 : List AOper := [⟨some 2, .box false (.t 0), none, 0, 0⟩, ⟨some 4, .move (.c (.bool false)), none, 1, 0⟩]
def f42r1 : List AOper := [⟨some 5, .load true 1 (.t 2), none, 0, 0⟩, ⟨some 6, .move (.t 1), none, 0, 0⟩, ⟨some 7, .call (.c (.fn 44 [] [])) [(.t 5), (.t 6)], none, 0, 3⟩, ⟨some 8, .call (.c (.fn 38 [] [])) [(.t 7)], none, 0, 7⟩, ⟨some 4, .move (.t 8), none, 0, 15⟩]
def f42c : ACode :=
 .seq (.region false f42r0 [1, 2] 1)
 (.seq (.region false f42r1 [4] 0)
 (.ret))
def f42 : AFn := ⟨2, 9, [.tmp 4], f42c, 1, none⟩
def f42k : List (Nat × List Nat) := [(0, [1, 2]), (1, [4])]
def f42v : List Nat := []
def f43r0 : List AOper := [⟨some 3, .box false (.t 0), none, 0, 0⟩, ⟨some 6, .move (.c (.bool false)), none, 1, 0⟩]
def f43r1 : List AOper := [⟨some 7, .load true 1 (.t 3), none, 0, 0⟩, ⟨some 8, .move (.t 1), none, 0, 0⟩, ⟨some 9, .call (.c (.fn 45 [] [])) [(.t 7), (.t 8)], none, 0, 3⟩, ⟨some 10, .move (.t 9), none, 0, 7⟩, ⟨some 11, .load true 1 (.t 3), (some (10, true)), 0, 15⟩, ⟨some 12, .move (.t 2), (some (10, true)), 0, 15⟩, ⟨some 13, .call (.c (.fn 45 [] [])) [(.t 11), (.t 12)], (some (10, true)), 0, 63⟩, ⟨some 14, .pick (.t 10) (.t 13) (.c (.bool false)), none, 0, 127⟩, ⟨some 15, .move (.t 14), none, 0, 255⟩, ⟨some 16, .move (.t 1), (some (15, true)), 0, 511⟩, ⟨some 17, .move (.t 2), (some (15, true)), 0, 511⟩, ⟨some 18, .bin .eql (.t 16) (.t 17), (some (15, true)), 0, 2047⟩, ⟨some 19, .move (.t 18), (some (15, true)), 0, 4095⟩, ⟨some 20, .load true 1 (.t 3), (some (19, false)), 0, 8191⟩, ⟨some 21, .move (.t 1), (some (19, false)), 0, 8191⟩, ⟨some 22, .call (.c (.fn 59 [] [])) [(.t 20), (.t 21)], (some (19, false)), 0, 32767⟩, ⟨some 23, .pick (.t 19) (.c (.bool true)) (.t 22), (some (15, true)), 0, 65535⟩, ⟨some 24, .move (.t 23), (some (15, true)), 0, 131071⟩, ⟨some 25, .load true 1 (.t 3), (some (24, false)), 0, 262143⟩, ⟨some 26, .move (.t 2), (some (24, false)), 0, 262143⟩, ⟨some 27, .call (.c (.fn 59 [] [])) [(.t 25), (.t 26)], (some (24, false)), 0, 1048575⟩, ⟨some 28, .pick (.t 24) (.c (.bool true)) (.t 27), (some (15, true)), 0, 2097151⟩, ⟨some 29, .pick (.t 15) (.t 28) (.c (.bool false)), none, 0, 4194303⟩, ⟨some 6, .move (.t 29), none, 0, 8388607⟩]
def f43c : ACode :=
 .seq (.region false f43r0 [1, 2, 3] 1)
 (.seq (.region false f43r1 [6] 0)
 (.ret))
def f43 : AFn := ⟨3, 30, [.tmp 6], f43c, 1, none⟩
def f43k : List (Nat × List Nat) := [(0, [1, 2, 3]), (1, [6])]
def f43v : List Nat := []
def f44r0 : List AOper := [⟨some 2, .box false (.t 0), none, 0, 0⟩, ⟨some 4, .move (.c (.int .i64 0)), none, 1, 0⟩]
def f44r1 : List AOper := [⟨some 5, .load true 1 (.t 2), none, 0, 0⟩, ⟨some 6, .move (.t 1), none, 0, 0⟩, ⟨some 7, .call (.c (.fn 41 [] [])) [(.t 5), (.t 6)], none, 0, 3⟩, ⟨some 8, .field false 0 1 (.t 7), none, 0, 7⟩, ⟨some 4, .move (.t 8), none, 0, 15⟩]
def f44c : ACode :=
 .seq (.region false f44r0 [1, 2] 1)
 (.seq (.region false f44r1 [4] 0)
 (.ret))
def f44 : AFn := ⟨2, 9, [.tmp 4], f44c, 1, none⟩
def f44k : List (Nat × List Nat) := [(0, [1, 2]), (1, [4])]
def f44v : List Nat := []
def f45r0 : List AOper := [⟨some 2, .box false (.t 0), none, 0, 0⟩, ⟨some 4, .move (.c (.bool false)), none, 1, 0⟩]
def f45r1 : List AOper := [⟨some 5, .load true 1 (.t 2), none, 0, 0⟩, ⟨some 6, .move (.t 1), none, 0, 0⟩, ⟨some 7, .call (.c (.fn 44 [] [])) [(.t 5), (.t 6)], none, 0, 3⟩, ⟨some 8, .bin .eql (.t 7) (.c (.int .i64 13)), none, 0, 7⟩, ⟨some 4, .move (.t 8), none, 0, 15⟩]
def f45c : ACode :=
 .seq (.region false f45r0 [1, 2] 1)
 (.seq (.region false f45r1 [4] 0)
 (.ret))
def f45 : AFn := ⟨2, 9, [.tmp 4], f45c, 1, none⟩
def f45k : List (Nat × List Nat) := [(0, [1, 2]), (1, [4])]
def f45v : List Nat := []
def f46r0 : List AOper := [⟨some 6, .alloc false (List.replicate 5 (.int .i64 0)), none, 0, 0⟩, ⟨some 7, .move (.c (.int .i64 0)), none, 1, 0⟩]
def f46r1 : List AOper := [⟨some 16, .move (.t 1), none, 0, 0⟩, ⟨some 17, .move (.t 2), none, 0, 0⟩, ⟨some 18, .call (.c (.fn 9 [] [])) [(.t 16), (.t 17)], none, 0, 3⟩, ⟨some 15, .move (.t 18), none, 0, 7⟩, ⟨some 19, .extract (.t 15) 0, none, 0, 15⟩, ⟨some 20, .extract (.t 15) 1, none, 0, 15⟩, ⟨some 8, .move (.t 19), none, 0, 31⟩, ⟨some 9, .move (.t 20), none, 0, 127⟩]
def f46r2 : List AOper := [⟨some 21, .move (.t 8), none, 0, 0⟩, ⟨some 22, .call (.c (.fn 57 [] [])) [(.t 21)], none, 0, 1⟩, ⟨some 10, .alloc false [(.int .i64 0)], none, 0, 0⟩, ⟨none, .store 1 (.t 10) (.t 22), none, 1, 7⟩]
def f46r3 : List AOper := [⟨some 23, .fn 96 [] [(.t 10)], none, 0, 0⟩, ⟨some 11, .move (.t 23), none, 0, 1⟩]
def f46r4 : List AOper := [⟨some 24, .call (.c (.fn 57 [] [])) [(.c (.int .i64 8))], none, 0, 0⟩, ⟨some 12, .move (.t 24), none, 0, 1⟩]
def f46r5 : List AOper := [⟨some 25, .move (.t 0), none, 0, 0⟩]
def f46r6 : List AOper := [⟨some 27, .bin .eql (.t 25) (.c (.str [43])), none, 0, 0⟩, ⟨some 26, .move (.t 27), none, 0, 1⟩]
def f46r7 : List AOper := [⟨some 28, .move (.t 11), none, 0, 0⟩, ⟨some 29, .load false 1 (.t 10), none, 0, 0⟩, ⟨some 30, .call (.t 28) [(.c (.int .i64 1)), (.t 29)], none, 0, 3⟩, ⟨some 31, .extract (.t 30) 0, none, 0, 7⟩, ⟨some 32, .extract (.t 30) 1, none, 0, 7⟩, ⟨none, .store 5 (.t 6) (.t 31), none, 0, 31⟩, ⟨some 7, .move (.t 32), none, 0, 63⟩]
def f46r8 : List AOper := [⟨some 34, .bin .eql (.t 25) (.c (.str [45])), none, 0, 0⟩, ⟨some 33, .move (.t 34), none, 0, 1⟩]
def f46r9 : List AOper := [⟨some 35, .move (.t 11), none, 0, 0⟩, ⟨some 36, .load false 1 (.t 10), none, 0, 0⟩, ⟨some 37, .call (.t 35) [(.c (.int .i64 2)), (.t 36)], none, 0, 3⟩, ⟨some 38, .extract (.t 37) 0, none, 0, 7⟩, ⟨some 39, .extract (.t 37) 1, none, 0, 7⟩, ⟨none, .store 5 (.t 6) (.t 38), none, 0, 31⟩, ⟨some 7, .move (.t 39), none, 0, 63⟩]
def f46r10 : List AOper := [⟨some 41, .bin .eql (.t 25) (.c (.str [42])), none, 0, 0⟩, ⟨some 40, .move (.t 41), none, 0, 1⟩]
def f46r11 : List AOper := [⟨some 42, .move (.t 11), none, 0, 0⟩, ⟨some 43, .load false 1 (.t 10), none, 0, 0⟩, ⟨some 44, .call (.t 42) [(.c (.int .i64 3)), (.t 43)], none, 0, 3⟩, ⟨some 45, .extract (.t 44) 0, none, 0, 7⟩, ⟨some 46, .extract (.t 44) 1, none, 0, 7⟩, ⟨none, .store 5 (.t 6) (.t 45), none, 0, 31⟩, ⟨some 7, .move (.t 46), none, 0, 63⟩]
def f46r12 : List AOper := [⟨some 48, .bin .eql (.t 25) (.c (.str [47])), none, 0, 0⟩, ⟨some 47, .move (.t 48), none, 0, 1⟩]
def f46q13 : List AOper := [⟨some 49, .move (.t 11), none, 0, 0⟩, ⟨some 50, .move (.t 8), none, 0, 0⟩, ⟨some 51, .call (.c (.fn 97 [] [])) [(.t 50), (.c (.int .i64 4)), (.c (.int .i64 5))], none, 0, 2⟩, ⟨some 52, .load false 1 (.t 10), none, 0, 0⟩, ⟨some 53, .call (.t 49) [(.t 51), (.t 52)], none, 0, 15⟩, ⟨some 54, .extract (.t 53) 0, none, 0, 31⟩, ⟨some 55, .extract (.t 53) 1, none, 0, 31⟩, ⟨none, .store 5 (.t 6) (.t 54), none, 0, 127⟩, ⟨some 7, .move (.t 55), none, 0, 255⟩]
def f46r13 : List AOper := f46q13
def f46r14 : List AOper := [⟨some 57, .bin .eql (.t 25) (.c (.str [37])), none, 0, 0⟩, ⟨some 56, .move (.t 57), none, 0, 1⟩]
def f46q15 : List AOper := [⟨some 58, .move (.t 11), none, 0, 0⟩, ⟨some 59, .move (.t 8), none, 0, 0⟩, ⟨some 60, .call (.c (.fn 97 [] [])) [(.t 59), (.c (.int .i64 6)), (.c (.int .i64 7))], none, 0, 2⟩, ⟨some 61, .load false 1 (.t 10), none, 0, 0⟩, ⟨some 62, .call (.t 58) [(.t 60), (.t 61)], none, 0, 15⟩, ⟨some 63, .extract (.t 62) 0, none, 0, 31⟩, ⟨some 64, .extract (.t 62) 1, none, 0, 31⟩, ⟨none, .store 5 (.t 6) (.t 63), none, 0, 127⟩, ⟨some 7, .move (.t 64), none, 0, 255⟩]
def f46r15 : List AOper := f46q15
def f46r16 : List AOper := [⟨some 66, .bin .eql (.t 25) (.c (.str [38])), none, 0, 0⟩, ⟨some 65, .move (.t 66), none, 0, 1⟩]
def f46r17 : List AOper := [⟨some 67, .move (.t 11), none, 0, 0⟩, ⟨some 68, .load false 1 (.t 10), none, 0, 0⟩, ⟨some 69, .call (.t 67) [(.c (.int .i64 8)), (.t 68)], none, 0, 3⟩, ⟨some 70, .extract (.t 69) 0, none, 0, 7⟩, ⟨some 71, .extract (.t 69) 1, none, 0, 7⟩, ⟨none, .store 5 (.t 6) (.t 70), none, 0, 31⟩, ⟨some 7, .move (.t 71), none, 0, 63⟩]
def f46r18 : List AOper := [⟨some 73, .bin .eql (.t 25) (.c (.str [124])), none, 0, 0⟩, ⟨some 72, .move (.t 73), none, 0, 1⟩]
def f46r19 : List AOper := [⟨some 74, .move (.t 11), none, 0, 0⟩, ⟨some 75, .load false 1 (.t 10), none, 0, 0⟩, ⟨some 76, .call (.t 74) [(.c (.int .i64 9)), (.t 75)], none, 0, 3⟩, ⟨some 77, .extract (.t 76) 0, none, 0, 7⟩, ⟨some 78, .extract (.t 76) 1, none, 0, 7⟩, ⟨none, .store 5 (.t 6) (.t 77), none, 0, 31⟩, ⟨some 7, .move (.t 78), none, 0, 63⟩]
def f46r20 : List AOper := [⟨some 80, .bin .eql (.t 25) (.c (.str [94])), none, 0, 0⟩, ⟨some 79, .move (.t 80), none, 0, 1⟩]
def f46r21 : List AOper := [⟨some 81, .move (.t 11), none, 0, 0⟩, ⟨some 82, .load false 1 (.t 10), none, 0, 0⟩, ⟨some 83, .call (.t 81) [(.c (.int .i64 10)), (.t 82)], none, 0, 3⟩, ⟨some 84, .extract (.t 83) 0, none, 0, 7⟩, ⟨some 85, .extract (.t 83) 1, none, 0, 7⟩, ⟨none, .store 5 (.t 6) (.t 84), none, 0, 31⟩, ⟨some 7, .move (.t 85), none, 0, 63⟩]
def f46r22 : List AOper := [⟨some 87, .bin .eql (.t 25) (.c (.str [61, 61])), none, 0, 0⟩, ⟨some 86, .move (.t 87), none, 0, 1⟩]
def f46r23 : List AOper := [⟨some 88, .move (.t 11), none, 0, 0⟩, ⟨some 89, .move (.t 12), none, 0, 0⟩, ⟨some 90, .call (.t 88) [(.c (.int .i64 14)), (.t 89)], none, 0, 3⟩, ⟨some 91, .extract (.t 90) 0, none, 0, 7⟩, ⟨some 92, .extract (.t 90) 1, none, 0, 7⟩, ⟨none, .store 5 (.t 6) (.t 91), none, 0, 31⟩, ⟨some 7, .move (.t 92), none, 0, 63⟩]
def f46r24 : List AOper := [⟨some 94, .bin .eql (.t 25) (.c (.str [33, 61])), none, 0, 0⟩, ⟨some 93, .move (.t 94), none, 0, 1⟩]
def f46r25 : List AOper := [⟨some 95, .move (.t 11), none, 0, 0⟩, ⟨some 96, .move (.t 12), none, 0, 0⟩, ⟨some 97, .call (.t 95) [(.c (.int .i64 15)), (.t 96)], none, 0, 3⟩, ⟨some 98, .extract (.t 97) 0, none, 0, 7⟩, ⟨some 99, .extract (.t 97) 1, none, 0, 7⟩, ⟨none, .store 5 (.t 6) (.t 98), none, 0, 31⟩, ⟨some 7, .move (.t 99), none, 0, 63⟩]
def f46r26 : List AOper := [⟨some 101, .bin .eql (.t 25) (.c (.str [60])), none, 0, 0⟩, ⟨some 100, .move (.t 101), none, 0, 1⟩]
def f46r27 : List AOper := [⟨some 102, .bin .eql (.t 25) (.c (.str [62])), none, 0, 0⟩, ⟨some 100, .move (.t 102), none, 0, 1⟩]
def f46r28 : List AOper := [⟨some 103, .move (.t 11), none, 0, 0⟩, ⟨some 104, .move (.t 8), none, 0, 0⟩, ⟨some 105, .call (.c (.fn 97 [] [])) [(.t 104), (.c (.int .i64 16)), (.c (.int .i64 17))], none, 0, 2⟩, ⟨some 106, .move (.t 12), none, 0, 0⟩, ⟨some 107, .call (.t 103) [(.t 105), (.t 106)], none, 0, 15⟩, ⟨some 108, .extract (.t 107) 0, none, 0, 31⟩, ⟨some 109, .extract (.t 107) 1, none, 0, 31⟩, ⟨none, .store 5 (.t 6) (.t 108), none, 0, 127⟩, ⟨some 7, .move (.t 109), none, 0, 255⟩]
def f46r29 : List AOper := [⟨some 111, .bin .eql (.t 25) (.c (.str [60, 61])), none, 0, 0⟩, ⟨some 110, .move (.t 111), none, 0, 1⟩]
def f46r30 : List AOper := [⟨some 112, .bin .eql (.t 25) (.c (.str [62, 61])), none, 0, 0⟩, ⟨some 110, .move (.t 112), none, 0, 1⟩]
def f46r31 : List AOper := [⟨some 113, .move (.t 11), none, 0, 0⟩, ⟨some 114, .move (.t 8), none, 0, 0⟩, ⟨some 115, .call (.c (.fn 97 [] [])) [(.t 114), (.c (.int .i64 18)), (.c (.int .i64 19))], none, 0, 2⟩, ⟨some 116, .move (.t 12), none, 0, 0⟩, ⟨some 117, .call (.t 113) [(.t 115), (.t 116)], none, 0, 15⟩, ⟨some 118, .extract (.t 117) 0, none, 0, 31⟩, ⟨some 119, .extract (.t 117) 1, none, 0, 31⟩, ⟨none, .store 5 (.t 6) (.t 118), none, 0, 127⟩, ⟨some 7, .move (.t 119), none, 0, 255⟩]
def f46r32 : List AOper := [⟨some 121, .bin .eql (.t 25) (.c (.str [60, 60])), none, 0, 0⟩, ⟨some 120, .move (.t 121), none, 0, 1⟩]
def f46r33 : List AOper := [⟨some 122, .bin .eql (.t 25) (.c (.str [62, 62])), none, 0, 0⟩, ⟨some 120, .move (.t 122), none, 0, 1⟩]
def f46r34 : List AOper := [⟨some 123, .move (.t 1), none, 0, 0⟩, ⟨some 124, .call (.c (.fn 12 [] [])) [(.t 123), (.c (.int .i64 (-1)))], none, 0, 1⟩, ⟨some 13, .move (.t 124), none, 0, 3⟩]
def f46r35 : List AOper := [⟨some 14, .move (.c (.int .i64 11)), none, 0, 0⟩]
def f46r36 : List AOper := [⟨some 125, .move (.t 0), none, 0, 0⟩, ⟨some 126, .bin .eql (.t 125) (.c (.str [62, 62])), none, 0, 1⟩]
def f46r37 : List AOper := [⟨some 127, .move (.t 13), none, 0, 0⟩, ⟨some 128, .call (.c (.fn 97 [] [])) [(.t 127), (.c (.int .i64 12)), (.c (.int .i64 13))], none, 0, 1⟩, ⟨some 14, .move (.t 128), none, 0, 3⟩]
def f46r38 : List AOper := [⟨some 129, .move (.t 14), none, 0, 0⟩, ⟨some 130, .move (.t 13), none, 0, 0⟩, ⟨some 131, .call (.c (.fn 57 [] [])) [(.t 130)], none, 0, 2⟩, ⟨some 132, .move (.t 12), none, 0, 0⟩, ⟨some 133, .move (.t 13), none, 0, 0⟩, ⟨some 134, .call (.c (.fn 57 [] [])) [(.t 133)], none, 0, 22⟩, ⟨some 135, .build (List.replicate 5 (.int .i64 0)) [(0, 1, (.t 129)), (1, 1, (.t 131)), (2, 1, (.t 132)), (3, 1, (.t 134))], none, 0, 63⟩, ⟨none, .store 5 (.t 6) (.t 135), none, 0, 127⟩, ⟨some 7, .move (.c (.int .i64 0)), none, 0, 255⟩]
def f46r39 : List AOper := [⟨some 136, .build (List.replicate 5 (.int .i64 0)) [], none, 0, 0⟩, ⟨none, .store 5 (.t 6) (.t 136), none, 0, 1⟩, ⟨some 7, .move (.c (.int .i64 70)), none, 0, 3⟩]
theorem f46r13_s : staticOK 0 f46r13 = true := by rfl
theorem f46r13_w {A : Tab} {nt : Nat} {keep : List Nat} {n : Nat} {e : Env} {h : Heap} (hr : (bkeep keep (stepsF nt (stepF A true) h.length f46r13 e (h ++ List.replicate n .free))).isSome = true) : Brun A nt (.region true f46r13 keep n) e h = bkeep keep (stepsF nt (stepF A true) h.length f46r13 e (h ++ List.replicate n .free)) := Brun_drawnS f46r13_s hr
theorem f46r13_u (nt base : Nat) (step : Nat → AOp → Env → Heap → Option (AV × Heap)) (e : Env) (h : Heap) : stepsF nt step base f46r13 e h = stepsF nt step base f46q13 e h := rfl
theorem f46r15_s : staticOK 0 f46r15 = true := by rfl
theorem f46r15_w {A : Tab} {nt : Nat} {keep : List Nat} {n : Nat} {e : Env} {h : Heap} (hr : (bkeep keep (stepsF nt (stepF A true) h.length f46r15 e (h ++ List.replicate n .free))).isSome = true) : Brun A nt (.region true f46r15 keep n) e h = bkeep keep (stepsF nt (stepF A true) h.length f46r15 e (h ++ List.replicate n .free)) := Brun_drawnS f46r15_s hr
theorem f46r15_u (nt base : Nat) (step : Nat → AOp → Env → Heap → Option (AV × Heap)) (e : Env) (h : Heap) : stepsF nt step base f46r15 e h = stepsF nt step base f46q15 e h := rfl
def f46c : ACode :=
 .seq (.region false f46r0 [0, 1, 2, 6] 1)
 (.seq (.region false f46r1 [0, 1, 6, 8] 0)
 (.seq (.region false f46r2 [0, 1, 6, 8, 10] 1)
 (.seq (.region false f46r3 [0, 1, 6, 8, 10, 11] 0)
 (.seq (.region false f46r4 [0, 1, 6, 8, 10, 11, 12] 0)
 (.seq (.seq (.region false f46r5 [0, 1, 6, 8, 10, 11, 12, 25] 0)
 (.block 0 (.seq (.region false f46r6 [0, 1, 6, 8, 10, 11, 12, 25, 26] 0)
  (.cond (.t 26)
   (.seq (.region false f46r7 [6, 7] 0)
   (.ret))
   (.seq (.region false f46r8 [0, 1, 6, 8, 10, 11, 12, 25, 33] 0)
   (.cond (.t 33)
    (.seq (.region false f46r9 [6, 7] 0)
    (.ret))
    (.seq (.region false f46r10 [0, 1, 6, 8, 10, 11, 12, 25, 40] 0)
    (.cond (.t 40)
     (.seq (.region false f46r11 [6, 7] 0)
     (.ret))
     (.seq (.region false f46r12 [0, 1, 6, 8, 10, 11, 12, 25, 47] 0)
     (.cond (.t 47)
      (.seq (.region true f46r13 [6, 7] 0)
      (.ret))
      (.seq (.region false f46r14 [0, 1, 6, 8, 10, 11, 12, 25, 56] 0)
      (.cond (.t 56)
       (.seq (.region true f46r15 [6, 7] 0)
       (.ret))
       (.seq (.region false f46r16 [0, 1, 6, 8, 10, 11, 12, 25, 65] 0)
       (.cond (.t 65)
        (.seq (.region false f46r17 [6, 7] 0)
        (.ret))
        (.seq (.region false f46r18 [0, 1, 6, 8, 10, 11, 12, 25, 72] 0)
        (.cond (.t 72)
         (.seq (.region false f46r19 [6, 7] 0)
         (.ret))
         (.seq (.region false f46r20 [0, 1, 6, 8, 10, 11, 12, 25, 79] 0)
         (.cond (.t 79)
          (.seq (.region false f46r21 [6, 7] 0)
          (.ret))
          (.seq (.region false f46r22 [0, 1, 6, 8, 11, 12, 25, 86] 0)
          (.cond (.t 86)
           (.seq (.region false f46r23 [6, 7] 0)
           (.ret))
           (.seq (.region false f46r24 [0, 1, 6, 8, 11, 12, 25, 93] 0)
           (.cond (.t 93)
            (.seq (.region false f46r25 [6, 7] 0)
            (.ret))
            (.seq (.seq (.region false f46r26 [0, 1, 6, 8, 11, 12, 25, 100] 0)
            (.cond (.t 100)
             (.skip)
             (.region false f46r27 [0, 1, 6, 8, 11, 12, 25, 100] 0)))
            (.cond (.t 100)
             (.seq (.region false f46r28 [6, 7] 0)
             (.ret))
             (.seq (.seq (.region false f46r29 [0, 1, 6, 8, 11, 12, 25, 110] 0)
             (.cond (.t 110)
              (.skip)
              (.region false f46r30 [0, 1, 6, 8, 11, 12, 25, 110] 0)))
             (.cond (.t 110)
              (.seq (.region false f46r31 [6, 7] 0)
              (.ret))
              (.seq (.seq (.region false f46r32 [0, 1, 6, 12, 25, 120] 0)
              (.cond (.t 120)
               (.skip)
               (.region false f46r33 [0, 1, 6, 12, 120] 0)))
              (.cond (.t 120)
               (.seq (.region false f46r34 [0, 6, 12, 13] 0)
               (.seq (.region false f46r35 [0, 6, 12, 13, 14] 0)
               (.seq (.seq (.region false f46r36 [6, 12, 13, 14, 126] 0)
               (.cond (.t 126)
                (.region false f46r37 [6, 12, 13, 14] 0)
                (.skip)))
               (.seq (.region false f46r38 [6, 7] 0)
               (.ret)))))
               (.skip)))))))))))))))))))))))))))))
 (.seq (.region false f46r39 [6, 7] 0)
 (.ret)))))))
def f46 : AFn := ⟨3, 137, [.cell 6 true 5, .tmp 7], f46c, 1, none⟩
def f46k : List (Nat × List Nat) := [(0, [0, 1, 2, 6]), (1, [0, 1, 6, 8]), (2, [0, 1, 6, 8, 10]), (3, [0, 1, 6, 8, 10, 11]), (4, [0, 1, 6, 8, 10, 11, 12]), (5, [0, 1, 6, 8, 10, 11, 12, 25]), (6, [0, 1, 6, 8, 10, 11, 12, 25, 26]), (8, [0, 1, 6, 8, 10, 11, 12, 25, 33]), (10, [0, 1, 6, 8, 10, 11, 12, 25, 40]), (12, [0, 1, 6, 8, 10, 11, 12, 25, 47]), (14, [0, 1, 6, 8, 10, 11, 12, 25, 56]), (16, [0, 1, 6, 8, 10, 11, 12, 25, 65]), (18, [0, 1, 6, 8, 10, 11, 12, 25, 72]), (20, [0, 1, 6, 8, 10, 11, 12, 25, 79]), (22, [0, 1, 6, 8, 11, 12, 25, 86]), (24, [0, 1, 6, 8, 11, 12, 25, 93]), (26, [0, 1, 6, 8, 11, 12, 25, 100]), (27, [0, 1, 6, 8, 11, 12, 25, 100]), (29, [0, 1, 6, 8, 11, 12, 25, 110]), (30, [0, 1, 6, 8, 11, 12, 25, 110]), (32, [0, 1, 6, 12, 25, 120]), (33, [0, 1, 6, 12, 120]), (34, [0, 6, 12, 13]), (35, [0, 6, 12, 13, 14]), (36, [6, 12, 13, 14, 126]), (37, [6, 12, 13, 14]), (38, [6, 7]), (31, [6, 7]), (28, [6, 7]), (25, [6, 7]), (23, [6, 7]), (21, [6, 7]), (19, [6, 7]), (17, [6, 7]), (15, [6, 7]), (13, [6, 7]), (11, [6, 7]), (9, [6, 7]), (7, [6, 7]), (39, [6, 7])]
def f46v : List Nat := []
def f47r0 : List AOper := [⟨some 4, .box false (.t 0), none, 0, 0⟩, ⟨some 8, .alloc false (List.replicate 5 (.int .i64 0)), none, 1, 0⟩, ⟨some 9, .move (.c (.int .i64 0)), none, 2, 0⟩]
def f47r1 : List AOper := [⟨some 14, .move (.t 2), none, 0, 0⟩, ⟨some 15, .move (.t 2), none, 0, 0⟩, ⟨some 16, .call (.c (.fn 57 [] [])) [(.c (.int .i64 8))], none, 0, 0⟩, ⟨some 17, .build (List.replicate 5 (.int .i64 0)) [(1, 1, (.t 14)), (2, 1, (.t 15)), (3, 1, (.t 16))], none, 0, 7⟩, ⟨some 10, .alloc false (List.replicate 5 (.int .i64 0)), none, 0, 0⟩, ⟨none, .store 5 (.t 10) (.t 17), none, 1, 31⟩]
def f47r2 : List AOper := [⟨some 18, .move (.t 2), none, 0, 0⟩, ⟨some 19, .move (.t 3), none, 0, 0⟩, ⟨some 20, .bin .eql (.t 18) (.t 19), none, 0, 3⟩, ⟨some 11, .move (.t 20), none, 0, 7⟩]
def f47r3 : List AOper := [⟨some 21, .move (.t 1), none, 0, 0⟩]
def f47r4 : List AOper := [⟨some 23, .bin .eql (.t 21) (.c (.str [45])), none, 0, 0⟩, ⟨some 22, .move (.t 23), none, 0, 1⟩]
def f47r5 : List AOper := [⟨some 24, .move (.t 11), none, 0, 0⟩, ⟨some 25, .un .not (.t 24), none, 0, 1⟩]
def f47q6 : List AOper := [⟨some 27, .fieldAddr 0 (.t 4), none, 0, 0⟩, ⟨some 28, .load false 1 (.t 27), none, 0, 1⟩, ⟨some 29, .load true 1 (.t 4), none, 0, 0⟩, ⟨some 30, .move (.t 2), none, 0, 0⟩, ⟨some 31, .call (.c (.fn 41 [] [])) [(.t 29), (.t 30)], none, 0, 12⟩, ⟨some 32, .field false 1 1 (.t 31), none, 0, 28⟩, ⟨some 33, .call (.c (.fn 66 [] [])) [(.t 28), (.t 32)], none, 0, 63⟩, ⟨some 26, .move (.t 33), none, 0, 127⟩, ⟨some 34, .extract (.t 26) 0, none, 0, 255⟩, ⟨some 35, .extract (.t 26) 1, none, 0, 255⟩, ⟨some 12, .move (.t 34), none, 0, 511⟩, ⟨some 13, .move (.t 35), none, 0, 2047⟩]
def f47r6 : List AOper := f47q6
def f47r7 : List AOper := [⟨some 36, .move (.t 13), none, 0, 0⟩, ⟨some 37, .bin .neq (.t 36) (.c (.int .i64 0)), none, 0, 1⟩]
def f47r8 : List AOper := [⟨some 38, .build (List.replicate 5 (.int .i64 0)) [], none, 0, 0⟩, ⟨some 39, .move (.t 13), none, 0, 0⟩, ⟨none, .store 5 (.t 8) (.t 38), none, 0, 1⟩, ⟨some 9, .move (.t 39), none, 0, 7⟩]
def f47r9 : List AOper := [⟨some 40, .move (.t 12), none, 0, 0⟩, ⟨some 41, .fieldAddr 0 (.t 10), none, 0, 0⟩, ⟨none, .store 1 (.t 41) (.c (.int .i64 2)), none, 0, 2⟩, ⟨some 42, .fieldAddr 4 (.t 10), none, 0, 7⟩, ⟨none, .store 1 (.t 42) (.t 40), none, 0, 15⟩]
def f47r10 : List AOper := [⟨some 43, .load true 5 (.t 10), none, 0, 0⟩, ⟨none, .store 5 (.t 8) (.t 43), none, 0, 1⟩, ⟨some 9, .move (.c (.int .i64 0)), none, 0, 3⟩]
def f47r11 : List AOper := [⟨some 45, .bin .eql (.t 21) (.c (.str [61, 61])), none, 0, 0⟩, ⟨some 44, .move (.t 45), none, 0, 1⟩]
def f47r12 : List AOper := [⟨some 46, .bin .eql (.t 21) (.c (.str [33, 61])), none, 0, 0⟩, ⟨some 44, .move (.t 46), none, 0, 1⟩]
def f47r13 : List AOper := [⟨some 47, .move (.t 11), none, 0, 0⟩, ⟨some 48, .un .not (.t 47), none, 0, 1⟩, ⟨some 49, .move (.t 48), none, 0, 3⟩, ⟨some 50, .load true 1 (.t 4), (some (49, true)), 0, 7⟩, ⟨some 51, .move (.t 2), (some (49, true)), 0, 7⟩, ⟨some 52, .call (.c (.fn 59 [] [])) [(.t 50), (.t 51)], (some (49, true)), 0, 31⟩, ⟨some 53, .un .not (.t 52), (some (49, true)), 0, 63⟩, ⟨some 54, .pick (.t 49) (.t 53) (.c (.bool false)), none, 0, 127⟩, ⟨some 55, .move (.t 54), none, 0, 255⟩, ⟨some 56, .load true 1 (.t 4), (some (55, true)), 0, 511⟩, ⟨some 57, .move (.t 3), (some (55, true)), 0, 511⟩, ⟨some 58, .call (.c (.fn 59 [] [])) [(.t 56), (.t 57)], (some (55, true)), 0, 2047⟩, ⟨some 59, .un .not (.t 58), (some (55, true)), 0, 4095⟩, ⟨some 60, .pick (.t 55) (.t 59) (.c (.bool false)), none, 0, 8191⟩]
def f47r14 : List AOper := [⟨some 61, .fieldAddr 0 (.t 10), none, 0, 0⟩, ⟨none, .store 1 (.t 61) (.c (.int .i64 14)), none, 0, 1⟩]
def f47r15 : List AOper := [⟨some 62, .move (.t 1), none, 0, 0⟩, ⟨some 63, .bin .eql (.t 62) (.c (.str [33, 61])), none, 0, 1⟩]
def f47r16 : List AOper := [⟨some 64, .fieldAddr 0 (.t 10), none, 0, 0⟩, ⟨none, .store 1 (.t 64) (.c (.int .i64 15)), none, 0, 1⟩]
def f47r17 : List AOper := [⟨some 65, .load true 5 (.t 10), none, 0, 0⟩, ⟨none, .store 5 (.t 8) (.t 65), none, 0, 1⟩, ⟨some 9, .move (.c (.int .i64 0)), none, 0, 3⟩]
def f47r18 : List AOper := [⟨some 67, .bin .eql (.t 21) (.c (.str [60])), none, 0, 0⟩, ⟨some 66, .move (.t 67), none, 0, 1⟩]
def f47r19 : List AOper := [⟨some 68, .bin .eql (.t 21) (.c (.str [62])), none, 0, 0⟩, ⟨some 66, .move (.t 68), none, 0, 1⟩]
def f47r20 : List AOper := [⟨some 69, .fieldAddr 0 (.t 10), none, 0, 0⟩, ⟨none, .store 1 (.t 69) (.c (.int .i64 17)), none, 0, 1⟩]
def f47r21 : List AOper := [⟨some 71, .bin .eql (.t 21) (.c (.str [60, 61])), none, 0, 0⟩, ⟨some 70, .move (.t 71), none, 0, 1⟩]
def f47r22 : List AOper := [⟨some 72, .bin .eql (.t 21) (.c (.str [62, 61])), none, 0, 0⟩, ⟨some 70, .move (.t 72), none, 0, 1⟩]
def f47r23 : List AOper := [⟨some 73, .fieldAddr 0 (.t 10), none, 0, 0⟩, ⟨none, .store 1 (.t 73) (.c (.int .i64 19)), none, 0, 1⟩]
def f47r24 : List AOper := [⟨some 74, .fieldAddr 0 (.t 10), none, 0, 0⟩, ⟨some 75, .load false 1 (.t 74), none, 0, 1⟩, ⟨some 76, .bin .eql (.t 75) (.c (.int .i64 0)), none, 0, 3⟩, ⟨some 77, .move (.t 76), none, 0, 7⟩, ⟨some 78, .move (.t 11), (some (77, false)), 0, 15⟩, ⟨some 79, .un .not (.t 78), (some (77, false)), 0, 31⟩, ⟨some 80, .pick (.t 77) (.c (.bool true)) (.t 79), none, 0, 63⟩]
def f47r25 : List AOper := [⟨some 81, .build (List.replicate 5 (.int .i64 0)) [], none, 0, 0⟩, ⟨none, .store 5 (.t 8) (.t 81), none, 0, 1⟩, ⟨some 9, .move (.c (.int .i64 70)), none, 0, 3⟩]
def f47r26 : List AOper := [⟨some 82, .load true 5 (.t 10), none, 0, 0⟩, ⟨none, .store 5 (.t 8) (.t 82), none, 0, 1⟩, ⟨some 9, .move (.c (.int .i64 0)), none, 0, 3⟩]
theorem f47r6_s : staticOK 0 f47r6 = true := by rfl
theorem f47r6_w {A : Tab} {nt : Nat} {keep : List Nat} {n : Nat} {e : Env} {h : Heap} (hr : (bkeep keep (stepsF nt (stepF A true) h.length f47r6 e (h ++ List.replicate n .free))).isSome = true) : Brun A nt (.region true f47r6 keep n) e h = bkeep keep (stepsF nt (stepF A true) h.length f47r6 e (h ++ List.replicate n .free)) := Brun_drawnS f47r6_s hr
theorem f47r6_u (nt base : Nat) (step : Nat → AOp → Env → Heap → Option (AV × Heap)) (e : Env) (h : Heap) : stepsF nt step base f47r6 e h = stepsF nt step base f47q6 e h := rfl
def f47c : ACode :=
 .seq (.region false f47r0 [1, 2, 3, 4, 8] 2)
 (.seq (.region false f47r1 [1, 2, 3, 4, 8, 10] 1)
 (.seq (.region false f47r2 [1, 2, 3, 4, 8, 10, 11] 0)
 (.seq (.seq (.region false f47r3 [1, 2, 3, 4, 8, 10, 11, 21] 0)
 (.block 0 (.seq (.region false f47r4 [1, 2, 3, 4, 8, 10, 11, 21, 22] 0)
  (.cond (.t 22)
   (.seq (.seq (.region false f47r5 [2, 4, 8, 10, 11, 25] 0)
   (.cond (.t 25)
    (.exit 0)
    (.skip)))
   (.seq (.region true f47r6 [8, 10, 12, 13] 0)
   (.seq (.seq (.region false f47r7 [8, 10, 12, 13, 37] 0)
   (.cond (.t 37)
    (.seq (.region false f47r8 [8, 9] 0)
    (.ret))
    (.skip)))
   (.seq (.region false f47r9 [8, 10] 0)
   (.seq (.region false f47r10 [8, 9] 0)
   (.ret))))))
   (.seq (.seq (.region false f47r11 [1, 2, 3, 4, 8, 10, 11, 21, 44] 0)
   (.cond (.t 44)
    (.skip)
    (.region false f47r12 [1, 2, 3, 4, 8, 10, 11, 21, 44] 0)))
   (.cond (.t 44)
    (.seq (.seq (.region false f47r13 [1, 8, 10, 11, 60] 0)
    (.cond (.t 60)
     (.exit 0)
     (.skip)))
    (.seq (.region false f47r14 [1, 8, 10] 0)
    (.seq (.seq (.region false f47r15 [8, 10, 63] 0)
    (.cond (.t 63)
     (.region false f47r16 [8, 10] 0)
     (.skip)))
    (.seq (.region false f47r17 [8, 9] 0)
    (.ret)))))
    (.seq (.seq (.region false f47r18 [8, 10, 11, 21, 66] 0)
    (.cond (.t 66)
     (.skip)
     (.region false f47r19 [8, 10, 11, 21, 66] 0)))
    (.cond (.t 66)
     (.region false f47r20 [8, 10, 11] 0)
     (.seq (.seq (.region false f47r21 [8, 10, 11, 21, 70] 0)
     (.cond (.t 70)
      (.skip)
      (.region false f47r22 [8, 10, 11, 70] 0)))
     (.cond (.t 70)
      (.region false f47r23 [8, 10, 11] 0)
      (.skip)))))))))))
 (.seq (.seq (.region false f47r24 [8, 10, 80] 0)
 (.cond (.t 80)
  (.seq (.region false f47r25 [8, 9] 0)
  (.ret))
  (.skip)))
 (.seq (.region false f47r26 [8, 9] 0)
 (.ret))))))
def f47 : AFn := ⟨4, 83, [.cell 8 true 5, .tmp 9], f47c, 1, none⟩
def f47k : List (Nat × List Nat) := [(0, [1, 2, 3, 4, 8]), (1, [1, 2, 3, 4, 8, 10]), (2, [1, 2, 3, 4, 8, 10, 11]), (3, [1, 2, 3, 4, 8, 10, 11, 21]), (4, [1, 2, 3, 4, 8, 10, 11, 21, 22]), (11, [1, 2, 3, 4, 8, 10, 11, 21, 44]), (12, [1, 2, 3, 4, 8, 10, 11, 21, 44]), (18, [8, 10, 11, 21, 66]), (19, [8, 10, 11, 21, 66]), (21, [8, 10, 11, 21, 70]), (22, [8, 10, 11, 70]), (23, [8, 10, 11]), (20, [8, 10, 11]), (13, [1, 8, 10, 11, 60]), (14, [1, 8, 10]), (15, [8, 10, 63]), (16, [8, 10]), (17, [8, 9]), (5, [2, 4, 8, 10, 11, 25]), (6, [8, 10, 12, 13]), (7, [8, 10, 12, 13, 37]), (8, [8, 9]), (9, [8, 10]), (10, [8, 9]), (24, [8, 10, 80]), (25, [8, 9]), (26, [8, 9])]
def f47v : List Nat := []
def f48r0 : List AOper := [⟨some 3, .box false (.t 0), none, 0, 0⟩, ⟨some 4, .box false (.t 1), none, 1, 0⟩, ⟨some 6, .alloc false (List.replicate 5 (.int .i64 0)), none, 2, 0⟩, ⟨some 7, .move (.c (.int .i64 0)), none, 3, 0⟩]
def f48q1 : List AOper := [⟨some 11, .fieldAddr 0 (.t 3), none, 0, 0⟩, ⟨some 12, .load false 1 (.t 11), none, 0, 1⟩, ⟨some 13, .load true 1 (.t 3), none, 0, 0⟩, ⟨some 14, .move (.t 2), none, 0, 0⟩, ⟨some 15, .call (.c (.fn 41 [] [])) [(.t 13), (.t 14)], none, 0, 12⟩, ⟨some 16, .field false 1 1 (.t 15), none, 0, 28⟩, ⟨some 17, .call (.c (.fn 66 [] [])) [(.t 12), (.t 16)], none, 0, 63⟩, ⟨some 10, .move (.t 17), none, 0, 127⟩, ⟨some 18, .extract (.t 10) 0, none, 0, 255⟩, ⟨some 19, .extract (.t 10) 1, none, 0, 255⟩, ⟨some 8, .move (.t 18), none, 0, 511⟩, ⟨some 9, .move (.t 19), none, 0, 2047⟩]
def f48r1 : List AOper := f48q1
def f48r2 : List AOper := [⟨some 20, .move (.t 9), none, 0, 0⟩, ⟨some 21, .bin .neq (.t 20) (.c (.int .i64 0)), none, 0, 1⟩]
def f48r3 : List AOper := [⟨some 22, .build (List.replicate 5 (.int .i64 0)) [], none, 0, 0⟩, ⟨some 23, .move (.t 9), none, 0, 0⟩, ⟨none, .store 5 (.t 6) (.t 22), none, 0, 1⟩, ⟨some 7, .move (.t 23), none, 0, 7⟩]
def f48r4 : List AOper := [⟨some 24, .move (.t 2), none, 0, 0⟩, ⟨some 25, .move (.t 8), none, 0, 0⟩, ⟨some 26, .fieldAddr 3 (.t 4), none, 0, 1⟩, ⟨none, .store 1 (.t 26) (.t 24), none, 0, 5⟩, ⟨some 27, .fieldAddr 4 (.t 4), none, 0, 15⟩, ⟨none, .store 1 (.t 27) (.t 25), none, 0, 31⟩]
def f48r5 : List AOper := [⟨some 28, .load true 5 (.t 4), none, 0, 0⟩, ⟨none, .store 5 (.t 6) (.t 28), none, 0, 1⟩, ⟨some 7, .move (.c (.int .i64 0)), none, 0, 3⟩]
theorem f48r1_s : staticOK 0 f48r1 = true := by rfl
theorem f48r1_w {A : Tab} {nt : Nat} {keep : List Nat} {n : Nat} {e : Env} {h : Heap} (hr : (bkeep keep (stepsF nt (stepF A true) h.length f48r1 e (h ++ List.replicate n .free))).isSome = true) : Brun A nt (.region true f48r1 keep n) e h = bkeep keep (stepsF nt (stepF A true) h.length f48r1 e (h ++ List.replicate n .free)) := Brun_drawnS f48r1_s hr
theorem f48r1_u (nt base : Nat) (step : Nat → AOp → Env → Heap → Option (AV × Heap)) (e : Env) (h : Heap) : stepsF nt step base f48r1 e h = stepsF nt step base f48q1 e h := rfl
def f48c : ACode :=
 .seq (.region false f48r0 [2, 3, 4, 6] 3)
 (.seq (.region true f48r1 [2, 4, 6, 8, 9] 0)
 (.seq (.seq (.region false f48r2 [2, 4, 6, 8, 9, 21] 0)
 (.cond (.t 21)
  (.seq (.region false f48r3 [6, 7] 0)
  (.ret))
  (.skip)))
 (.seq (.region false f48r4 [4, 6] 0)
 (.seq (.region false f48r5 [6, 7] 0)
 (.ret)))))
def f48 : AFn := ⟨3, 29, [.cell 6 true 5, .tmp 7], f48c, 1, none⟩
def f48k : List (Nat × List Nat) := [(0, [2, 3, 4, 6]), (1, [2, 4, 6, 8, 9]), (2, [2, 4, 6, 8, 9, 21]), (3, [6, 7]), (4, [4, 6]), (5, [6, 7])]
def f48v : List Nat := []
def f49r0 : List AOper := [⟨some 0, .move (.c (.int .i64 0)), none, 0, 0⟩]
def f49r1 : List AOper := [⟨some 1, .call (.c (.fn 57 [] [])) [(.c (.int .i64 8))], none, 0, 0⟩, ⟨some 0, .move (.t 1), none, 0, 1⟩]
def f49c : ACode :=
 .seq (.region false f49r0 [] 0)
 (.seq (.region false f49r1 [0] 0)
 (.ret))
def f49 : AFn := ⟨0, 2, [.tmp 0], f49c, 1, none⟩
def f49k : List (Nat × List Nat) := [(0, []), (1, [0])]
def f49v : List Nat := []
def f56r0 : List AOper := [⟨some 4, .move (.c (.bool false)), none, 0, 0⟩]
def f56r1 : List AOper := [⟨some 6, .move (.t 0), none, 0, 0⟩, ⟨some 7, .move (.t 1), none, 0, 0⟩, ⟨some 8, .call (.c (.fn 100 [] [])) [(.t 6), (.t 7)], none, 0, 3⟩, ⟨some 5, .move (.t 8), none, 0, 7⟩]
def f56r2 : List AOper := [⟨some 9, .move (.t 5), none, 0, 0⟩, ⟨some 10, .bin .geq (.t 9) (.c (.int .i64 2)), none, 0, 1⟩, ⟨some 11, .move (.t 10), none, 0, 3⟩, ⟨some 12, .move (.t 5), (some (11, true)), 0, 7⟩, ⟨some 13, .bin .leq (.t 12) (.c (.int .i64 13)), (some (11, true)), 0, 15⟩, ⟨some 14, .pick (.t 11) (.t 13) (.c (.bool false)), none, 0, 31⟩, ⟨some 4, .move (.t 14), none, 0, 63⟩]
def f56c : ACode :=
 .seq (.region false f56r0 [0, 1] 0)
 (.seq (.region false f56r1 [5] 0)
 (.seq (.region false f56r2 [4] 0)
 (.ret)))
def f56 : AFn := ⟨2, 15, [.tmp 4], f56c, 1, none⟩
def f56k : List (Nat × List Nat) := [(0, [0, 1]), (1, [5]), (2, [4])]
def f56v : List Nat := []
def f57r0 : List AOper := [⟨some 2, .move (.c (.int .i64 0)), none, 0, 0⟩]
def f57r1 : List AOper := [⟨some 3, .move (.t 0), none, 0, 0⟩, ⟨some 4, .bin .sub (.t 3) (.c (.int .i64 1)), none, 0, 1⟩, ⟨some 2, .move (.t 4), none, 0, 3⟩]
def f57c : ACode :=
 .seq (.region false f57r0 [0] 0)
 (.seq (.region false f57r1 [2] 0)
 (.ret))
def f57 : AFn := ⟨1, 5, [.tmp 2], f57c, 1, none⟩
def f57k : List (Nat × List Nat) := [(0, [0]), (1, [2])]
def f57v : List Nat := []
def f59r0 : List AOper := [⟨some 2, .box false (.t 0), none, 0, 0⟩, ⟨some 4, .move (.c (.bool false)), none, 1, 0⟩]
def f59r1 : List AOper := [⟨some 5, .load true 1 (.t 2), none, 0, 0⟩, ⟨some 6, .move (.t 1), none, 0, 0⟩, ⟨some 7, .call (.c (.fn 45 [] [])) [(.t 5), (.t 6)], none, 0, 3⟩, ⟨some 8, .move (.t 7), none, 0, 7⟩, ⟨some 9, .load true 1 (.t 2), (some (8, true)), 0, 15⟩, ⟨some 10, .move (.t 1), (some (8, true)), 0, 15⟩, ⟨some 11, .call (.c (.fn 41 [] [])) [(.t 9), (.t 10)], (some (8, true)), 0, 63⟩, ⟨some 12, .field false 1 1 (.t 11), (some (8, true)), 0, 127⟩, ⟨some 13, .call (.c (.fn 57 [] [])) [(.c (.int .i64 1))], (some (8, true)), 0, 127⟩, ⟨some 14, .bin .eql (.t 12) (.t 13), (some (8, true)), 0, 511⟩, ⟨some 15, .pick (.t 8) (.t 14) (.c (.bool false)), none, 0, 1023⟩, ⟨some 4, .move (.t 15), none, 0, 2047⟩]
def f59c : ACode :=
 .seq (.region false f59r0 [1, 2] 1)
 (.seq (.region false f59r1 [4] 0)
 (.ret))
def f59 : AFn := ⟨2, 16, [.tmp 4], f59c, 1, none⟩
def f59k : List (Nat × List Nat) := [(0, [1, 2]), (1, [4])]
def f59v : List Nat := []
def f63r0 : List AOper := [⟨some 2, .move (.c (.int .i64 0)), none, 0, 0⟩]
def f63r1 : List AOper := [⟨some 3, .move (.t 0), none, 0, 0⟩, ⟨some 4, .call (.c (.fn 90 [] [])) [(.t 3)], none, 0, 1⟩, ⟨some 5, .un .not (.t 4), none, 0, 3⟩]
def f63r2 : List AOper := [⟨some 2, .move (.c (.int .i64 0)), none, 0, 0⟩]
def f63r3 : List AOper := [⟨some 6, .move (.t 0), none, 0, 0⟩, ⟨some 7, .nilCheck (.t 6), none, 0, 1⟩, ⟨some 8, .fieldAddr 0 (.t 7), none, 0, 3⟩, ⟨some 9, .load false 1 (.t 8), none, 0, 7⟩, ⟨some 10, .len 1 (.t 9), none, 0, 15⟩, ⟨some 2, .move (.t 10), none, 0, 31⟩]
def f63c : ACode :=
 .seq (.region false f63r0 [0] 0)
 (.seq (.seq (.region false f63r1 [0, 5] 0)
 (.cond (.t 5)
  (.seq (.region false f63r2 [2] 0)
  (.ret))
  (.skip)))
 (.seq (.region false f63r3 [2] 0)
 (.ret)))
def f63 : AFn := ⟨1, 11, [.tmp 2], f63c, 1, none⟩
def f63k : List (Nat × List Nat) := [(0, [0]), (1, [0, 5]), (2, [2]), (3, [2])]
def f63v : List Nat := []
def f66r0 : List AOper := [⟨some 4, .move (.c (.int .i64 0)), none, 0, 0⟩, ⟨some 5, .move (.c (.int .i64 0)), none, 0, 1⟩]
def f66r1 : List AOper := [⟨some 10, .move (.t 0), none, 0, 0⟩, ⟨some 11, .move (.t 1), none, 0, 0⟩, ⟨some 12, .call (.c (.fn 70 [] [])) [(.t 10), (.t 11)], none, 0, 3⟩, ⟨some 9, .move (.t 12), none, 0, 7⟩, ⟨some 13, .extract (.t 9) 0, none, 0, 15⟩, ⟨some 14, .extract (.t 9) 1, none, 0, 15⟩, ⟨some 15, .extract (.t 9) 2, none, 0, 15⟩, ⟨some 7, .alloc false [(.int .i64 0), (.int .i64 0), (.is [] .nil)], none, 0, 0⟩, ⟨some 6, .move (.t 13), none, 1, 159⟩, ⟨none, .store 3 (.t 7) (.t 14), none, 1, 447⟩, ⟨some 8, .move (.t 15), none, 1, 1023⟩]
def f66r2 : List AOper := [⟨some 16, .fieldAddr 0 (.t 7), none, 0, 0⟩, ⟨some 17, .load false 1 (.t 16), none, 0, 1⟩, ⟨some 18, .move (.t 8), none, 0, 0⟩, ⟨some 4, .move (.t 17), none, 0, 3⟩, ⟨some 5, .move (.t 18), none, 0, 15⟩]
def f66c : ACode :=
 .seq (.region false f66r0 [0, 1] 0)
 (.seq (.region false f66r1 [7, 8] 1)
 (.seq (.region false f66r2 [4, 5] 0)
 (.ret)))
def f66 : AFn := ⟨2, 19, [.tmp 4, .tmp 5], f66c, 1, none⟩
def f66k : List (Nat × List Nat) := [(0, [0, 1]), (1, [7, 8]), (2, [4, 5])]
def f66v : List Nat := []
def f70r0 : List AOper := [⟨some 4, .move (.c .nilp), none, 0, 0⟩, ⟨some 5, .alloc false [(.int .i64 0), (.int .i64 0), (.is [] .nil)], none, 0, 0⟩, ⟨some 6, .move (.c (.int .i64 0)), none, 1, 1⟩]
def f70r1 : List AOper := [⟨some 10, .move (.t 0), none, 0, 0⟩, ⟨some 11, .call (.c (.fn 63 [] [])) [(.t 10)], none, 0, 1⟩, ⟨some 12, .bin .eql (.t 11) (.c (.int .i64 0)), none, 0, 3⟩, ⟨some 9, .move (.t 12), none, 0, 7⟩]
def f70r2 : List AOper := [⟨some 13, .build [(.int .i64 0), (.int .i64 0), (.is [] .nil)] [], none, 0, 0⟩, ⟨some 4, .move (.c .nilp), none, 0, 0⟩, ⟨none, .store 3 (.t 5) (.t 13), none, 0, 3⟩, ⟨some 6, .move (.c (.int .i64 1)), none, 0, 7⟩]
def f70r3 : List AOper := [⟨some 15, .move (.t 1), none, 0, 0⟩, ⟨some 16, .bin .lss (.t 15) (.c (.int .i64 0)), none, 0, 1⟩, ⟨some 17, .move (.t 16), none, 0, 3⟩, ⟨some 18, .move (.t 1), (some (17, false)), 0, 7⟩, ⟨some 19, .move (.t 0), (some (17, false)), 0, 7⟩, ⟨some 20, .call (.c (.fn 63 [] [])) [(.t 19)], (some (17, false)), 0, 23⟩, ⟨some 21, .bin .geq (.t 18) (.t 20), (some (17, false)), 0, 63⟩, ⟨some 22, .pick (.t 17) (.c (.bool true)) (.t 21), none, 0, 127⟩, ⟨some 14, .move (.t 22), none, 0, 255⟩]
def f70r4 : List AOper := [⟨some 23, .build [(.int .i64 0), (.int .i64 0), (.is [] .nil)] [], none, 0, 0⟩, ⟨some 4, .move (.c .nilp), none, 0, 0⟩, ⟨none, .store 3 (.t 5) (.t 23), none, 0, 3⟩, ⟨some 6, .move (.c (.int .i64 30)), none, 0, 7⟩]
def f70r5 : List AOper := [⟨some 25, .move (.t 0), none, 0, 0⟩, ⟨some 26, .move (.t 1), none, 0, 0⟩, ⟨some 27, .call (.c (.fn 86 [] [])) [(.t 25), (.t 26)], none, 0, 3⟩, ⟨some 28, .un .not (.t 27), none, 0, 7⟩, ⟨some 24, .move (.t 28), none, 0, 15⟩]
def f70r6 : List AOper := [⟨some 29, .build [(.int .i64 0), (.int .i64 0), (.is [] .nil)] [], none, 0, 0⟩, ⟨some 4, .move (.c .nilp), none, 0, 0⟩, ⟨none, .store 3 (.t 5) (.t 29), none, 0, 3⟩, ⟨some 6, .move (.c (.int .i64 50)), none, 0, 7⟩]
def f70r7 : List AOper := [⟨some 30, .move (.t 0), none, 0, 0⟩, ⟨some 31, .mkMap, none, 0, 0⟩, ⟨some 32, .build [.nilp, .nilm, (.bool false)] [(0, 1, (.t 30)), (1, 1, (.t 31))], none, 1, 3⟩, ⟨some 33, .box false (.t 32), none, 1, 7⟩, ⟨some 7, .move (.t 33), none, 2, 15⟩]
def f70r8 : List AOper := [⟨some 34, .move (.t 7), none, 0, 0⟩, ⟨some 35, .move (.t 1), none, 0, 0⟩, ⟨some 36, .call (.c (.fn 72 [] [])) [(.t 34), (.t 35)], none, 0, 3⟩, ⟨some 8, .alloc false [(.int .i64 0), (.int .i64 0), (.is [] .nil)], none, 0, 0⟩, ⟨none, .store 3 (.t 8) (.t 36), none, 1, 15⟩]
def f70r9 : List AOper := [⟨some 37, .move (.t 7), none, 0, 0⟩, ⟨some 38, .nilCheck (.t 37), none, 0, 1⟩, ⟨some 39, .fieldAddr 2 (.t 38), none, 0, 3⟩, ⟨some 40, .load false 1 (.t 39), none, 0, 7⟩]
def f70r10 : List AOper := [⟨some 41, .build [(.int .i64 0), (.int .i64 0), (.is [] .nil)] [], none, 0, 0⟩, ⟨some 4, .move (.c .nilp), none, 0, 0⟩, ⟨none, .store 3 (.t 5) (.t 41), none, 0, 3⟩, ⟨some 6, .move (.c (.int .i64 51)), none, 0, 7⟩]
def f70q11 : List AOper := [⟨some 42, .move (.t 7), none, 0, 0⟩, ⟨some 43, .load true 3 (.t 8), none, 0, 0⟩, ⟨some 4, .move (.t 42), none, 0, 1⟩, ⟨none, .store 3 (.t 5) (.t 43), none, 0, 7⟩, ⟨some 6, .move (.c (.int .i64 0)), none, 0, 15⟩]
def f70r11 : List AOper := f70q11
theorem f70r11_s : staticOK 0 f70r11 = true := by rfl
theorem f70r11_w {A : Tab} {nt : Nat} {keep : List Nat} {n : Nat} {e : Env} {h : Heap} (hr : (bkeep keep (stepsF nt (stepF A true) h.length f70r11 e (h ++ List.replicate n .free))).isSome = true) : Brun A nt (.region true f70r11 keep n) e h = bkeep keep (stepsF nt (stepF A true) h.length f70r11 e (h ++ List.replicate n .free)) := Brun_drawnS f70r11_s hr
theorem f70r11_u (nt base : Nat) (step : Nat → AOp → Env → Heap → Option (AV × Heap)) (e : Env) (h : Heap) : stepsF nt step base f70r11 e h = stepsF nt step base f70q11 e h := rfl
def f70c : ACode :=
 .seq (.region false f70r0 [0, 1, 5] 1)
 (.seq (.block 0 (.seq (.region false f70r1 [0, 1, 5, 9] 0)
  (.cond (.t 9)
   (.seq (.region false f70r2 [4, 5, 6] 0)
   (.ret))
   (.seq (.region false f70r3 [0, 1, 5, 14] 0)
   (.cond (.t 14)
    (.seq (.region false f70r4 [4, 5, 6] 0)
    (.ret))
    (.seq (.region false f70r5 [0, 1, 5, 24] 0)
    (.cond (.t 24)
     (.seq (.region false f70r6 [4, 5, 6] 0)
     (.ret))
     (.skip))))))))
 (.seq (.region false f70r7 [1, 5, 7] 2)
 (.seq (.region false f70r8 [5, 7, 8] 1)
 (.seq (.seq (.region false f70r9 [5, 7, 8, 40] 0)
 (.cond (.t 40)
  (.seq (.region false f70r10 [4, 5, 6] 0)
  (.ret))
  (.skip)))
 (.seq (.region true f70r11 [4, 5, 6] 0)
 (.ret))))))
def f70 : AFn := ⟨2, 44, [.tmp 4, .cell 5 true 3, .tmp 6], f70c, 0, none⟩
def f70k : List (Nat × List Nat) := [(0, [0, 1, 5]), (1, [0, 1, 5, 9]), (3, [0, 1, 5, 14]), (5, [0, 1, 5, 24]), (6, [4, 5, 6]), (4, [4, 5, 6]), (2, [4, 5, 6]), (7, [1, 5, 7]), (8, [5, 7, 8]), (9, [5, 7, 8, 40]), (10, [4, 5, 6]), (11, [4, 5, 6])]
def f70v : List Nat := []
def f71r0 : List AOper := [⟨some 4, .alloc false [(.int .i64 0), (.int .i64 0), (.int .i64 0), (.str []), (.is [] .nil), (.bool false)], none, 0, 0⟩, ⟨some 5, .move (.c (.bool false)), none, 1, 0⟩]
def f71r1 : List AOper := [⟨some 6, .move (.t 0), none, 0, 0⟩, ⟨some 7, .move (.t 1), none, 0, 0⟩, ⟨some 8, .call (.c (.fn 91 [] [])) [(.t 6), (.t 7)], none, 0, 3⟩, ⟨some 9, .un .not (.t 8), none, 0, 7⟩]
def f71r2 : List AOper := [⟨some 10, .build [(.int .i64 0), (.int .i64 0), (.int .i64 0), (.str []), (.is [] .nil), (.bool false)] [], none, 0, 0⟩, ⟨none, .store 6 (.t 4) (.t 10), none, 0, 1⟩, ⟨some 5, .move (.c (.bool false)), none, 0, 3⟩]
def f71r3 : List AOper := [⟨some 11, .move (.t 0), none, 0, 0⟩, ⟨some 12, .nilCheck (.t 11), none, 0, 1⟩, ⟨some 13, .fieldAddr 0 (.t 12), none, 0, 3⟩, ⟨some 14, .load false 1 (.t 13), none, 0, 7⟩, ⟨some 15, .move (.t 1), none, 0, 0⟩, ⟨some 16, .idxAddr 6 (.t 14) (.t 15), none, 0, 31⟩, ⟨some 17, .load true 6 (.t 16), none, 0, 63⟩, ⟨some 18, .call (.c (.fn 84 [] [])) [(.t 17)], none, 0, 127⟩, ⟨none, .store 6 (.t 4) (.t 18), none, 0, 255⟩, ⟨some 5, .move (.c (.bool true)), none, 0, 511⟩]
def f71c : ACode :=
 .seq (.region false f71r0 [0, 1, 4] 1)
 (.seq (.seq (.region false f71r1 [0, 1, 4, 9] 0)
 (.cond (.t 9)
  (.seq (.region false f71r2 [4, 5] 0)
  (.ret))
  (.skip)))
 (.seq (.region false f71r3 [4, 5] 0)
 (.ret)))
def f71 : AFn := ⟨2, 19, [.cell 4 true 6, .tmp 5], f71c, 1, none⟩
def f71k : List (Nat × List Nat) := [(0, [0, 1, 4]), (1, [0, 1, 4, 9]), (2, [4, 5]), (3, [4, 5])]
def f71v : List Nat := []
def f72r0 : List AOper := [⟨some 4, .alloc false [(.int .i64 0), (.int .i64 0), (.is [] .nil)], none, 0, 0⟩]
def f72r1 : List AOper := [⟨some 13, .move (.t 0), none, 0, 0⟩, ⟨some 14, .nilCheck (.t 13), none, 0, 1⟩, ⟨some 15, .fieldAddr 1 (.t 14), none, 0, 3⟩, ⟨some 16, .load false 1 (.t 15), none, 0, 7⟩, ⟨some 17, .move (.t 1), none, 0, 0⟩, ⟨some 18, .lookup false [.int .i64] (.agg [(.int .i64 0), (.int .i64 0), (.is [] .nil)]) true (.t 16) (.t 17), none, 0, 31⟩, ⟨some 12, .move (.t 18), none, 0, 63⟩, ⟨some 19, .extract (.t 12) 0, none, 0, 127⟩, ⟨some 20, .extract (.t 12) 1, none, 0, 127⟩, ⟨some 5, .alloc false [(.int .i64 0), (.int .i64 0), (.is [] .nil)], none, 0, 0⟩, ⟨none, .store 3 (.t 5) (.t 19), none, 1, 767⟩, ⟨some 6, .move (.t 20), none, 1, 2047⟩]
def f72r2 : List AOper := [⟨some 21, .move (.t 6), none, 0, 0⟩]
def f72r3 : List AOper := [⟨some 22, .load true 3 (.t 5), none, 0, 0⟩, ⟨none, .store 3 (.t 4) (.t 22), none, 0, 1⟩]
def f72r4 : List AOper := [⟨some 24, .move (.t 0), none, 0, 0⟩, ⟨some 25, .nilCheck (.t 24), none, 0, 1⟩, ⟨some 26, .fieldAddr 0 (.t 25), none, 0, 3⟩, ⟨some 27, .load false 1 (.t 26), none, 0, 7⟩, ⟨some 28, .move (.t 1), none, 0, 0⟩, ⟨some 29, .call (.c (.fn 71 [] [])) [(.t 27), (.t 28)], none, 0, 31⟩, ⟨some 23, .move (.t 29), none, 0, 63⟩, ⟨some 30, .extract (.t 23) 0, none, 0, 127⟩, ⟨some 31, .extract (.t 23) 1, none, 0, 127⟩, ⟨some 7, .alloc false [(.int .i64 0), (.int .i64 0), (.int .i64 0), (.str []), (.is [] .nil), (.bool false)], none, 0, 0⟩, ⟨none, .store 6 (.t 7) (.t 30), none, 1, 767⟩, ⟨some 8, .move (.t 31), none, 1, 2047⟩]
def f72r5 : List AOper := [⟨some 9, .alloc false [(.int .i64 0), (.int .i64 0), (.is [] .nil)], none, 0, 0⟩]
def f72r6 : List AOper := [⟨some 32, .fieldAddr 0 (.t 7), none, 0, 0⟩, ⟨some 33, .load false 1 (.t 32), none, 0, 1⟩]
def f72r7 : List AOper := [⟨some 41, .bin .eql (.t 33) (.c (.int .i64 14)), none, 0, 0⟩, ⟨some 40, .move (.t 41), none, 0, 1⟩]
def f72r8 : List AOper := [⟨some 42, .move (.t 0), none, 0, 0⟩, ⟨some 43, .fieldAddr 1 (.t 7), none, 0, 0⟩, ⟨some 44, .load false 1 (.t 43), none, 0, 2⟩, ⟨some 45, .call (.c (.fn 72 [] [])) [(.t 42), (.t 44)], none, 0, 7⟩, ⟨some 10, .alloc false [(.int .i64 0), (.int .i64 0), (.is [] .nil)], none, 0, 0⟩, ⟨none, .store 3 (.t 10) (.t 45), none, 1, 31⟩]
def f72r9 : List AOper := [⟨some 46, .fieldAddr 2 (.t 7), none, 0, 0⟩, ⟨some 47, .load false 1 (.t 46), none, 0, 1⟩, ⟨some 48, .fieldAddr 0 (.t 10), none, 0, 0⟩, ⟨some 49, .load false 1 (.t 48), none, 0, 4⟩, ⟨some 50, .bin .mul (.t 47) (.t 49), none, 0, 15⟩, ⟨some 51, .fieldAddr 1 (.t 10), none, 0, 0⟩, ⟨some 52, .load false 1 (.t 51), none, 0, 32⟩, ⟨some 53, .build [(.int .i64 0), (.int .i64 0), (.is [] .nil)] [(0, 1, (.t 50)), (1, 1, (.t 52))], none, 0, 127⟩, ⟨none, .store 3 (.t 9) (.t 53), none, 0, 255⟩]
def f72r10 : List AOper := [⟨some 55, .bin .eql (.t 33) (.c (.int .i64 15)), none, 0, 0⟩, ⟨some 54, .move (.t 55), none, 0, 1⟩]
def f72r11 : List AOper := [⟨some 56, .move (.t 0), none, 0, 0⟩, ⟨some 57, .load true 6 (.t 7), none, 0, 0⟩, ⟨some 58, .call (.c (.fn 107 [] [])) [(.t 56), (.t 57)], none, 0, 3⟩, ⟨none, .store 3 (.t 9) (.t 58), none, 0, 7⟩]
def f72r12 : List AOper := [⟨some 60, .bin .eql (.t 33) (.c (.int .i64 16)), none, 0, 0⟩, ⟨some 59, .move (.t 60), none, 0, 1⟩]
def f72r13 : List AOper := [⟨some 61, .move (.t 0), none, 0, 0⟩, ⟨some 62, .load true 6 (.t 7), none, 0, 0⟩, ⟨some 63, .call (.c (.fn 108 [] [])) [(.t 61), (.t 62)], none, 0, 3⟩, ⟨none, .store 3 (.t 9) (.t 63), none, 0, 7⟩]
def f72r14 : List AOper := [⟨some 34, .fieldAddr 0 (.t 7), none, 0, 0⟩, ⟨some 35, .load false 1 (.t 34), none, 0, 1⟩, ⟨some 36, .call (.c (.fn 109 [] [])) [(.t 35)], none, 0, 3⟩, ⟨some 11, .move (.t 36), none, 0, 7⟩]
def f72r15 : List AOper := [⟨some 37, .move (.t 11), none, 0, 0⟩, ⟨some 38, .move (.t 11), none, 0, 0⟩, ⟨some 39, .build [(.int .i64 0), (.int .i64 0), (.is [] .nil)] [(0, 1, (.t 37)), (1, 1, (.t 38))], none, 0, 3⟩, ⟨none, .store 3 (.t 9) (.t 39), none, 0, 7⟩]
def f72r16 : List AOper := [⟨some 64, .fieldAddr 0 (.t 9), none, 0, 0⟩, ⟨some 65, .load false 1 (.t 64), none, 0, 1⟩, ⟨some 66, .bin .gtr (.t 65) (.c (.int .i64 16384)), none, 0, 3⟩]
def f72r17 : List AOper := [⟨some 67, .move (.t 0), none, 0, 0⟩, ⟨some 68, .nilCheck (.t 67), none, 0, 1⟩, ⟨some 69, .fieldAddr 2 (.t 68), none, 0, 3⟩, ⟨none, .store 1 (.t 69) (.c (.bool true)), none, 0, 7⟩]
def f72r18 : List AOper := [⟨some 70, .fieldAddr 0 (.t 9), none, 0, 0⟩, ⟨none, .store 1 (.t 70) (.c (.int .i64 16385)), none, 0, 1⟩]
def f72q19 : List AOper := [⟨some 71, .move (.t 0), none, 0, 0⟩, ⟨some 72, .nilCheck (.t 71), none, 0, 1⟩, ⟨some 73, .fieldAddr 1 (.t 72), none, 0, 3⟩, ⟨some 74, .load false 1 (.t 73), none, 0, 7⟩, ⟨some 75, .move (.t 1), none, 0, 0⟩, ⟨some 76, .load true 3 (.t 9), none, 0, 0⟩, ⟨none, .mapUpdate false [.int .i64] (.t 74) (.t 75) (.t 76), none, 0, 63⟩]
def f72r19 : List AOper := f72q19
def f72r20 : List AOper := [⟨some 77, .load true 3 (.t 9), none, 0, 0⟩, ⟨none, .store 3 (.t 4) (.t 77), none, 0, 1⟩]
theorem f72r19_s : staticOK 0 f72r19 = true := by rfl
theorem f72r19_w {A : Tab} {nt : Nat} {keep : List Nat} {n : Nat} {e : Env} {h : Heap} (hr : (bkeep keep (stepsF nt (stepF A true) h.length f72r19 e (h ++ List.replicate n .free))).isSome = true) : Brun A nt (.region true f72r19 keep n) e h = bkeep keep (stepsF nt (stepF A true) h.length f72r19 e (h ++ List.replicate n .free)) := Brun_drawnS f72r19_s hr
theorem f72r19_u (nt base : Nat) (step : Nat → AOp → Env → Heap → Option (AV × Heap)) (e : Env) (h : Heap) : stepsF nt step base f72r19 e h = stepsF nt step base f72q19 e h := rfl
def f72c : ACode :=
 .seq (.region false f72r0 [0, 1, 4] 1)
 (.seq (.seq (.region false f72r1 [0, 1, 4, 5, 6] 1)
 (.seq (.region false f72r2 [0, 1, 4, 5, 21] 0)
 (.cond (.t 21)
  (.seq (.region false f72r3 [4] 0)
  (.ret))
  (.skip))))
 (.seq (.region false f72r4 [0, 1, 4, 7] 1)
 (.seq (.region false f72r5 [0, 1, 4, 7, 9] 1)
 (.seq (.seq (.region false f72r6 [0, 1, 4, 7, 9, 33] 0)
 (.block 0 (.seq (.region false f72r7 [0, 1, 4, 7, 9, 33, 40] 0)
  (.cond (.t 40)
   (.seq (.region false f72r8 [0, 1, 4, 7, 9, 10] 1)
   (.region false f72r9 [0, 1, 4, 9] 0))
   (.seq (.region false f72r10 [0, 1, 4, 7, 9, 33, 54] 0)
   (.cond (.t 54)
    (.region false f72r11 [0, 1, 4, 9] 0)
    (.seq (.region false f72r12 [0, 1, 4, 7, 9, 59] 0)
    (.cond (.t 59)
     (.region false f72r13 [0, 1, 4, 9] 0)
     (.seq (.region false f72r14 [0, 1, 4, 9, 11] 0)
     (.region false f72r15 [0, 1, 4, 9] 0))))))))))
 (.seq (.seq (.region false f72r16 [0, 1, 4, 9, 66] 0)
 (.cond (.t 66)
  (.seq (.region false f72r17 [0, 1, 4, 9] 0)
  (.region false f72r18 [0, 1, 4, 9] 0))
  (.skip)))
 (.seq (.region true f72r19 [4, 9] 0)
 (.seq (.region false f72r20 [4] 0)
 (.ret))))))))
def f72 : AFn := ⟨2, 78, [.cell 4 true 3], f72c, 1, none⟩
def f72k : List (Nat × List Nat) := [(0, [0, 1, 4]), (1, [0, 1, 4, 5, 6]), (2, [0, 1, 4, 5, 21]), (3, [4]), (4, [0, 1, 4, 7]), (5, [0, 1, 4, 7, 9]), (6, [0, 1, 4, 7, 9, 33]), (9, [0, 1, 4, 7, 9, 33, 40]), (12, [0, 1, 4, 7, 9, 33, 54]), (14, [0, 1, 4, 7, 9, 59]), (7, [0, 1, 4, 9, 11]), (8, [0, 1, 4, 9]), (15, [0, 1, 4, 9]), (13, [0, 1, 4, 9]), (10, [0, 1, 4, 7, 9, 10]), (11, [0, 1, 4, 9]), (16, [0, 1, 4, 9, 66]), (17, [0, 1, 4, 9]), (18, [0, 1, 4, 9]), (19, [4, 9]), (20, [4])]
def f72v : List Nat := []
def f81r0 : List AOper := [⟨some 4, .move (.c (.bool false)), none, 0, 0⟩]
def f81r1 : List AOper := [⟨some 7, .move (.t 0), none, 0, 0⟩, ⟨some 8, .nilCheck (.t 7), none, 0, 1⟩, ⟨some 9, .fieldAddr 0 (.t 8), none, 0, 3⟩, ⟨some 10, .load false 1 (.t 9), none, 0, 7⟩, ⟨some 11, .move (.t 1), none, 0, 0⟩, ⟨some 12, .idxAddr 6 (.t 10) (.t 11), none, 0, 31⟩, ⟨some 13, .load true 6 (.t 12), none, 0, 63⟩, ⟨some 5, .alloc false [(.int .i64 0), (.int .i64 0), (.int .i64 0), (.str []), (.is [] .nil), (.bool false)], none, 0, 0⟩, ⟨none, .store 6 (.t 5) (.t 13), none, 1, 255⟩]
def f81r2 : List AOper := [⟨some 14, .move (.t 1), none, 0, 0⟩, ⟨some 15, .bin .lss (.t 14) (.c (.int .i64 11)), none, 0, 1⟩]
def f81r3 : List AOper := [⟨some 16, .load true 6 (.t 5), none, 0, 0⟩, ⟨some 17, .move (.t 1), none, 0, 0⟩, ⟨some 18, .bin .add (.t 17) (.c (.int .i64 1)), none, 0, 2⟩, ⟨some 19, .build [(.int .i64 0), (.int .i64 0), (.int .i64 0), (.str []), (.is [] .nil), (.bool false)] [(0, 1, (.t 18))], none, 0, 6⟩, ⟨some 20, .call (.c (.fn 103 [] [])) [(.t 16), (.t 19)], none, 0, 15⟩, ⟨some 4, .move (.t 20), none, 0, 31⟩]
def f81r4 : List AOper := [⟨some 21, .fieldAddr 4 (.t 5), none, 0, 0⟩, ⟨some 22, .load false 1 (.t 21), none, 0, 1⟩, ⟨some 23, .len 1 (.t 22), none, 0, 3⟩, ⟨some 24, .bin .eql (.t 23) (.c (.int .i64 0)), none, 0, 7⟩, ⟨some 25, .move (.t 24), none, 0, 15⟩, ⟨some 26, .fieldAddr 5 (.t 5), (some (25, true)), 0, 31⟩, ⟨some 27, .load false 1 (.t 26), (some (25, true)), 0, 63⟩, ⟨some 28, .un .not (.t 27), (some (25, true)), 0, 127⟩, ⟨some 29, .pick (.t 25) (.t 28) (.c (.bool false)), none, 0, 255⟩, ⟨some 6, .move (.t 29), none, 0, 511⟩]
def f81r5 : List AOper := [⟨some 30, .fieldAddr 0 (.t 5), none, 0, 0⟩, ⟨some 31, .load false 1 (.t 30), none, 0, 1⟩]
def f81r6 : List AOper := [⟨some 33, .bin .eql (.t 31) (.c (.int .i64 12)), none, 0, 0⟩, ⟨some 32, .move (.t 33), none, 0, 1⟩]
def f81r7 : List AOper := [⟨some 34, .fieldAddr 1 (.t 5), none, 0, 0⟩, ⟨some 35, .load false 1 (.t 34), none, 0, 1⟩, ⟨some 36, .bin .eql (.t 35) (.c (.int .i64 0)), none, 0, 3⟩, ⟨some 37, .move (.t 36), none, 0, 7⟩, ⟨some 38, .fieldAddr 2 (.t 5), (some (37, true)), 0, 15⟩, ⟨some 39, .load false 1 (.t 38), (some (37, true)), 0, 31⟩, ⟨some 40, .bin .eql (.t 39) (.c (.int .i64 0)), (some (37, true)), 0, 63⟩, ⟨some 41, .pick (.t 37) (.t 40) (.c (.bool false)), none, 0, 127⟩, ⟨some 42, .move (.t 41), none, 0, 255⟩, ⟨some 43, .fieldAddr 3 (.t 5), (some (42, true)), 0, 511⟩, ⟨some 44, .load false 1 (.t 43), (some (42, true)), 0, 1023⟩, ⟨some 45, .call (.c (.fn 114 [] [])) [(.t 44)], (some (42, true)), 0, 2047⟩, ⟨some 46, .pick (.t 42) (.t 45) (.c (.bool false)), none, 0, 4095⟩, ⟨some 47, .move (.t 46), none, 0, 8191⟩, ⟨some 48, .move (.t 6), (some (47, true)), 0, 16383⟩, ⟨some 49, .pick (.t 47) (.t 48) (.c (.bool false)), none, 0, 32767⟩, ⟨some 4, .move (.t 49), none, 0, 65535⟩]
def f81r8 : List AOper := [⟨some 51, .bin .eql (.t 31) (.c (.int .i64 15)), none, 0, 0⟩, ⟨some 50, .move (.t 51), none, 0, 1⟩]
def f81r9 : List AOper := [⟨some 52, .bin .eql (.t 31) (.c (.int .i64 16)), none, 0, 0⟩, ⟨some 50, .move (.t 52), none, 0, 1⟩]
def f81r10 : List AOper := [⟨some 53, .fieldAddr 1 (.t 5), none, 0, 0⟩, ⟨some 54, .load false 1 (.t 53), none, 0, 1⟩, ⟨some 55, .bin .eql (.t 54) (.c (.int .i64 0)), none, 0, 3⟩, ⟨some 56, .move (.t 55), none, 0, 7⟩, ⟨some 57, .fieldAddr 2 (.t 5), (some (56, true)), 0, 15⟩, ⟨some 58, .load false 1 (.t 57), (some (56, true)), 0, 31⟩, ⟨some 59, .bin .eql (.t 58) (.c (.int .i64 0)), (some (56, true)), 0, 63⟩, ⟨some 60, .pick (.t 56) (.t 59) (.c (.bool false)), none, 0, 127⟩, ⟨some 61, .move (.t 60), none, 0, 255⟩, ⟨some 62, .fieldAddr 3 (.t 5), (some (61, true)), 0, 511⟩, ⟨some 63, .load false 1 (.t 62), (some (61, true)), 0, 1023⟩, ⟨some 64, .call (.c (.fn 114 [] [])) [(.t 63)], (some (61, true)), 0, 2047⟩, ⟨some 65, .pick (.t 61) (.t 64) (.c (.bool false)), none, 0, 4095⟩, ⟨some 66, .move (.t 65), none, 0, 8191⟩, ⟨some 67, .move (.t 6), (some (66, true)), 0, 16383⟩, ⟨some 68, .move (.t 67), (some (66, true)), 0, 32767⟩, ⟨some 69, .fieldAddr 5 (.t 5), (some (68, false)), 0, 65535⟩, ⟨some 70, .load false 1 (.t 69), (some (68, false)), 0, 131071⟩, ⟨some 71, .move (.t 70), (some (68, false)), 0, 262143⟩, ⟨some 72, .move (.t 0), (some (71, true)), 0, 524287⟩, ⟨some 73, .fieldAddr 4 (.t 5), (some (71, true)), 0, 524287⟩, ⟨some 74, .load false 1 (.t 73), (some (71, true)), 0, 1572863⟩, ⟨some 75, .call (.c (.fn 115 [] [])) [(.t 72), (.t 74)], (some (71, true)), 0, 4194303⟩, ⟨some 76, .bin .eql (.t 75) (.c (.int .i64 0)), (some (71, true)), 0, 8388607⟩, ⟨some 77, .pick (.t 71) (.t 76) (.c (.bool false)), (some (68, false)), 0, 16777215⟩, ⟨some 78, .pick (.t 68) (.c (.bool true)) (.t 77), (some (66, true)), 0, 33554431⟩, ⟨some 79, .pick (.t 66) (.t 78) (.c (.bool false)), none, 0, 67108863⟩, ⟨some 4, .move (.t 79), none, 0, 134217727⟩]
def f81r11 : List AOper := [⟨some 81, .bin .eql (.t 31) (.c (.int .i64 13)), none, 0, 0⟩, ⟨some 80, .move (.t 81), none, 0, 1⟩]
def f81r12 : List AOper := [⟨some 82, .fieldAddr 1 (.t 5), none, 0, 0⟩, ⟨some 83, .load false 1 (.t 82), none, 0, 1⟩, ⟨some 84, .bin .geq (.t 83) (.c (.int .i64 0)), none, 0, 3⟩, ⟨some 85, .move (.t 84), none, 0, 7⟩, ⟨some 86, .fieldAddr 1 (.t 5), (some (85, true)), 0, 15⟩, ⟨some 87, .load false 1 (.t 86), (some (85, true)), 0, 31⟩, ⟨some 88, .move (.t 1), (some (85, true)), 0, 15⟩, ⟨some 89, .bin .lss (.t 87) (.t 88), (some (85, true)), 0, 127⟩, ⟨some 90, .pick (.t 85) (.t 89) (.c (.bool false)), none, 0, 255⟩, ⟨some 91, .move (.t 90), none, 0, 511⟩, ⟨some 92, .fieldAddr 2 (.t 5), (some (91, true)), 0, 1023⟩, ⟨some 93, .load false 1 (.t 92), (some (91, true)), 0, 2047⟩, ⟨some 94, .bin .eql (.t 93) (.c (.int .i64 0)), (some (91, true)), 0, 4095⟩, ⟨some 95, .pick (.t 91) (.t 94) (.c (.bool false)), none, 0, 8191⟩, ⟨some 96, .move (.t 95), none, 0, 16383⟩, ⟨some 97, .fieldAddr 3 (.t 5), (some (96, true)), 0, 32767⟩, ⟨some 98, .load false 1 (.t 97), (some (96, true)), 0, 65535⟩, ⟨some 99, .bin .eql (.t 98) (.c (.str [])), (some (96, true)), 0, 131071⟩, ⟨some 100, .pick (.t 96) (.t 99) (.c (.bool false)), none, 0, 262143⟩, ⟨some 101, .move (.t 100), none, 0, 524287⟩, ⟨some 102, .move (.t 6), (some (101, true)), 0, 1048575⟩, ⟨some 103, .pick (.t 101) (.t 102) (.c (.bool false)), none, 0, 2097151⟩, ⟨some 4, .move (.t 103), none, 0, 4194303⟩]
def f81r13 : List AOper := [⟨some 105, .bin .eql (.t 31) (.c (.int .i64 14)), none, 0, 0⟩, ⟨some 104, .move (.t 105), none, 0, 1⟩]
def f81r14 : List AOper := [⟨some 106, .fieldAddr 1 (.t 5), none, 0, 0⟩, ⟨some 107, .load false 1 (.t 106), none, 0, 1⟩, ⟨some 108, .bin .geq (.t 107) (.c (.int .i64 0)), none, 0, 3⟩, ⟨some 109, .move (.t 108), none, 0, 7⟩, ⟨some 110, .fieldAddr 1 (.t 5), (some (109, true)), 0, 15⟩, ⟨some 111, .load false 1 (.t 110), (some (109, true)), 0, 31⟩, ⟨some 112, .move (.t 1), (some (109, true)), 0, 15⟩, ⟨some 113, .bin .lss (.t 111) (.t 112), (some (109, true)), 0, 127⟩, ⟨some 114, .pick (.t 109) (.t 113) (.c (.bool false)), none, 0, 255⟩, ⟨some 115, .move (.t 114), none, 0, 511⟩, ⟨some 116, .fieldAddr 2 (.t 5), (some (115, true)), 0, 1023⟩, ⟨some 117, .load false 1 (.t 116), (some (115, true)), 0, 2047⟩, ⟨some 118, .call (.c (.fn 116 [] [])) [(.t 117)], (some (115, true)), 0, 4095⟩, ⟨some 119, .pick (.t 115) (.t 118) (.c (.bool false)), none, 0, 8191⟩, ⟨some 120, .move (.t 119), none, 0, 16383⟩, ⟨some 121, .fieldAddr 3 (.t 5), (some (120, true)), 0, 32767⟩, ⟨some 122, .load false 1 (.t 121), (some (120, true)), 0, 65535⟩, ⟨some 123, .bin .eql (.t 122) (.c (.str [])), (some (120, true)), 0, 131071⟩, ⟨some 124, .pick (.t 120) (.t 123) (.c (.bool false)), none, 0, 262143⟩, ⟨some 125, .move (.t 124), none, 0, 524287⟩, ⟨some 126, .move (.t 6), (some (125, true)), 0, 1048575⟩, ⟨some 127, .pick (.t 125) (.t 126) (.c (.bool false)), none, 0, 2097151⟩, ⟨some 128, .move (.t 127), none, 0, 4194303⟩, ⟨some 129, .move (.t 0), (some (128, true)), 0, 8388607⟩, ⟨some 130, .fieldAddr 1 (.t 5), (some (128, true)), 0, 8388607⟩, ⟨some 131, .load false 1 (.t 130), (some (128, true)), 0, 25165823⟩, ⟨some 132, .call (.c (.fn 110 [] [])) [(.t 129), (.t 131)], (some (128, true)), 0, 67108863⟩, ⟨some 133, .pick (.t 128) (.t 132) (.c (.bool false)), none, 0, 134217727⟩, ⟨some 4, .move (.t 133), none, 0, 268435455⟩]
def f81r15 : List AOper := [⟨some 4, .move (.c (.bool false)), none, 0, 0⟩]
def f81c : ACode :=
 .seq (.region false f81r0 [0, 1] 0)
 (.seq (.region false f81r1 [0, 1, 5] 1)
 (.seq (.seq (.region false f81r2 [0, 1, 5, 15] 0)
 (.cond (.t 15)
  (.seq (.region false f81r3 [4] 0)
  (.ret))
  (.skip)))
 (.seq (.region false f81r4 [0, 1, 5, 6] 0)
 (.seq (.seq (.region false f81r5 [0, 1, 5, 6, 31] 0)
 (.block 0 (.seq (.region false f81r6 [0, 1, 5, 6, 31, 32] 0)
  (.cond (.t 32)
   (.seq (.region false f81r7 [4] 0)
   (.ret))
   (.seq (.seq (.region false f81r8 [0, 1, 5, 6, 31, 50] 0)
   (.cond (.t 50)
    (.skip)
    (.region false f81r9 [0, 1, 5, 6, 31, 50] 0)))
   (.cond (.t 50)
    (.seq (.region false f81r10 [4] 0)
    (.ret))
    (.seq (.region false f81r11 [0, 1, 5, 6, 31, 80] 0)
    (.cond (.t 80)
     (.seq (.region false f81r12 [4] 0)
     (.ret))
     (.seq (.region false f81r13 [0, 1, 5, 6, 104] 0)
     (.cond (.t 104)
      (.seq (.region false f81r14 [4] 0)
      (.ret))
      (.skip)))))))))))
 (.seq (.region false f81r15 [4] 0)
 (.ret))))))
def f81 : AFn := ⟨2, 134, [.tmp 4], f81c, 1, none⟩
def f81k : List (Nat × List Nat) := [(0, [0, 1]), (1, [0, 1, 5]), (2, [0, 1, 5, 15]), (3, [4]), (4, [0, 1, 5, 6]), (5, [0, 1, 5, 6, 31]), (6, [0, 1, 5, 6, 31, 32]), (8, [0, 1, 5, 6, 31, 50]), (9, [0, 1, 5, 6, 31, 50]), (11, [0, 1, 5, 6, 31, 80]), (13, [0, 1, 5, 6, 104]), (14, [4]), (12, [4]), (10, [4]), (7, [4]), (15, [4])]
def f81v : List Nat := []
def f82r0 : List AOper := [⟨some 4, .move (.c (.bool false)), none, 0, 0⟩]
def f82r1 : List AOper := [⟨some 7, .move (.t 0), none, 0, 0⟩, ⟨some 8, .nilCheck (.t 7), none, 0, 1⟩, ⟨some 9, .fieldAddr 0 (.t 8), none, 0, 3⟩, ⟨some 10, .load false 1 (.t 9), none, 0, 7⟩, ⟨some 11, .move (.t 1), none, 0, 0⟩, ⟨some 12, .idxAddr 6 (.t 10) (.t 11), none, 0, 31⟩, ⟨some 13, .load true 6 (.t 12), none, 0, 63⟩, ⟨some 5, .alloc false [(.int .i64 0), (.int .i64 0), (.int .i64 0), (.str []), (.is [] .nil), (.bool false)], none, 0, 0⟩, ⟨none, .store 6 (.t 5) (.t 13), none, 1, 255⟩]
def f82r2 : List AOper := [⟨some 14, .fieldAddr 0 (.t 5), none, 0, 0⟩, ⟨some 15, .load false 1 (.t 14), none, 0, 1⟩, ⟨some 16, .bin .neq (.t 15) (.c (.int .i64 13)), none, 0, 3⟩, ⟨some 17, .move (.t 16), none, 0, 7⟩, ⟨some 18, .fieldAddr 0 (.t 5), (some (17, true)), 0, 15⟩, ⟨some 19, .load false 1 (.t 18), (some (17, true)), 0, 31⟩, ⟨some 20, .bin .neq (.t 19) (.c (.int .i64 14)), (some (17, true)), 0, 63⟩, ⟨some 21, .pick (.t 17) (.t 20) (.c (.bool false)), none, 0, 127⟩]
def f82r3 : List AOper := [⟨some 4, .move (.c (.bool false)), none, 0, 0⟩]
def f82r4 : List AOper := [⟨some 6, .move (.c (.int .i64 0)), none, 0, 0⟩]
def f82r5 : List AOper := [⟨some 22, .move (.t 6), none, 0, 0⟩, ⟨some 23, .move (.t 1), none, 0, 0⟩, ⟨some 24, .bin .lss (.t 22) (.t 23), none, 0, 3⟩]
def f82q6 : List AOper := [⟨some 27, .move (.t 0), none, 0, 0⟩, ⟨some 28, .nilCheck (.t 27), none, 0, 1⟩, ⟨some 29, .fieldAddr 0 (.t 28), none, 0, 3⟩, ⟨some 30, .load false 1 (.t 29), none, 0, 7⟩, ⟨some 31, .move (.t 6), none, 0, 0⟩, ⟨some 32, .idxAddr 6 (.t 30) (.t 31), none, 0, 31⟩, ⟨some 33, .fieldAddr 0 (.t 32), none, 0, 63⟩, ⟨some 34, .load false 1 (.t 33), none, 0, 127⟩, ⟨some 35, .fieldAddr 0 (.t 5), none, 0, 0⟩, ⟨some 36, .load false 1 (.t 35), none, 0, 256⟩, ⟨some 37, .bin .eql (.t 34) (.t 36), none, 0, 1023⟩, ⟨some 38, .move (.t 37), none, 0, 2047⟩, ⟨some 39, .move (.t 0), (some (38, true)), 0, 4095⟩, ⟨some 40, .nilCheck (.t 39), (some (38, true)), 0, 8191⟩, ⟨some 41, .fieldAddr 0 (.t 40), (some (38, true)), 0, 16383⟩, ⟨some 42, .load false 1 (.t 41), (some (38, true)), 0, 32767⟩, ⟨some 43, .move (.t 6), (some (38, true)), 0, 4095⟩, ⟨some 44, .idxAddr 6 (.t 42) (.t 43), (some (38, true)), 0, 131071⟩, ⟨some 45, .fieldAddr 1 (.t 44), (some (38, true)), 0, 262143⟩, ⟨some 46, .load false 1 (.t 45), (some (38, true)), 0, 524287⟩, ⟨some 47, .fieldAddr 1 (.t 5), (some (38, true)), 0, 4095⟩, ⟨some 48, .load false 1 (.t 47), (some (38, true)), 0, 1052671⟩, ⟨some 49, .bin .eql (.t 46) (.t 48), (some (38, true)), 0, 4194303⟩, ⟨some 50, .pick (.t 38) (.t 49) (.c (.bool false)), none, 0, 8388607⟩, ⟨some 51, .move (.t 50), none, 0, 16777215⟩, ⟨some 52, .move (.t 0), (some (51, true)), 0, 33554431⟩, ⟨some 53, .nilCheck (.t 52), (some (51, true)), 0, 67108863⟩, ⟨some 54, .fieldAddr 0 (.t 53), (some (51, true)), 0, 134217727⟩, ⟨some 55, .load false 1 (.t 54), (some (51, true)), 0, 268435455⟩, ⟨some 56, .move (.t 6), (some (51, true)), 0, 33554431⟩, ⟨some 57, .idxAddr 6 (.t 55) (.t 56), (some (51, true)), 0, 1073741823⟩, ⟨some 58, .fieldAddr 2 (.t 57), (some (51, true)), 0, 2147483647⟩, ⟨some 59, .load false 1 (.t 58), (some (51, true)), 0, 4294967295⟩, ⟨some 60, .fieldAddr 2 (.t 5), (some (51, true)), 0, 33554431⟩, ⟨some 61, .load false 1 (.t 60), (some (51, true)), 0, 8623489023⟩, ⟨some 62, .bin .eql (.t 59) (.t 61), (some (51, true)), 0, 34359738367⟩, ⟨some 63, .pick (.t 51) (.t 62) (.c (.bool false)), none, 0, 68719476735⟩]
def f82r6 : List AOper := f82q6
def f82r7 : List AOper := [⟨some 4, .move (.c (.bool true)), none, 0, 0⟩]
def f82r8 : List AOper := [⟨some 25, .move (.t 6), none, 0, 0⟩, ⟨some 26, .bin .add (.t 25) (.c (.int .i64 1)), none, 0, 1⟩, ⟨some 6, .move (.t 26), none, 0, 3⟩]
def f82m5 : ACode :=
 .seq (.seq (.region false f82r5 [0, 1, 5, 6, 24] 0)
 (.cond (.t 24)
  (.skip)
  (.exit 0)))
 (.seq (.block 1 (.seq (.region true f82r6 [0, 1, 5, 6, 63] 0)
  (.cond (.t 63)
   (.seq (.region false f82r7 [4] 0)
   (.ret))
   (.skip))))
 (.region false f82r8 [0, 1, 5, 6] 0))
def f82l5 : ACode := f82m5
theorem f82l5_b {A : Tab} {nt : Nat} {e : Env} {h : Heap} : Brun A nt f82l5 e h = Brun A nt f82m5 e h := rfl
def f82r9 : List AOper := [⟨some 4, .move (.c (.bool false)), none, 0, 0⟩]
theorem f82r6_s : staticOK 0 f82r6 = true := by rfl
theorem f82r6_w {A : Tab} {nt : Nat} {keep : List Nat} {n : Nat} {e : Env} {h : Heap} (hr : (bkeep keep (stepsF nt (stepF A true) h.length f82r6 e (h ++ List.replicate n .free))).isSome = true) : Brun A nt (.region true f82r6 keep n) e h = bkeep keep (stepsF nt (stepF A true) h.length f82r6 e (h ++ List.replicate n .free)) := Brun_drawnS f82r6_s hr
theorem f82r6_u (nt base : Nat) (step : Nat → AOp → Env → Heap → Option (AV × Heap)) (e : Env) (h : Heap) : stepsF nt step base f82r6 e h = stepsF nt step base f82q6 e h := rfl
def f82c : ACode :=
 .seq (.region false f82r0 [0, 1] 0)
 (.seq (.region false f82r1 [0, 1, 5] 1)
 (.seq (.seq (.region false f82r2 [0, 1, 5, 21] 0)
 (.cond (.t 21)
  (.seq (.region false f82r3 [4] 0)
  (.ret))
  (.skip)))
 (.seq (.seq (.region false f82r4 [0, 1, 5, 6] 0)
 (.block 0 (.loop f82l5)))
 (.seq (.region false f82r9 [4] 0)
 (.ret)))))
def f82 : AFn := ⟨2, 64, [.tmp 4], f82c, 1, none⟩
def f82k : List (Nat × List Nat) := [(0, [0, 1]), (1, [0, 1, 5]), (2, [0, 1, 5, 21]), (3, [4]), (4, [0, 1, 5, 6]), (5, [0, 1, 5, 6, 24]), (7, [0, 1, 5, 6, 63]), (8, [4]), (6, [0, 1, 5, 6]), (9, [4])]
def f82v : List Nat := []
def f83r0 : List AOper := [⟨some 2, .move (.c (.is [] .nil)), none, 0, 0⟩]
def f83r1 : List AOper := [⟨some 9, .move (.t 0), none, 0, 0⟩, ⟨some 10, .nilCheck (.t 9), none, 0, 1⟩, ⟨some 11, .fieldAddr 0 (.t 10), none, 0, 3⟩, ⟨some 12, .load false 1 (.t 11), none, 0, 7⟩, ⟨some 13, .len 1 (.t 12), none, 0, 15⟩, ⟨some 14, .mkSlice false 1 1 [(.bool false)] (.t 13) (.t 13), none, 0, 31⟩, ⟨some 3, .move (.t 14), none, 1, 63⟩]
def f83r2 : List AOper := [⟨some 4, .move (.c (.bool true)), none, 0, 0⟩]
def f83r3 : List AOper := [⟨some 15, .move (.t 4), none, 0, 0⟩]
def f83r4 : List AOper := [⟨some 4, .move (.c (.bool false)), none, 0, 0⟩]
def f83r5 : List AOper := [⟨some 5, .move (.c (.int .i64 0)), none, 0, 0⟩]
def f83r6 : List AOper := [⟨some 16, .move (.t 5), none, 0, 0⟩, ⟨some 17, .move (.t 0), none, 0, 0⟩, ⟨some 18, .nilCheck (.t 17), none, 0, 2⟩, ⟨some 19, .fieldAddr 0 (.t 18), none, 0, 6⟩, ⟨some 20, .load false 1 (.t 19), none, 0, 14⟩, ⟨some 21, .len 1 (.t 20), none, 0, 30⟩, ⟨some 22, .bin .lss (.t 16) (.t 21), none, 0, 63⟩]
def f83r7 : List AOper := [⟨some 6, .move (.c (.bool true)), none, 0, 0⟩]
def f83r8 : List AOper := [⟨some 25, .move (.t 0), none, 0, 0⟩, ⟨some 26, .nilCheck (.t 25), none, 0, 1⟩, ⟨some 27, .fieldAddr 0 (.t 26), none, 0, 3⟩, ⟨some 28, .load false 1 (.t 27), none, 0, 7⟩, ⟨some 29, .move (.t 5), none, 0, 0⟩, ⟨some 30, .idxAddr 6 (.t 28) (.t 29), none, 0, 31⟩, ⟨some 31, .load true 6 (.t 30), none, 0, 63⟩, ⟨some 7, .alloc false [(.int .i64 0), (.int .i64 0), (.int .i64 0), (.str []), (.is [] .nil), (.bool false)], none, 0, 0⟩, ⟨none, .store 6 (.t 7) (.t 31), none, 1, 255⟩]
def f83r9 : List AOper := [⟨some 32, .fieldAddr 0 (.t 7), none, 0, 0⟩, ⟨some 33, .load false 1 (.t 32), none, 0, 1⟩, ⟨some 34, .bin .eql (.t 33) (.c (.int .i64 14)), none, 0, 3⟩]
def f83r10 : List AOper := [⟨some 35, .move (.t 3), none, 0, 0⟩, ⟨some 36, .fieldAddr 1 (.t 7), none, 0, 0⟩, ⟨some 37, .load false 1 (.t 36), none, 0, 2⟩, ⟨some 38, .idxAddr 1 (.t 35) (.t 37), none, 0, 7⟩, ⟨some 39, .load false 1 (.t 38), none, 0, 15⟩, ⟨some 6, .move (.t 39), none, 0, 31⟩]
def f83r11 : List AOper := [⟨some 8, .move (.c (.int .i64 0)), none, 0, 0⟩]
def f83r12 : List AOper := [⟨some 40, .move (.t 8), none, 0, 0⟩, ⟨some 41, .fieldAddr 4 (.t 7), none, 0, 0⟩, ⟨some 42, .load false 1 (.t 41), none, 0, 2⟩, ⟨some 43, .len 1 (.t 42), none, 0, 6⟩, ⟨some 44, .bin .lss (.t 40) (.t 43), none, 0, 15⟩]
def f83r13 : List AOper := [⟨some 47, .move (.t 6), none, 0, 0⟩, ⟨some 48, .move (.t 47), none, 0, 1⟩, ⟨some 49, .move (.t 3), (some (48, true)), 0, 3⟩, ⟨some 50, .fieldAddr 4 (.t 7), (some (48, true)), 0, 3⟩, ⟨some 51, .load false 1 (.t 50), (some (48, true)), 0, 11⟩, ⟨some 52, .move (.t 8), (some (48, true)), 0, 3⟩, ⟨some 53, .idxAddr 3 (.t 51) (.t 52), (some (48, true)), 0, 59⟩, ⟨some 54, .fieldAddr 1 (.t 53), (some (48, true)), 0, 123⟩, ⟨some 55, .load false 1 (.t 54), (some (48, true)), 0, 251⟩, ⟨some 56, .idxAddr 1 (.t 49) (.t 55), (some (48, true)), 0, 511⟩, ⟨some 57, .load false 1 (.t 56), (some (48, true)), 0, 1023⟩, ⟨some 58, .pick (.t 48) (.t 57) (.c (.bool false)), none, 0, 2047⟩, ⟨some 6, .move (.t 58), none, 0, 4095⟩]
def f83r14 : List AOper := [⟨some 45, .move (.t 8), none, 0, 0⟩, ⟨some 46, .bin .add (.t 45) (.c (.int .i64 1)), none, 0, 1⟩, ⟨some 8, .move (.t 46), none, 0, 3⟩]
def f83m12 : ACode :=
 .seq (.seq (.region false f83r12 [0, 3, 4, 5, 6, 7, 8, 44] 0)
 (.cond (.t 44)
  (.skip)
  (.exit 4)))
 (.seq (.block 5 (.region false f83r13 [0, 3, 4, 5, 6, 7, 8] 0))
 (.region false f83r14 [0, 3, 4, 5, 6, 7, 8] 0))
def f83l12 : ACode := f83m12
theorem f83l12_b {A : Tab} {nt : Nat} {e : Env} {h : Heap} : Brun A nt f83l12 e h = Brun A nt f83m12 e h := rfl
def f83r15 : List AOper := [⟨some 59, .move (.t 6), none, 0, 0⟩, ⟨some 60, .move (.t 59), none, 0, 1⟩, ⟨some 61, .move (.t 3), (some (60, true)), 0, 3⟩, ⟨some 62, .move (.t 5), (some (60, true)), 0, 3⟩, ⟨some 63, .idxAddr 1 (.t 61) (.t 62), (some (60, true)), 0, 15⟩, ⟨some 64, .load false 1 (.t 63), (some (60, true)), 0, 31⟩, ⟨some 65, .un .not (.t 64), (some (60, true)), 0, 63⟩, ⟨some 66, .pick (.t 60) (.t 65) (.c (.bool false)), none, 0, 127⟩]
def f83r16 : List AOper := [⟨some 67, .move (.t 3), none, 0, 0⟩, ⟨some 68, .move (.t 5), none, 0, 0⟩, ⟨some 69, .idxAddr 1 (.t 67) (.t 68), none, 0, 3⟩, ⟨none, .store 1 (.t 69) (.c (.bool true)), none, 0, 7⟩]
def f83r17 : List AOper := [⟨some 4, .move (.c (.bool true)), none, 0, 0⟩]
def f83r18 : List AOper := [⟨some 23, .move (.t 5), none, 0, 0⟩, ⟨some 24, .bin .add (.t 23) (.c (.int .i64 1)), none, 0, 1⟩, ⟨some 5, .move (.t 24), none, 0, 3⟩]
def f83m6 : ACode :=
 .seq (.seq (.region false f83r6 [0, 3, 4, 5, 22] 0)
 (.cond (.t 22)
  (.skip)
  (.exit 2)))
 (.seq (.block 3 (.seq (.region false f83r7 [0, 3, 4, 5, 6] 0)
  (.seq (.region false f83r8 [0, 3, 4, 5, 6, 7] 1)
  (.seq (.seq (.region false f83r9 [0, 3, 4, 5, 6, 7, 34] 0)
  (.cond (.t 34)
   (.region false f83r10 [0, 3, 4, 5, 6, 7] 0)
   (.skip)))
  (.seq (.seq (.region false f83r11 [0, 3, 4, 5, 6, 7, 8] 0)
  (.block 4 (.loop f83l12)))
  (.seq (.region false f83r15 [0, 3, 4, 5, 66] 0)
  (.cond (.t 66)
   (.seq (.region false f83r16 [0, 3, 5] 0)
   (.region false f83r17 [0, 3, 4, 5] 0))
   (.skip))))))))
 (.region false f83r18 [0, 3, 4, 5] 0))
def f83l6 : ACode := f83m6
theorem f83l6_b {A : Tab} {nt : Nat} {e : Env} {h : Heap} : Brun A nt f83l6 e h = Brun A nt f83m6 e h := rfl
def f83m3 : ACode :=
 .seq (.seq (.region false f83r3 [0, 3, 15] 0)
 (.cond (.t 15)
  (.skip)
  (.exit 0)))
 (.block 1 (.seq (.region false f83r4 [0, 3, 4] 0)
  (.seq (.region false f83r5 [0, 3, 4, 5] 0)
  (.block 2 (.loop f83l6)))))
def f83l3 : ACode := f83m3
theorem f83l3_b {A : Tab} {nt : Nat} {e : Env} {h : Heap} : Brun A nt f83l3 e h = Brun A nt f83m3 e h := rfl
def f83r19 : List AOper := [⟨some 70, .move (.t 3), none, 0, 0⟩, ⟨some 2, .move (.t 70), none, 0, 1⟩]
def f83c : ACode :=
 .seq (.region false f83r0 [0] 0)
 (.seq (.region false f83r1 [0, 3] 1)
 (.seq (.region false f83r2 [0, 3, 4] 0)
 (.seq (.block 0 (.loop f83l3))
 (.seq (.region false f83r19 [2] 0)
 (.ret)))))
def f83 : AFn := ⟨1, 71, [.tmp 2], f83c, 1, none⟩
def f83k : List (Nat × List Nat) := [(0, [0]), (1, [0, 3]), (2, [0, 3, 4]), (3, [0, 3, 15]), (4, [0, 3, 4]), (5, [0, 3, 4, 5]), (6, [0, 3, 4, 5, 22]), (8, [0, 3, 4, 5, 6]), (9, [0, 3, 4, 5, 6, 7]), (10, [0, 3, 4, 5, 6, 7, 34]), (11, [0, 3, 4, 5, 6, 7]), (12, [0, 3, 4, 5, 6, 7, 8]), (13, [0, 3, 4, 5, 6, 7, 8, 44]), (15, [0, 3, 4, 5, 6, 7, 8]), (14, [0, 3, 4, 5, 6, 7, 8]), (16, [0, 3, 4, 5, 66]), (17, [0, 3, 5]), (18, [0, 3, 4, 5]), (7, [0, 3, 4, 5]), (19, [2])]
def f83v : List Nat := []
def f84r0 : List AOper := [⟨some 1, .box false (.t 0), none, 0, 0⟩, ⟨some 2, .alloc false [(.int .i64 0), (.int .i64 0), (.int .i64 0), (.str []), (.is [] .nil), (.bool false)], none, 1, 0⟩]
def f84r1 : List AOper := [⟨some 3, .fieldAddr 4 (.t 1), none, 0, 0⟩, ⟨some 4, .load false 1 (.t 3), none, 0, 1⟩, ⟨some 5, .call (.c (.fn 106 [] [])) [(.t 4)], none, 0, 3⟩, ⟨some 6, .fieldAddr 4 (.t 1), none, 0, 7⟩, ⟨none, .store 1 (.t 6) (.t 5), none, 0, 15⟩]
def f84r2 : List AOper := [⟨some 7, .load true 6 (.t 1), none, 0, 0⟩, ⟨none, .store 6 (.t 2) (.t 7), none, 0, 1⟩]
def f84c : ACode :=
 .seq (.region false f84r0 [1, 2] 2)
 (.seq (.region false f84r1 [1, 2] 0)
 (.seq (.region false f84r2 [2] 0)
 (.ret)))
def f84 : AFn := ⟨1, 8, [.cell 2 true 6], f84c, 1, none⟩
def f84k : List (Nat × List Nat) := [(0, [1, 2]), (1, [1, 2]), (2, [2])]
def f84v : List Nat := []
def f85r0 : List AOper := [⟨some 4, .move (.c (.bool false)), none, 0, 0⟩]
def f85r1 : List AOper := [⟨some 9, .move (.t 0), none, 0, 0⟩, ⟨some 10, .nilCheck (.t 9), none, 0, 1⟩, ⟨some 11, .fieldAddr 0 (.t 10), none, 0, 3⟩, ⟨some 12, .load false 1 (.t 11), none, 0, 7⟩, ⟨some 13, .move (.t 1), none, 0, 0⟩, ⟨some 14, .idxAddr 6 (.t 12) (.t 13), none, 0, 31⟩, ⟨some 15, .load true 6 (.t 14), none, 0, 63⟩, ⟨some 5, .alloc false [(.int .i64 0), (.int .i64 0), (.int .i64 0), (.str []), (.is [] .nil), (.bool false)], none, 0, 0⟩, ⟨none, .store 6 (.t 5) (.t 15), none, 1, 255⟩]
def f85r2 : List AOper := [⟨some 16, .load true 6 (.t 5), none, 0, 0⟩, ⟨some 6, .alloc false [(.int .i64 0), (.int .i64 0), (.int .i64 0), (.str []), (.is [] .nil), (.bool false)], none, 0, 0⟩, ⟨none, .store 6 (.t 6) (.t 16), none, 1, 3⟩]
def f85r3 : List AOper := [⟨some 17, .fieldAddr 4 (.t 6), none, 0, 0⟩, ⟨none, .store 1 (.t 17) (.c (.is [] .nil)), none, 0, 1⟩]
def f85r4 : List AOper := [⟨some 18, .fieldAddr 0 (.t 5), none, 0, 0⟩, ⟨some 19, .load false 1 (.t 18), none, 0, 1⟩, ⟨some 20, .build [(.int .i64 0), (.int .i64 0), (.int .i64 0), (.str []), (.is [] .nil), (.bool false)] [(0, 1, (.t 19))], none, 0, 3⟩, ⟨some 7, .alloc false [(.int .i64 0), (.int .i64 0), (.int .i64 0), (.str []), (.is [] .nil), (.bool false)], none, 0, 0⟩, ⟨none, .store 6 (.t 7) (.t 20), none, 1, 15⟩]
def f85r5 : List AOper := [⟨some 21, .fieldAddr 0 (.t 5), none, 0, 0⟩, ⟨some 22, .load false 1 (.t 21), none, 0, 1⟩]
def f85r6 : List AOper := [⟨some 24, .bin .eql (.t 22) (.c (.int .i64 13)), none, 0, 0⟩, ⟨some 23, .move (.t 24), none, 0, 1⟩]
def f85r7 : List AOper := [⟨some 25, .fieldAddr 1 (.t 5), none, 0, 0⟩, ⟨some 26, .load false 1 (.t 25), none, 0, 1⟩, ⟨some 27, .fieldAddr 1 (.t 7), none, 0, 3⟩, ⟨none, .store 1 (.t 27) (.t 26), none, 0, 7⟩]
def f85r8 : List AOper := [⟨some 29, .bin .eql (.t 22) (.c (.int .i64 14)), none, 0, 0⟩, ⟨some 28, .move (.t 29), none, 0, 1⟩]
def f85r9 : List AOper := [⟨some 30, .fieldAddr 1 (.t 5), none, 0, 0⟩, ⟨some 31, .load false 1 (.t 30), none, 0, 1⟩, ⟨some 32, .fieldAddr 2 (.t 5), none, 0, 0⟩, ⟨some 33, .load false 1 (.t 32), none, 0, 4⟩, ⟨some 34, .fieldAddr 1 (.t 7), none, 0, 3⟩, ⟨none, .store 1 (.t 34) (.t 31), none, 0, 19⟩, ⟨some 35, .fieldAddr 2 (.t 7), none, 0, 63⟩, ⟨none, .store 1 (.t 35) (.t 33), none, 0, 127⟩]
def f85r10 : List AOper := [⟨some 37, .bin .eql (.t 22) (.c (.int .i64 12)), none, 0, 0⟩, ⟨some 36, .move (.t 37), none, 0, 1⟩]
def f85r11 : List AOper := [⟨some 38, .fieldAddr 3 (.t 5), none, 0, 0⟩, ⟨some 39, .load false 1 (.t 38), none, 0, 1⟩, ⟨some 40, .fieldAddr 3 (.t 7), none, 0, 3⟩, ⟨none, .store 1 (.t 40) (.t 39), none, 0, 7⟩]
def f85r12 : List AOper := [⟨some 42, .bin .eql (.t 22) (.c (.int .i64 15)), none, 0, 0⟩, ⟨some 41, .move (.t 42), none, 0, 1⟩]
def f85r13 : List AOper := [⟨some 43, .bin .eql (.t 22) (.c (.int .i64 16)), none, 0, 0⟩, ⟨some 41, .move (.t 43), none, 0, 1⟩]
def f85r14 : List AOper := [⟨some 44, .fieldAddr 3 (.t 5), none, 0, 0⟩, ⟨some 45, .load false 1 (.t 44), none, 0, 1⟩, ⟨some 46, .fieldAddr 5 (.t 5), none, 0, 0⟩, ⟨some 47, .load false 1 (.t 46), none, 0, 4⟩, ⟨some 48, .fieldAddr 3 (.t 7), none, 0, 3⟩, ⟨none, .store 1 (.t 48) (.t 45), none, 0, 19⟩, ⟨some 49, .fieldAddr 5 (.t 7), none, 0, 63⟩, ⟨none, .store 1 (.t 49) (.t 47), none, 0, 127⟩]
def f85r15 : List AOper := [⟨some 4, .move (.c (.bool false)), none, 0, 0⟩]
def f85r16 : List AOper := [⟨some 50, .fieldAddr 0 (.t 6), none, 0, 0⟩, ⟨some 51, .load false 1 (.t 50), none, 0, 1⟩, ⟨some 52, .fieldAddr 0 (.t 7), none, 0, 0⟩, ⟨some 53, .load false 1 (.t 52), none, 0, 4⟩, ⟨some 54, .bin .eql (.t 51) (.t 53), none, 0, 15⟩, ⟨some 55, .move (.t 54), none, 0, 31⟩, ⟨some 56, .fieldAddr 1 (.t 6), (some (55, true)), 0, 63⟩, ⟨some 57, .load false 1 (.t 56), (some (55, true)), 0, 127⟩, ⟨some 58, .fieldAddr 1 (.t 7), (some (55, true)), 0, 63⟩, ⟨some 59, .load false 1 (.t 58), (some (55, true)), 0, 319⟩, ⟨some 60, .bin .eql (.t 57) (.t 59), (some (55, true)), 0, 1023⟩, ⟨some 61, .pick (.t 55) (.t 60) (.c (.bool false)), none, 0, 2047⟩, ⟨some 62, .move (.t 61), none, 0, 4095⟩, ⟨some 63, .fieldAddr 2 (.t 6), (some (62, true)), 0, 8191⟩, ⟨some 64, .load false 1 (.t 63), (some (62, true)), 0, 16383⟩, ⟨some 65, .fieldAddr 2 (.t 7), (some (62, true)), 0, 8191⟩, ⟨some 66, .load false 1 (.t 65), (some (62, true)), 0, 40959⟩, ⟨some 67, .bin .eql (.t 64) (.t 66), (some (62, true)), 0, 131071⟩, ⟨some 68, .pick (.t 62) (.t 67) (.c (.bool false)), none, 0, 262143⟩, ⟨some 69, .move (.t 68), none, 0, 524287⟩, ⟨some 70, .fieldAddr 3 (.t 6), (some (69, true)), 0, 1048575⟩, ⟨some 71, .load false 1 (.t 70), (some (69, true)), 0, 2097151⟩, ⟨some 72, .fieldAddr 3 (.t 7), (some (69, true)), 0, 1048575⟩, ⟨some 73, .load false 1 (.t 72), (some (69, true)), 0, 5242879⟩, ⟨some 74, .bin .eql (.t 71) (.t 73), (some (69, true)), 0, 16777215⟩, ⟨some 75, .pick (.t 69) (.t 74) (.c (.bool false)), none, 0, 33554431⟩, ⟨some 76, .move (.t 75), none, 0, 67108863⟩, ⟨some 77, .fieldAddr 5 (.t 6), (some (76, true)), 0, 134217727⟩, ⟨some 78, .load false 1 (.t 77), (some (76, true)), 0, 268435455⟩, ⟨some 79, .fieldAddr 5 (.t 7), (some (76, true)), 0, 134217727⟩, ⟨some 80, .load false 1 (.t 79), (some (76, true)), 0, 671088639⟩, ⟨some 81, .eq false .bool (.t 78) (.t 80), (some (76, true)), 0, 2147483647⟩, ⟨some 82, .pick (.t 76) (.t 81) (.c (.bool false)), none, 0, 4294967295⟩, ⟨some 8, .move (.t 82), none, 0, 8589934591⟩]
def f85r17 : List AOper := [⟨some 83, .move (.t 8), none, 0, 0⟩, ⟨some 84, .un .not (.t 83), none, 0, 1⟩, ⟨some 85, .move (.t 84), none, 0, 3⟩, ⟨some 86, .fieldAddr 5 (.t 5), (some (85, false)), 0, 7⟩, ⟨some 87, .load false 1 (.t 86), (some (85, false)), 0, 15⟩, ⟨some 88, .un .not (.t 87), (some (85, false)), 0, 31⟩, ⟨some 89, .move (.t 88), (some (85, false)), 0, 63⟩, ⟨some 90, .fieldAddr 4 (.t 5), (some (89, true)), 0, 127⟩, ⟨some 91, .load false 1 (.t 90), (some (89, true)), 0, 255⟩, ⟨some 92, .len 1 (.t 91), (some (89, true)), 0, 511⟩, ⟨some 93, .bin .gtr (.t 92) (.c (.int .i64 0)), (some (89, true)), 0, 1023⟩, ⟨some 94, .pick (.t 89) (.t 93) (.c (.bool false)), (some (85, false)), 0, 2047⟩, ⟨some 95, .pick (.t 85) (.c (.bool true)) (.t 94), none, 0, 4095⟩]
def f85r18 : List AOper := [⟨some 4, .move (.c (.bool false)), none, 0, 0⟩]
def f85r19 : List AOper := [⟨some 96, .fieldAddr 0 (.t 5), none, 0, 0⟩, ⟨some 97, .load false 1 (.t 96), none, 0, 1⟩]
def f85r20 : List AOper := [⟨some 99, .bin .eql (.t 97) (.c (.int .i64 13)), none, 0, 0⟩, ⟨some 98, .move (.t 99), none, 0, 1⟩]
def f85r21 : List AOper := [⟨some 100, .bin .eql (.t 97) (.c (.int .i64 14)), none, 0, 0⟩, ⟨some 98, .move (.t 100), none, 0, 1⟩]
def f85r22 : List AOper := [⟨some 101, .fieldAddr 1 (.t 5), none, 0, 0⟩, ⟨some 102, .load false 1 (.t 101), none, 0, 1⟩, ⟨some 103, .bin .geq (.t 102) (.c (.int .i64 0)), none, 0, 3⟩, ⟨some 104, .move (.t 103), none, 0, 7⟩, ⟨some 105, .fieldAddr 1 (.t 5), (some (104, true)), 0, 15⟩, ⟨some 106, .load false 1 (.t 105), (some (104, true)), 0, 31⟩, ⟨some 107, .move (.t 1), (some (104, true)), 0, 15⟩, ⟨some 108, .bin .lss (.t 106) (.t 107), (some (104, true)), 0, 127⟩, ⟨some 109, .pick (.t 104) (.t 108) (.c (.bool false)), none, 0, 255⟩, ⟨some 110, .move (.t 109), none, 0, 511⟩, ⟨some 111, .fieldAddr 0 (.t 5), (some (110, true)), 0, 1023⟩, ⟨some 112, .load false 1 (.t 111), (some (110, true)), 0, 2047⟩, ⟨some 113, .bin .eql (.t 112) (.c (.int .i64 13)), (some (110, true)), 0, 4095⟩, ⟨some 114, .move (.t 113), (some (110, true)), 0, 8191⟩, ⟨some 115, .fieldAddr 2 (.t 5), (some (114, false)), 0, 16383⟩, ⟨some 116, .load false 1 (.t 115), (some (114, false)), 0, 32767⟩, ⟨some 117, .call (.c (.fn 117 [] [])) [(.t 116)], (some (114, false)), 0, 65535⟩, ⟨some 118, .pick (.t 114) (.c (.bool true)) (.t 117), (some (110, true)), 0, 131071⟩, ⟨some 119, .pick (.t 110) (.t 118) (.c (.bool false)), none, 0, 262143⟩, ⟨some 4, .move (.t 119), none, 0, 524287⟩]
def f85r23 : List AOper := [⟨some 120, .fieldAddr 3 (.t 5), none, 0, 0⟩, ⟨some 121, .load false 1 (.t 120), none, 0, 1⟩, ⟨some 122, .call (.c (.fn 118 [] [])) [(.t 121)], none, 0, 3⟩, ⟨some 4, .move (.t 122), none, 0, 7⟩]
def f85c : ACode :=
 .seq (.region false f85r0 [0, 1] 0)
 (.seq (.region false f85r1 [1, 5] 1)
 (.seq (.region false f85r2 [1, 5, 6] 1)
 (.seq (.region false f85r3 [1, 5, 6] 0)
 (.seq (.region false f85r4 [1, 5, 6, 7] 1)
 (.seq (.seq (.region false f85r5 [1, 5, 6, 7, 22] 0)
 (.block 0 (.seq (.region false f85r6 [1, 5, 6, 7, 22, 23] 0)
  (.cond (.t 23)
   (.region false f85r7 [1, 5, 6, 7] 0)
   (.seq (.region false f85r8 [1, 5, 6, 7, 22, 28] 0)
   (.cond (.t 28)
    (.region true f85r9 [1, 5, 6, 7] 0)
    (.seq (.region false f85r10 [1, 5, 6, 7, 22, 36] 0)
    (.cond (.t 36)
     (.region false f85r11 [1, 5, 6, 7] 0)
     (.seq (.seq (.region false f85r12 [1, 5, 6, 7, 22, 41] 0)
     (.cond (.t 41)
      (.skip)
      (.region false f85r13 [1, 5, 6, 7, 41] 0)))
     (.cond (.t 41)
      (.region true f85r14 [1, 5, 6, 7] 0)
      (.seq (.region false f85r15 [4] 0)
      (.ret))))))))))))
 (.seq (.region false f85r16 [1, 5, 8] 0)
 (.seq (.seq (.region false f85r17 [1, 5, 95] 0)
 (.cond (.t 95)
  (.seq (.region false f85r18 [4] 0)
  (.ret))
  (.skip)))
 (.seq (.seq (.region false f85r19 [1, 5, 97] 0)
 (.block 1 (.seq (.seq (.region false f85r20 [1, 5, 97, 98] 0)
  (.cond (.t 98)
   (.skip)
   (.region false f85r21 [1, 5, 98] 0)))
  (.cond (.t 98)
   (.seq (.region false f85r22 [4] 0)
   (.ret))
   (.skip)))))
 (.seq (.region false f85r23 [4] 0)
 (.ret))))))))))
def f85 : AFn := ⟨2, 123, [.tmp 4], f85c, 1, none⟩
def f85k : List (Nat × List Nat) := [(0, [0, 1]), (1, [1, 5]), (2, [1, 5, 6]), (3, [1, 5, 6]), (4, [1, 5, 6, 7]), (5, [1, 5, 6, 7, 22]), (7, [1, 5, 6, 7, 22, 23]), (9, [1, 5, 6, 7, 22, 28]), (11, [1, 5, 6, 7, 22, 36]), (13, [1, 5, 6, 7, 22, 41]), (14, [1, 5, 6, 7, 41]), (6, [4]), (15, [1, 5, 6, 7]), (12, [1, 5, 6, 7]), (10, [1, 5, 6, 7]), (8, [1, 5, 6, 7]), (16, [1, 5, 8]), (17, [1, 5, 95]), (18, [4]), (19, [1, 5, 97]), (20, [1, 5, 97, 98]), (21, [1, 5, 98]), (22, [4]), (23, [4])]
def f85v : List Nat := []
def f86r0 : List AOper := [⟨some 4, .move (.c (.bool false)), none, 0, 0⟩]
def f86r1 : List AOper := [⟨some 6, .move (.t 0), none, 0, 0⟩, ⟨some 7, .move (.t 1), none, 0, 0⟩, ⟨some 8, .call (.c (.fn 100 [] [])) [(.t 6), (.t 7)], none, 0, 3⟩, ⟨some 5, .move (.t 8), none, 0, 7⟩]
def f86r2 : List AOper := [⟨some 9, .move (.t 5), none, 0, 0⟩]
def f86r3 : List AOper := [⟨some 11, .bin .eql (.t 9) (.c (.int .i64 0)), none, 0, 0⟩, ⟨some 10, .move (.t 11), none, 0, 1⟩]
def f86r4 : List AOper := [⟨some 12, .bin .eql (.t 9) (.c (.int .i64 1)), none, 0, 0⟩, ⟨some 10, .move (.t 12), none, 0, 1⟩]
def f86r5 : List AOper := [⟨some 4, .move (.c (.bool false)), none, 0, 0⟩]
def f86r6 : List AOper := [⟨some 14, .bin .eql (.t 9) (.c (.int .i64 14)), none, 0, 0⟩, ⟨some 13, .move (.t 14), none, 0, 1⟩]
def f86r7 : List AOper := [⟨some 15, .move (.t 0), none, 0, 0⟩, ⟨some 16, .nilCheck (.t 15), none, 0, 1⟩, ⟨some 17, .fieldAddr 0 (.t 16), none, 0, 3⟩, ⟨some 18, .load false 1 (.t 17), none, 0, 7⟩, ⟨some 19, .move (.t 1), none, 0, 0⟩, ⟨some 20, .idxAddr 6 (.t 18) (.t 19), none, 0, 31⟩, ⟨some 21, .fieldAddr 2 (.t 20), none, 0, 63⟩, ⟨some 22, .load false 1 (.t 21), none, 0, 127⟩, ⟨some 23, .bin .geq (.t 22) (.c (.int .i64 0)), none, 0, 255⟩, ⟨some 4, .move (.t 23), none, 0, 511⟩]
def f86r8 : List AOper := [⟨some 25, .bin .eql (.t 9) (.c (.int .i64 15)), none, 0, 0⟩, ⟨some 24, .move (.t 25), none, 0, 1⟩]
def f86r9 : List AOper := [⟨some 26, .bin .eql (.t 9) (.c (.int .i64 16)), none, 0, 0⟩, ⟨some 24, .move (.t 26), none, 0, 1⟩]
def f86r10 : List AOper := [⟨some 27, .move (.t 0), none, 0, 0⟩, ⟨some 28, .nilCheck (.t 27), none, 0, 1⟩, ⟨some 29, .fieldAddr 0 (.t 28), none, 0, 3⟩, ⟨some 30, .load false 1 (.t 29), none, 0, 7⟩, ⟨some 31, .move (.t 1), none, 0, 0⟩, ⟨some 32, .idxAddr 6 (.t 30) (.t 31), none, 0, 31⟩, ⟨some 33, .fieldAddr 5 (.t 32), none, 0, 63⟩, ⟨some 34, .load false 1 (.t 33), none, 0, 127⟩, ⟨some 4, .move (.t 34), none, 0, 255⟩]
def f86r11 : List AOper := [⟨some 4, .move (.c (.bool true)), none, 0, 0⟩]
def f86c : ACode :=
 .seq (.region false f86r0 [0, 1] 0)
 (.seq (.seq (.region false f86r1 [0, 1, 5] 0)
 (.seq (.region false f86r2 [0, 1, 9] 0)
 (.block 0 (.seq (.seq (.region false f86r3 [0, 1, 9, 10] 0)
  (.cond (.t 10)
   (.skip)
   (.region false f86r4 [0, 1, 9, 10] 0)))
  (.cond (.t 10)
   (.seq (.region false f86r5 [4] 0)
   (.ret))
   (.seq (.region false f86r6 [0, 1, 9, 13] 0)
   (.cond (.t 13)
    (.seq (.region false f86r7 [4] 0)
    (.ret))
    (.seq (.seq (.region false f86r8 [0, 1, 9, 24] 0)
    (.cond (.t 24)
     (.skip)
     (.region false f86r9 [0, 1, 24] 0)))
    (.cond (.t 24)
     (.seq (.region false f86r10 [4] 0)
     (.ret))
     (.skip))))))))))
 (.seq (.region false f86r11 [4] 0)
 (.ret)))
def f86 : AFn := ⟨2, 35, [.tmp 4], f86c, 1, none⟩
def f86k : List (Nat × List Nat) := [(0, [0, 1]), (1, [0, 1, 5]), (2, [0, 1, 9]), (3, [0, 1, 9, 10]), (4, [0, 1, 9, 10]), (6, [0, 1, 9, 13]), (8, [0, 1, 9, 24]), (9, [0, 1, 24]), (10, [4]), (7, [4]), (5, [4]), (11, [4])]
def f86v : List Nat := []
def f87r0 : List AOper := [⟨some 4, .move (.c (.int .i64 0)), none, 0, 0⟩]
def f87r1 : List AOper := [⟨some 8, .move (.t 1), none, 0, 0⟩, ⟨some 9, .len 1 (.t 8), none, 0, 1⟩, ⟨some 10, .bin .lss (.t 9) (.c (.int .i64 1)), none, 0, 3⟩, ⟨some 11, .move (.t 10), none, 0, 7⟩, ⟨some 12, .move (.t 1), (some (11, false)), 0, 15⟩, ⟨some 13, .len 1 (.t 12), (some (11, false)), 0, 31⟩, ⟨some 14, .bin .gtr (.t 13) (.c (.int .i64 64)), (some (11, false)), 0, 63⟩, ⟨some 15, .pick (.t 11) (.c (.bool true)) (.t 14), none, 0, 127⟩]
def f87r2 : List AOper := [⟨some 4, .move (.c (.int .i64 2)), none, 0, 0⟩]
def f87r3 : List AOper := [⟨some 16, .mkMap, none, 0, 0⟩, ⟨some 5, .move (.t 16), none, 1, 1⟩]
def f87r4 : List AOper := [⟨some 17, .move (.t 1), none, 0, 0⟩, ⟨some 18, .len 1 (.t 17), none, 0, 1⟩, ⟨some 19, .move (.c (.int .i64 0)), none, 0, 0⟩]
def f87r5 : List AOper := [⟨some 20, .bin .lss (.t 19) (.t 18), none, 0, 0⟩]
def f87r6 : List AOper := [⟨some 21, .idxAddr 3 (.t 17) (.t 19), none, 0, 0⟩, ⟨some 22, .load true 3 (.t 21), none, 0, 1⟩, ⟨some 7, .alloc false [(.str []), (.int .i64 0), (.int .i64 0)], none, 0, 0⟩, ⟨none, .store 3 (.t 7) (.t 22), none, 1, 7⟩]
def f87r7 : List AOper := [⟨some 24, .move (.t 0), none, 0, 0⟩, ⟨some 25, .fieldAddr 1 (.t 7), none, 0, 0⟩, ⟨some 26, .load false 1 (.t 25), none, 0, 2⟩, ⟨some 27, .call (.c (.fn 91 [] [])) [(.t 24), (.t 26)], none, 0, 7⟩, ⟨some 28, .un .not (.t 27), none, 0, 15⟩, ⟨some 23, .move (.t 28), none, 0, 31⟩]
def f87r8 : List AOper := [⟨some 4, .move (.c (.int .i64 30)), none, 0, 0⟩]
def f87r9 : List AOper := [⟨some 30, .move (.t 0), none, 0, 0⟩, ⟨some 31, .fieldAddr 1 (.t 7), none, 0, 0⟩, ⟨some 32, .load false 1 (.t 31), none, 0, 2⟩, ⟨some 33, .call (.c (.fn 86 [] [])) [(.t 30), (.t 32)], none, 0, 7⟩, ⟨some 34, .un .not (.t 33), none, 0, 15⟩, ⟨some 29, .move (.t 34), none, 0, 31⟩]
def f87r10 : List AOper := [⟨some 4, .move (.c (.int .i64 50)), none, 0, 0⟩]
def f87r11 : List AOper := [⟨some 36, .fieldAddr 2 (.t 7), none, 0, 0⟩, ⟨some 37, .load false 1 (.t 36), none, 0, 1⟩, ⟨some 38, .bin .neq (.t 37) (.c (.int .i64 (-1))), none, 0, 3⟩, ⟨some 39, .move (.t 38), none, 0, 7⟩, ⟨some 40, .move (.t 0), (some (39, true)), 0, 15⟩, ⟨some 41, .fieldAddr 1 (.t 7), (some (39, true)), 0, 15⟩, ⟨some 42, .load false 1 (.t 41), (some (39, true)), 0, 47⟩, ⟨some 43, .fieldAddr 2 (.t 7), (some (39, true)), 0, 15⟩, ⟨some 44, .load false 1 (.t 43), (some (39, true)), 0, 143⟩, ⟨some 45, .call (.c (.fn 119 [] [])) [(.t 40), (.t 42), (.t 44)], (some (39, true)), 0, 511⟩, ⟨some 46, .un .not (.t 45), (some (39, true)), 0, 1023⟩, ⟨some 47, .pick (.t 39) (.t 46) (.c (.bool false)), none, 0, 2047⟩, ⟨some 35, .move (.t 47), none, 0, 4095⟩]
def f87r12 : List AOper := [⟨some 4, .move (.c (.int .i64 52)), none, 0, 0⟩]
def f87r13 : List AOper := [⟨some 49, .fieldAddr 0 (.t 7), none, 0, 0⟩, ⟨some 50, .load false 1 (.t 49), none, 0, 1⟩, ⟨some 51, .bin .eql (.t 50) (.c (.str [])), none, 0, 3⟩, ⟨some 52, .move (.t 51), none, 0, 7⟩, ⟨some 53, .fieldAddr 2 (.t 7), (some (52, true)), 0, 15⟩, ⟨some 54, .load false 1 (.t 53), (some (52, true)), 0, 31⟩, ⟨some 55, .bin .lss (.t 54) (.c (.int .i64 0)), (some (52, true)), 0, 63⟩, ⟨some 56, .pick (.t 52) (.t 55) (.c (.bool false)), none, 0, 127⟩, ⟨some 48, .move (.t 56), none, 0, 255⟩]
def f87r14 : List AOper := [⟨some 57, .fieldAddr 0 (.t 7), none, 0, 0⟩, ⟨some 58, .load false 1 (.t 57), none, 0, 1⟩, ⟨some 59, .bin .neq (.t 58) (.c (.str [])), none, 0, 3⟩, ⟨some 60, .move (.t 59), none, 0, 7⟩, ⟨some 61, .fieldAddr 0 (.t 7), (some (60, true)), 0, 15⟩, ⟨some 62, .load false 1 (.t 61), (some (60, true)), 0, 31⟩, ⟨some 63, .call (.c (.fn 120 [] [])) [(.t 62)], (some (60, true)), 0, 63⟩, ⟨some 64, .un .not (.t 63), (some (60, true)), 0, 127⟩, ⟨some 65, .move (.t 64), (some (60, true)), 0, 255⟩, ⟨some 66, .fieldAddr 2 (.t 7), (some (65, false)), 0, 511⟩, ⟨some 67, .load false 1 (.t 66), (some (65, false)), 0, 1023⟩, ⟨some 68, .bin .eql (.t 67) (.c (.int .i64 0)), (some (65, false)), 0, 2047⟩, ⟨some 69, .pick (.t 65) (.c (.bool true)) (.t 68), (some (60, true)), 0, 4095⟩, ⟨some 70, .move (.t 69), (some (60, true)), 0, 8191⟩, ⟨some 71, .move (.t 5), (some (70, false)), 0, 16383⟩, ⟨some 72, .fieldAddr 0 (.t 7), (some (70, false)), 0, 16383⟩, ⟨some 73, .load false 1 (.t 72), (some (70, false)), 0, 49151⟩, ⟨some 74, .lookup false [.str] (.int .i64 0) false (.t 71) (.t 73), (some (70, false)), 0, 131071⟩, ⟨some 75, .bin .gtr (.t 74) (.c (.int .i64 0)), (some (70, false)), 0, 262143⟩, ⟨some 76, .pick (.t 70) (.c (.bool true)) (.t 75), (some (60, true)), 0, 524287⟩, ⟨some 77, .pick (.t 60) (.t 76) (.c (.bool false)), none, 0, 1048575⟩, ⟨some 48, .move (.t 77), none, 0, 2097151⟩]
def f87r15 : List AOper := [⟨some 4, .move (.c (.int .i64 31)), none, 0, 0⟩]
def f87r16 : List AOper := [⟨some 78, .move (.t 5), none, 0, 0⟩, ⟨some 79, .fieldAddr 0 (.t 7), none, 0, 0⟩, ⟨some 80, .load false 1 (.t 79), none, 0, 2⟩, ⟨some 81, .lookup false [.str] (.int .i64 0) false (.t 78) (.t 80), none, 0, 7⟩, ⟨some 82, .bin .add (.t 81) (.c (.int .i64 1)), none, 0, 15⟩, ⟨none, .mapUpdate false [.str] (.t 78) (.t 80) (.t 82), none, 0, 31⟩]
def f87r17 : List AOper := [⟨some 83, .bin .add (.t 19) (.c (.int .i64 1)), none, 0, 0⟩, ⟨some 19, .move (.t 83), none, 0, 1⟩]
def f87m5 : ACode :=
 .seq (.region false f87r5 [0, 5, 17, 18, 19, 20] 0)
 (.seq (.cond (.t 20)
  (.skip)
  (.exit 0))
 (.seq (.block 1 (.seq (.region false f87r6 [0, 5, 7, 17, 18, 19] 1)
  (.seq (.block 2 (.seq (.region false f87r7 [0, 5, 7, 17, 18, 19, 23] 0)
   (.cond (.t 23)
    (.seq (.region false f87r8 [4] 0)
    (.ret))
    (.seq (.region false f87r9 [0, 5, 7, 17, 18, 19, 29] 0)
    (.cond (.t 29)
     (.seq (.region false f87r10 [4] 0)
     (.ret))
     (.seq (.region false f87r11 [0, 5, 7, 17, 18, 19, 35] 0)
     (.cond (.t 35)
      (.seq (.region false f87r12 [4] 0)
      (.ret))
      (.seq (.seq (.region false f87r13 [0, 5, 7, 17, 18, 19, 48] 0)
      (.cond (.t 48)
       (.skip)
       (.region false f87r14 [0, 5, 7, 17, 18, 19, 48] 0)))
      (.cond (.t 48)
       (.seq (.region false f87r15 [4] 0)
       (.ret))
       (.skip))))))))))
  (.region false f87r16 [0, 5, 17, 18, 19] 0))))
 (.region false f87r17 [0, 5, 17, 18, 19] 0)))
def f87l5 : ACode := f87m5
theorem f87l5_b {A : Tab} {nt : Nat} {e : Env} {h : Heap} : Brun A nt f87l5 e h = Brun A nt f87m5 e h := rfl
def f87r18 : List AOper := [⟨some 4, .move (.c (.int .i64 0)), none, 0, 0⟩]
def f87c : ACode :=
 .seq (.region false f87r0 [0, 1] 0)
 (.seq (.seq (.region false f87r1 [0, 1, 15] 0)
 (.cond (.t 15)
  (.seq (.region false f87r2 [4] 0)
  (.ret))
  (.skip)))
 (.seq (.region false f87r3 [0, 1, 5] 1)
 (.seq (.seq (.region false f87r4 [0, 5, 17, 18, 19] 0)
 (.block 0 (.loop f87l5)))
 (.seq (.region false f87r18 [4] 0)
 (.ret)))))
def f87 : AFn := ⟨2, 84, [.tmp 4], f87c, 1, none⟩
def f87k : List (Nat × List Nat) := [(0, [0, 1]), (1, [0, 1, 15]), (2, [4]), (3, [0, 1, 5]), (4, [0, 5, 17, 18, 19]), (5, [0, 5, 17, 18, 19, 20]), (6, [0, 5, 7, 17, 18, 19]), (7, [0, 5, 7, 17, 18, 19, 23]), (9, [0, 5, 7, 17, 18, 19, 29]), (11, [0, 5, 7, 17, 18, 19, 35]), (13, [0, 5, 7, 17, 18, 19, 48]), (14, [0, 5, 7, 17, 18, 19, 48]), (15, [4]), (12, [4]), (10, [4]), (8, [4]), (16, [0, 5, 17, 18, 19]), (17, [0, 5, 17, 18, 19]), (18, [4])]
def f87v : List Nat := []
end Go.Proofs.YtfhijkapcdmdnaaGreatDoor
