/- The seat's functions as the machine's: each is what the machine's own turning of the program's function gives. Printed by a program. -/
import Derived.Test.YtkgpdillhnmpdaaAmV
import Derived.Test.YtkgpdillhnmpdaaProg
import Derived.KernelRfl
namespace Go.Proofs.Ytkgpdillhnmpdaa
open Go.AM
set_option maxRecDepth 100000
/-! 3: mortise/mortiselaw07.ConvFolds, parameters [3, 3, 22, 22], results [4] -/
def f3r0 : List AOper := [
  ⟨(some 8), .move (.c (.bool false)), none, 0, 0⟩]
def f3r1 : List AOper := [
  ⟨(some 16), .move (.t 0), none, 0, 0⟩,
  ⟨(some 9), .move (.t 16), none, 0, 1⟩]
def f3r2 : List AOper := [
  ⟨(some 18), .move (.t 9), none, 0, 0⟩,
  ⟨(some 19), .move (.t 1), none, 0, 0⟩,
  ⟨(some 20), .move (.t 2), none, 0, 0⟩,
  ⟨(some 21), .move (.t 3), none, 0, 0⟩,
  ⟨(some 22), .call (.c (.fn 6 [] [])) [(.t 18), (.t 19), (.t 20), (.t 21)], none, 0, 15⟩,
  ⟨(some 17), .move (.t 22), none, 0, 31⟩,
  ⟨(some 23), .extract (.t 17) 0, none, 0, 63⟩,
  ⟨(some 24), .extract (.t 17) 1, none, 0, 63⟩,
  ⟨(some 10), .move (.t 23), none, 0, 127⟩,
  ⟨(some 11), .move (.t 24), none, 0, 511⟩]
def f3r3 : List AOper := [
  ⟨(some 26), .move (.t 1), none, 0, 0⟩,
  ⟨(some 27), .move (.t 2), none, 0, 0⟩,
  ⟨(some 28), .move (.t 3), none, 0, 0⟩,
  ⟨(some 29), .call (.c (.fn 7 [] [])) [(.t 26), (.t 27), (.t 28)], none, 0, 7⟩,
  ⟨(some 25), .move (.t 29), none, 0, 15⟩,
  ⟨(some 30), .extract (.t 25) 0, none, 0, 31⟩,
  ⟨(some 31), .extract (.t 25) 1, none, 0, 31⟩,
  ⟨(some 12), .move (.t 30), none, 0, 63⟩,
  ⟨(some 13), .move (.t 31), none, 0, 255⟩]
def f3r4 : List AOper := [
  ⟨(some 32), .move (.t 11), none, 0, 0⟩,
  ⟨(some 33), .bin .neq (.t 32) (.c (.int .i64 0)), none, 0, 1⟩]
def f3r5 : List AOper := [
  ⟨(some 34), .move (.t 10), none, 0, 0⟩,
  ⟨(some 35), .bin .eql (.t 34) (.c (.int .u32 0)), none, 0, 1⟩,
  ⟨(some 36), .move (.t 35), none, 0, 3⟩,
  ⟨(some 37), .move (.t 11), (some (36, true)), 0, 7⟩,
  ⟨(some 38), .bin .eql (.t 37) (.c (.int .i64 71)), (some (36, true)), 0, 15⟩,
  ⟨(some 39), .move (.t 38), (some (36, true)), 0, 31⟩,
  ⟨(some 40), .move (.t 13), (some (39, true)), 0, 63⟩,
  ⟨(some 41), .un .not (.t 40), (some (39, true)), 0, 127⟩,
  ⟨(some 42), .pick (.t 39) (.t 41) (.c (.bool false)), (some (36, true)), 0, 255⟩,
  ⟨(some 43), .move (.t 42), (some (36, true)), 0, 511⟩,
  ⟨(some 44), .move (.t 11), (some (43, false)), 0, 1023⟩,
  ⟨(some 45), .bin .eql (.t 44) (.c (.int .i64 70)), (some (43, false)), 0, 2047⟩,
  ⟨(some 46), .pick (.t 43) (.c (.bool true)) (.t 45), (some (36, true)), 0, 4095⟩,
  ⟨(some 47), .pick (.t 36) (.t 46) (.c (.bool false)), none, 0, 8191⟩,
  ⟨(some 48), .move (.t 47), none, 0, 16383⟩,
  ⟨(some 49), .call (.c (.fn 8 [] [])) [], (some (48, true)), 0, 32767⟩,
  ⟨(some 50), .pick (.t 48) (.t 49) (.c (.bool false)), none, 0, 65535⟩,
  ⟨(some 8), .move (.t 50), none, 0, 131071⟩]
def f3r6 : List AOper := [
  ⟨(some 52), .move (.t 9), none, 0, 0⟩,
  ⟨(some 53), .move (.t 10), none, 0, 0⟩,
  ⟨(some 54), .call (.c (.fn 6 [] [])) [(.t 52), (.c (.int .i64 1)), (.t 53), (.c (.int .u32 0))], none, 0, 3⟩,
  ⟨(some 51), .move (.t 54), none, 0, 7⟩,
  ⟨(some 55), .extract (.t 51) 0, none, 0, 15⟩,
  ⟨(some 56), .extract (.t 51) 1, none, 0, 15⟩,
  ⟨(some 14), .move (.t 55), none, 0, 31⟩,
  ⟨(some 15), .move (.t 56), none, 0, 127⟩]
def f3r7 : List AOper := [
  ⟨(some 57), .move (.t 13), none, 0, 0⟩,
  ⟨(some 58), .move (.t 57), none, 0, 1⟩,
  ⟨(some 59), .move (.t 10), (some (58, true)), 0, 3⟩,
  ⟨(some 60), .move (.t 9), (some (58, true)), 0, 3⟩,
  ⟨(some 61), .move (.t 12), (some (58, true)), 0, 3⟩,
  ⟨(some 62), .call (.c (.fn 9 [] [])) [(.t 60), (.t 61)], (some (58, true)), 0, 27⟩,
  ⟨(some 63), .bin .eql (.t 59) (.t 62), (some (58, true)), 0, 63⟩,
  ⟨(some 64), .pick (.t 58) (.t 63) (.c (.bool false)), none, 0, 127⟩,
  ⟨(some 65), .move (.t 64), none, 0, 255⟩,
  ⟨(some 66), .move (.t 14), (some (65, true)), 0, 511⟩,
  ⟨(some 67), .move (.t 10), (some (65, true)), 0, 511⟩,
  ⟨(some 68), .bin .eql (.t 66) (.t 67), (some (65, true)), 0, 2047⟩,
  ⟨(some 69), .pick (.t 65) (.t 68) (.c (.bool false)), none, 0, 4095⟩,
  ⟨(some 70), .move (.t 69), none, 0, 8191⟩,
  ⟨(some 71), .move (.t 15), (some (70, true)), 0, 16383⟩,
  ⟨(some 72), .bin .eql (.t 71) (.c (.int .i64 0)), (some (70, true)), 0, 32767⟩,
  ⟨(some 73), .pick (.t 70) (.t 72) (.c (.bool false)), none, 0, 65535⟩,
  ⟨(some 74), .move (.t 73), none, 0, 131071⟩,
  ⟨(some 75), .call (.c (.fn 8 [] [])) [], (some (74, true)), 0, 262143⟩,
  ⟨(some 76), .pick (.t 74) (.t 75) (.c (.bool false)), none, 0, 524287⟩,
  ⟨(some 8), .move (.t 76), none, 0, 1048575⟩]
def f3c : ACode :=
  .seq (.region false f3r0 [0, 1, 2, 3] 0)
  (.seq (.region false f3r1 [1, 2, 3, 9] 0)
  (.seq (.region false f3r2 [1, 2, 3, 9, 10, 11] 0)
  (.seq (.region false f3r3 [9, 10, 11, 12, 13] 0)
  (.seq (.seq (.region false f3r4 [9, 10, 11, 12, 13, 33] 0)
  (.cond (.t 33)
    (.seq (.region false f3r5 [8] 0)
    (.ret))
    (.skip)))
  (.seq (.region false f3r6 [9, 10, 12, 13, 14, 15] 0)
  (.seq (.region false f3r7 [8] 0)
  (.ret)))))))
def f3 : AFn := ⟨4, 77, [.tmp 8], f3c, 1⟩
def f3k : List (Nat × List Nat) := [(0, [0, 1, 2, 3]), (1, [1, 2, 3, 9]), (2, [1, 2, 3, 9, 10, 11]), (3, [9, 10, 11, 12, 13]), (4, [9, 10, 11, 12, 13, 33]), (5, [8]), (6, [9, 10, 12, 13, 14, 15]), (7, [8])]
def f3v : List Nat := []

/-! 4: mortise/mortiselaw07.ConvKinds, parameters [3, 3, 3, 3, 22, 22], results [4] -/
def f4r0 : List AOper := [
  ⟨(some 12), .move (.c (.bool false)), none, 0, 0⟩]
def f4r1 : List AOper := [
  ⟨(some 22), .move (.t 0), none, 0, 0⟩,
  ⟨(some 23), .move (.t 1), none, 0, 0⟩,
  ⟨(some 24), .call (.c (.fn 10 [] [])) [(.t 22), (.t 23)], none, 0, 3⟩,
  ⟨(some 21), .move (.t 24), none, 0, 7⟩,
  ⟨(some 25), .extract (.t 21) 0, none, 0, 15⟩,
  ⟨(some 26), .extract (.t 21) 1, none, 0, 15⟩,
  ⟨(some 13), .move (.t 25), none, 0, 31⟩,
  ⟨(some 14), .move (.t 26), none, 0, 127⟩]
def f4r2 : List AOper := [
  ⟨(some 28), .move (.t 0), none, 0, 0⟩,
  ⟨(some 29), .move (.t 1), none, 0, 0⟩,
  ⟨(some 30), .call (.c (.fn 11 [] [])) [(.t 28), (.t 29)], none, 0, 3⟩,
  ⟨(some 27), .move (.t 30), none, 0, 7⟩,
  ⟨(some 31), .extract (.t 27) 0, none, 0, 15⟩,
  ⟨(some 32), .extract (.t 27) 1, none, 0, 15⟩,
  ⟨(some 15), .move (.t 31), none, 0, 31⟩,
  ⟨(some 16), .move (.t 32), none, 0, 127⟩]
def f4r3 : List AOper := [
  ⟨(some 34), .move (.t 0), none, 0, 0⟩,
  ⟨(some 35), .move (.t 3), none, 0, 0⟩,
  ⟨(some 36), .move (.t 4), none, 0, 0⟩,
  ⟨(some 37), .move (.t 5), none, 0, 0⟩,
  ⟨(some 38), .call (.c (.fn 6 [] [])) [(.t 34), (.t 35), (.t 36), (.t 37)], none, 0, 15⟩,
  ⟨(some 33), .move (.t 38), none, 0, 31⟩,
  ⟨(some 39), .extract (.t 33) 0, none, 0, 63⟩,
  ⟨(some 40), .extract (.t 33) 1, none, 0, 63⟩,
  ⟨(some 17), .move (.t 39), none, 0, 127⟩,
  ⟨(some 18), .move (.t 40), none, 0, 511⟩]
def f4r4 : List AOper := [
  ⟨(some 42), .move (.t 0), none, 0, 0⟩,
  ⟨(some 43), .move (.t 3), none, 0, 0⟩,
  ⟨(some 44), .move (.t 4), none, 0, 0⟩,
  ⟨(some 45), .move (.t 5), none, 0, 0⟩,
  ⟨(some 46), .call (.c (.fn 12 [] [])) [(.t 42), (.t 43), (.t 44), (.t 45)], none, 0, 15⟩,
  ⟨(some 41), .move (.t 46), none, 0, 31⟩,
  ⟨(some 47), .extract (.t 41) 0, none, 0, 63⟩,
  ⟨(some 48), .extract (.t 41) 1, none, 0, 63⟩,
  ⟨(some 19), .move (.t 47), none, 0, 127⟩,
  ⟨(some 20), .move (.t 48), none, 0, 511⟩]
def f4r5 : List AOper := [
  ⟨(some 49), .move (.t 0), none, 0, 0⟩,
  ⟨(some 50), .move (.t 2), none, 0, 0⟩,
  ⟨(some 51), .call (.c (.fn 13 [] [])) [(.t 49), (.t 50)], none, 0, 3⟩,
  ⟨(some 52), .move (.t 0), none, 0, 0⟩,
  ⟨(some 53), .move (.t 2), none, 0, 0⟩,
  ⟨(some 54), .call (.c (.fn 14 [] [])) [(.t 52), (.t 53)], none, 0, 31⟩,
  ⟨(some 55), .bin .eql (.t 51) (.t 54), none, 0, 63⟩,
  ⟨(some 56), .move (.t 55), none, 0, 127⟩,
  ⟨(some 57), .move (.t 13), (some (56, true)), 0, 255⟩,
  ⟨(some 58), .move (.t 15), (some (56, true)), 0, 255⟩,
  ⟨(some 59), .bin .eql (.t 57) (.t 58), (some (56, true)), 0, 1023⟩,
  ⟨(some 60), .pick (.t 56) (.t 59) (.c (.bool false)), none, 0, 2047⟩,
  ⟨(some 61), .move (.t 60), none, 0, 4095⟩,
  ⟨(some 62), .move (.t 14), (some (61, true)), 0, 8191⟩,
  ⟨(some 63), .move (.t 16), (some (61, true)), 0, 8191⟩,
  ⟨(some 64), .bin .eql (.t 62) (.t 63), (some (61, true)), 0, 32767⟩,
  ⟨(some 65), .pick (.t 61) (.t 64) (.c (.bool false)), none, 0, 65535⟩,
  ⟨(some 66), .move (.t 65), none, 0, 131071⟩,
  ⟨(some 67), .move (.t 17), (some (66, true)), 0, 262143⟩,
  ⟨(some 68), .move (.t 19), (some (66, true)), 0, 262143⟩,
  ⟨(some 69), .bin .eql (.t 67) (.t 68), (some (66, true)), 0, 1048575⟩,
  ⟨(some 70), .pick (.t 66) (.t 69) (.c (.bool false)), none, 0, 2097151⟩,
  ⟨(some 71), .move (.t 70), none, 0, 4194303⟩,
  ⟨(some 72), .move (.t 18), (some (71, true)), 0, 8388607⟩,
  ⟨(some 73), .move (.t 20), (some (71, true)), 0, 8388607⟩,
  ⟨(some 74), .bin .eql (.t 72) (.t 73), (some (71, true)), 0, 33554431⟩,
  ⟨(some 75), .pick (.t 71) (.t 74) (.c (.bool false)), none, 0, 67108863⟩,
  ⟨(some 76), .move (.t 75), none, 0, 134217727⟩,
  ⟨(some 77), .call (.c (.fn 8 [] [])) [], (some (76, true)), 0, 268435455⟩,
  ⟨(some 78), .pick (.t 76) (.t 77) (.c (.bool false)), none, 0, 536870911⟩,
  ⟨(some 12), .move (.t 78), none, 0, 1073741823⟩]
def f4c : ACode :=
  .seq (.region false f4r0 [0, 1, 2, 3, 4, 5] 0)
  (.seq (.region false f4r1 [0, 1, 2, 3, 4, 5, 13, 14] 0)
  (.seq (.region false f4r2 [0, 2, 3, 4, 5, 13, 14, 15, 16] 0)
  (.seq (.region false f4r3 [0, 2, 3, 4, 5, 13, 14, 15, 16, 17, 18] 0)
  (.seq (.region false f4r4 [0, 2, 13, 14, 15, 16, 17, 18, 19, 20] 0)
  (.seq (.region false f4r5 [12] 0)
  (.ret))))))
def f4 : AFn := ⟨6, 79, [.tmp 12], f4c, 1⟩
def f4k : List (Nat × List Nat) := [(0, [0, 1, 2, 3, 4, 5]), (1, [0, 1, 2, 3, 4, 5, 13, 14]), (2, [0, 2, 3, 4, 5, 13, 14, 15, 16]), (3, [0, 2, 3, 4, 5, 13, 14, 15, 16, 17, 18]), (4, [0, 2, 13, 14, 15, 16, 17, 18, 19, 20]), (5, [12])]
def f4v : List Nat := []

/-! 5: mortise/mortiselaw07.ConvNobody, parameters [9, 3, 3], results [4] -/
def f5r0 : List AOper := [
  ⟨(some 6), .move (.c (.bool false)), none, 0, 0⟩]
def f5r1 : List AOper := [
  ⟨(some 7), .move (.c .nilp), none, 0, 0⟩]
def f5r2 : List AOper := [
  ⟨(some 8), .move (.t 7), none, 0, 0⟩,
  ⟨(some 9), .move (.t 0), none, 0, 0⟩,
  ⟨(some 10), .move (.t 1), none, 0, 0⟩,
  ⟨(some 11), .move (.t 2), none, 0, 0⟩,
  ⟨(some 12), .call (.c (.fn 15 [] [])) [(.t 8), (.t 9), (.t 10), (.t 11)], none, 0, 15⟩,
  ⟨(some 13), .move (.t 12), none, 0, 31⟩,
  ⟨(some 14), .build [(.is [] .nil), .nilm] [], (some (13, true)), 0, 63⟩,
  ⟨(some 15), .box false (.t 14), (some (13, true)), 0, 127⟩,
  ⟨(some 16), .move (.t 0), (some (13, true)), 1, 63⟩,
  ⟨(some 17), .move (.t 1), (some (13, true)), 1, 63⟩,
  ⟨(some 18), .move (.t 2), (some (13, true)), 1, 63⟩,
  ⟨(some 19), .call (.c (.fn 15 [] [])) [(.t 15), (.t 16), (.t 17), (.t 18)], (some (13, true)), 1, 2047⟩,
  ⟨(some 20), .pick (.t 13) (.t 19) (.c (.bool false)), none, 1, 4095⟩,
  ⟨(some 21), .move (.t 20), none, 1, 8191⟩,
  ⟨(some 22), .call (.c (.fn 8 [] [])) [], (some (21, true)), 1, 16383⟩,
  ⟨(some 23), .pick (.t 21) (.t 22) (.c (.bool false)), none, 1, 32767⟩,
  ⟨(some 6), .move (.t 23), none, 1, 65535⟩]
def f5c : ACode :=
  .seq (.region false f5r0 [0, 1, 2] 0)
  (.seq (.region false f5r1 [0, 1, 2, 7] 0)
  (.seq (.region false f5r2 [6] 1)
  (.ret)))
def f5 : AFn := ⟨3, 24, [.tmp 6], f5c, 1⟩
def f5k : List (Nat × List Nat) := [(0, [0, 1, 2]), (1, [0, 1, 2, 7]), (2, [6])]
def f5v : List Nat := []

/-! 6: mortise/conv.Fold, parameters [23, 27, 22, 22], results [22, 24] -/
def f6r0 : List AOper := [
  ⟨(some 8), .move (.c (.int .u32 0)), none, 0, 0⟩,
  ⟨(some 9), .move (.c (.int .i64 0)), none, 0, 1⟩]
def f6r1 : List AOper := [
  ⟨(some 13), .move (.t 0), none, 0, 0⟩,
  ⟨(some 14), .call (.c (.fn 16 [] [])) [(.t 13)], none, 0, 1⟩,
  ⟨(some 15), .un .not (.t 14), none, 0, 3⟩,
  ⟨(some 16), .move (.t 15), none, 0, 7⟩,
  ⟨(some 17), .move (.t 1), (some (16, false)), 0, 15⟩,
  ⟨(some 18), .call (.c (.fn 17 [] [])) [(.t 17)], (some (16, false)), 0, 31⟩,
  ⟨(some 19), .bin .eql (.t 18) (.c (.str [])), (some (16, false)), 0, 63⟩,
  ⟨(some 20), .pick (.t 16) (.c (.bool true)) (.t 19), none, 0, 127⟩]
def f6r2 : List AOper := [
  ⟨(some 8), .move (.c (.int .u32 0)), none, 0, 0⟩,
  ⟨(some 9), .move (.c (.int .i64 70)), none, 0, 1⟩]
def f6r3 : List AOper := [
  ⟨(some 10), .move (.c (.fn 7 [] [])), none, 0, 0⟩]
def f6r4 : List AOper := [
  ⟨(some 22), .move (.t 10), none, 0, 0⟩,
  ⟨(some 23), .move (.t 1), none, 0, 0⟩,
  ⟨(some 24), .move (.t 2), none, 0, 0⟩,
  ⟨(some 25), .move (.t 3), none, 0, 0⟩,
  ⟨(some 26), .call (.t 22) [(.t 23), (.t 24), (.t 25)], none, 0, 15⟩,
  ⟨(some 21), .move (.t 26), none, 0, 31⟩,
  ⟨(some 27), .extract (.t 21) 0, none, 0, 63⟩,
  ⟨(some 28), .extract (.t 21) 1, none, 0, 63⟩,
  ⟨(some 11), .move (.t 27), none, 0, 127⟩,
  ⟨(some 12), .move (.t 28), none, 0, 511⟩]
def f6r5 : List AOper := [
  ⟨(some 29), .move (.t 12), none, 0, 0⟩,
  ⟨(some 30), .un .not (.t 29), none, 0, 1⟩]
def f6r6 : List AOper := [
  ⟨(some 8), .move (.c (.int .u32 0)), none, 0, 0⟩,
  ⟨(some 9), .move (.c (.int .i64 71)), none, 0, 1⟩]
def f6r7 : List AOper := [
  ⟨(some 31), .move (.t 0), none, 0, 0⟩,
  ⟨(some 32), .move (.t 11), none, 0, 0⟩,
  ⟨(some 33), .call (.c (.fn 9 [] [])) [(.t 31), (.t 32)], none, 0, 3⟩,
  ⟨(some 8), .move (.t 33), none, 0, 7⟩,
  ⟨(some 9), .move (.c (.int .i64 0)), none, 0, 15⟩]
def f6c : ACode :=
  .seq (.region false f6r0 [0, 1, 2, 3] 0)
  (.seq (.seq (.region false f6r1 [0, 1, 2, 3, 20] 0)
  (.cond (.t 20)
    (.seq (.region false f6r2 [8, 9] 0)
    (.ret))
    (.skip)))
  (.seq (.region false f6r3 [0, 1, 2, 3, 10] 0)
  (.seq (.region false f6r4 [0, 11, 12] 0)
  (.seq (.seq (.region false f6r5 [0, 11, 30] 0)
  (.cond (.t 30)
    (.seq (.region false f6r6 [8, 9] 0)
    (.ret))
    (.skip)))
  (.seq (.region false f6r7 [8, 9] 0)
  (.ret))))))
def f6 : AFn := ⟨4, 34, [.tmp 8, .tmp 9], f6c, 1⟩
def f6k : List (Nat × List Nat) := [(0, [0, 1, 2, 3]), (1, [0, 1, 2, 3, 20]), (2, [8, 9]), (3, [0, 1, 2, 3, 10]), (4, [0, 11, 12]), (5, [0, 11, 30]), (6, [8, 9]), (7, [8, 9])]
def f6v : List Nat := []

/-! 7: mortise/word.Bin, parameters [27, 22, 22], results [22, 4] -/
def f7r0 : List AOper := [
  ⟨(some 6), .move (.c (.int .u32 0)), none, 0, 0⟩,
  ⟨(some 7), .move (.c (.bool false)), none, 0, 1⟩]
def f7r1 : List AOper := [
  ⟨(some 10), .move (.t 1), none, 0, 0⟩,
  ⟨(some 11), .conv .i32 (.t 10), none, 0, 1⟩,
  ⟨(some 12), .move (.t 2), none, 0, 0⟩,
  ⟨(some 13), .conv .i32 (.t 12), none, 0, 4⟩,
  ⟨(some 8), .move (.t 11), none, 0, 3⟩,
  ⟨(some 9), .move (.t 13), none, 0, 31⟩]
def f7r2 : List AOper := [
  ⟨(some 14), .move (.t 0), none, 0, 0⟩]
def f7r3 : List AOper := [
  ⟨(some 16), .bin .eql (.t 14) (.c (.int .i64 4)), none, 0, 0⟩,
  ⟨(some 15), .move (.t 16), none, 0, 1⟩]
def f7r4 : List AOper := [
  ⟨(some 17), .bin .eql (.t 14) (.c (.int .i64 5)), none, 0, 0⟩,
  ⟨(some 15), .move (.t 17), none, 0, 1⟩]
def f7r5 : List AOper := [
  ⟨(some 18), .bin .eql (.t 14) (.c (.int .i64 6)), none, 0, 0⟩,
  ⟨(some 15), .move (.t 18), none, 0, 1⟩]
def f7r6 : List AOper := [
  ⟨(some 19), .bin .eql (.t 14) (.c (.int .i64 7)), none, 0, 0⟩,
  ⟨(some 15), .move (.t 19), none, 0, 1⟩]
def f7r7 : List AOper := [
  ⟨(some 20), .move (.t 2), none, 0, 0⟩,
  ⟨(some 21), .bin .eql (.t 20) (.c (.int .u32 0)), none, 0, 1⟩]
def f7r8 : List AOper := [
  ⟨(some 6), .move (.c (.int .u32 0)), none, 0, 0⟩,
  ⟨(some 7), .move (.c (.bool false)), none, 0, 1⟩]
def f7r9 : List AOper := [
  ⟨(some 22), .move (.t 0), none, 0, 0⟩,
  ⟨(some 23), .move (.t 1), none, 0, 0⟩,
  ⟨(some 24), .move (.t 2), none, 0, 0⟩,
  ⟨(some 25), .call (.c (.fn 18 [] [])) [(.t 22), (.t 23), (.t 24)], none, 0, 7⟩,
  ⟨(some 6), .move (.t 25), none, 0, 15⟩,
  ⟨(some 7), .move (.c (.bool true)), none, 0, 31⟩]
def f7r10 : List AOper := [
  ⟨(some 27), .bin .eql (.t 14) (.c (.int .i64 1)), none, 0, 0⟩,
  ⟨(some 26), .move (.t 27), none, 0, 1⟩]
def f7r11 : List AOper := [
  ⟨(some 28), .move (.t 1), none, 0, 0⟩,
  ⟨(some 29), .move (.t 2), none, 0, 0⟩,
  ⟨(some 30), .bin .add (.t 28) (.t 29), none, 0, 3⟩,
  ⟨(some 6), .move (.t 30), none, 0, 7⟩,
  ⟨(some 7), .move (.c (.bool true)), none, 0, 15⟩]
def f7r12 : List AOper := [
  ⟨(some 32), .bin .eql (.t 14) (.c (.int .i64 2)), none, 0, 0⟩,
  ⟨(some 31), .move (.t 32), none, 0, 1⟩]
def f7r13 : List AOper := [
  ⟨(some 33), .move (.t 1), none, 0, 0⟩,
  ⟨(some 34), .move (.t 2), none, 0, 0⟩,
  ⟨(some 35), .bin .sub (.t 33) (.t 34), none, 0, 3⟩,
  ⟨(some 6), .move (.t 35), none, 0, 7⟩,
  ⟨(some 7), .move (.c (.bool true)), none, 0, 15⟩]
def f7r14 : List AOper := [
  ⟨(some 37), .bin .eql (.t 14) (.c (.int .i64 3)), none, 0, 0⟩,
  ⟨(some 36), .move (.t 37), none, 0, 1⟩]
def f7r15 : List AOper := [
  ⟨(some 38), .move (.t 1), none, 0, 0⟩,
  ⟨(some 39), .move (.t 2), none, 0, 0⟩,
  ⟨(some 40), .bin .mul (.t 38) (.t 39), none, 0, 3⟩,
  ⟨(some 6), .move (.t 40), none, 0, 7⟩,
  ⟨(some 7), .move (.c (.bool true)), none, 0, 15⟩]
def f7r16 : List AOper := [
  ⟨(some 42), .bin .eql (.t 14) (.c (.int .i64 8)), none, 0, 0⟩,
  ⟨(some 41), .move (.t 42), none, 0, 1⟩]
def f7r17 : List AOper := [
  ⟨(some 43), .move (.t 1), none, 0, 0⟩,
  ⟨(some 44), .move (.t 2), none, 0, 0⟩,
  ⟨(some 45), .bin .and (.t 43) (.t 44), none, 0, 3⟩,
  ⟨(some 6), .move (.t 45), none, 0, 7⟩,
  ⟨(some 7), .move (.c (.bool true)), none, 0, 15⟩]
def f7r18 : List AOper := [
  ⟨(some 47), .bin .eql (.t 14) (.c (.int .i64 9)), none, 0, 0⟩,
  ⟨(some 46), .move (.t 47), none, 0, 1⟩]
def f7r19 : List AOper := [
  ⟨(some 48), .move (.t 1), none, 0, 0⟩,
  ⟨(some 49), .move (.t 2), none, 0, 0⟩,
  ⟨(some 50), .bin .or (.t 48) (.t 49), none, 0, 3⟩,
  ⟨(some 6), .move (.t 50), none, 0, 7⟩,
  ⟨(some 7), .move (.c (.bool true)), none, 0, 15⟩]
def f7r20 : List AOper := [
  ⟨(some 52), .bin .eql (.t 14) (.c (.int .i64 10)), none, 0, 0⟩,
  ⟨(some 51), .move (.t 52), none, 0, 1⟩]
def f7r21 : List AOper := [
  ⟨(some 53), .move (.t 1), none, 0, 0⟩,
  ⟨(some 54), .move (.t 2), none, 0, 0⟩,
  ⟨(some 55), .bin .xor (.t 53) (.t 54), none, 0, 3⟩,
  ⟨(some 6), .move (.t 55), none, 0, 7⟩,
  ⟨(some 7), .move (.c (.bool true)), none, 0, 15⟩]
def f7r22 : List AOper := [
  ⟨(some 57), .bin .eql (.t 14) (.c (.int .i64 11)), none, 0, 0⟩,
  ⟨(some 56), .move (.t 57), none, 0, 1⟩]
def f7r23 : List AOper := [
  ⟨(some 58), .move (.t 1), none, 0, 0⟩,
  ⟨(some 59), .move (.t 2), none, 0, 0⟩,
  ⟨(some 60), .bin .and (.t 59) (.c (.int .u32 31)), none, 0, 2⟩,
  ⟨(some 61), .bin .shl (.t 58) (.t 60), none, 0, 7⟩,
  ⟨(some 6), .move (.t 61), none, 0, 15⟩,
  ⟨(some 7), .move (.c (.bool true)), none, 0, 31⟩]
def f7r24 : List AOper := [
  ⟨(some 63), .bin .eql (.t 14) (.c (.int .i64 12)), none, 0, 0⟩,
  ⟨(some 62), .move (.t 63), none, 0, 1⟩]
def f7r25 : List AOper := [
  ⟨(some 64), .move (.t 8), none, 0, 0⟩,
  ⟨(some 65), .move (.t 2), none, 0, 0⟩,
  ⟨(some 66), .bin .and (.t 65) (.c (.int .u32 31)), none, 0, 2⟩,
  ⟨(some 67), .bin .shr (.t 64) (.t 66), none, 0, 7⟩,
  ⟨(some 68), .conv .u32 (.t 67), none, 0, 15⟩,
  ⟨(some 6), .move (.t 68), none, 0, 31⟩,
  ⟨(some 7), .move (.c (.bool true)), none, 0, 63⟩]
def f7r26 : List AOper := [
  ⟨(some 70), .bin .eql (.t 14) (.c (.int .i64 13)), none, 0, 0⟩,
  ⟨(some 69), .move (.t 70), none, 0, 1⟩]
def f7r27 : List AOper := [
  ⟨(some 71), .move (.t 1), none, 0, 0⟩,
  ⟨(some 72), .move (.t 2), none, 0, 0⟩,
  ⟨(some 73), .bin .and (.t 72) (.c (.int .u32 31)), none, 0, 2⟩,
  ⟨(some 74), .bin .shr (.t 71) (.t 73), none, 0, 7⟩,
  ⟨(some 6), .move (.t 74), none, 0, 15⟩,
  ⟨(some 7), .move (.c (.bool true)), none, 0, 31⟩]
def f7r28 : List AOper := [
  ⟨(some 76), .bin .eql (.t 14) (.c (.int .i64 14)), none, 0, 0⟩,
  ⟨(some 75), .move (.t 76), none, 0, 1⟩]
def f7r29 : List AOper := [
  ⟨(some 77), .move (.t 1), none, 0, 0⟩,
  ⟨(some 78), .move (.t 2), none, 0, 0⟩,
  ⟨(some 79), .bin .eql (.t 77) (.t 78), none, 0, 3⟩,
  ⟨(some 80), .call (.c (.fn 19 [] [])) [(.t 79)], none, 0, 7⟩,
  ⟨(some 6), .move (.t 80), none, 0, 15⟩,
  ⟨(some 7), .move (.c (.bool true)), none, 0, 31⟩]
def f7r30 : List AOper := [
  ⟨(some 82), .bin .eql (.t 14) (.c (.int .i64 15)), none, 0, 0⟩,
  ⟨(some 81), .move (.t 82), none, 0, 1⟩]
def f7r31 : List AOper := [
  ⟨(some 83), .move (.t 1), none, 0, 0⟩,
  ⟨(some 84), .move (.t 2), none, 0, 0⟩,
  ⟨(some 85), .bin .neq (.t 83) (.t 84), none, 0, 3⟩,
  ⟨(some 86), .call (.c (.fn 19 [] [])) [(.t 85)], none, 0, 7⟩,
  ⟨(some 6), .move (.t 86), none, 0, 15⟩,
  ⟨(some 7), .move (.c (.bool true)), none, 0, 31⟩]
def f7r32 : List AOper := [
  ⟨(some 88), .bin .eql (.t 14) (.c (.int .i64 16)), none, 0, 0⟩,
  ⟨(some 87), .move (.t 88), none, 0, 1⟩]
def f7r33 : List AOper := [
  ⟨(some 89), .move (.t 8), none, 0, 0⟩,
  ⟨(some 90), .move (.t 9), none, 0, 0⟩,
  ⟨(some 91), .bin .lss (.t 89) (.t 90), none, 0, 3⟩,
  ⟨(some 92), .call (.c (.fn 19 [] [])) [(.t 91)], none, 0, 7⟩,
  ⟨(some 6), .move (.t 92), none, 0, 15⟩,
  ⟨(some 7), .move (.c (.bool true)), none, 0, 31⟩]
def f7r34 : List AOper := [
  ⟨(some 94), .bin .eql (.t 14) (.c (.int .i64 17)), none, 0, 0⟩,
  ⟨(some 93), .move (.t 94), none, 0, 1⟩]
def f7r35 : List AOper := [
  ⟨(some 95), .move (.t 1), none, 0, 0⟩,
  ⟨(some 96), .move (.t 2), none, 0, 0⟩,
  ⟨(some 97), .bin .lss (.t 95) (.t 96), none, 0, 3⟩,
  ⟨(some 98), .call (.c (.fn 19 [] [])) [(.t 97)], none, 0, 7⟩,
  ⟨(some 6), .move (.t 98), none, 0, 15⟩,
  ⟨(some 7), .move (.c (.bool true)), none, 0, 31⟩]
def f7r36 : List AOper := [
  ⟨(some 100), .bin .eql (.t 14) (.c (.int .i64 18)), none, 0, 0⟩,
  ⟨(some 99), .move (.t 100), none, 0, 1⟩]
def f7r37 : List AOper := [
  ⟨(some 101), .move (.t 8), none, 0, 0⟩,
  ⟨(some 102), .move (.t 9), none, 0, 0⟩,
  ⟨(some 103), .bin .leq (.t 101) (.t 102), none, 0, 3⟩,
  ⟨(some 104), .call (.c (.fn 19 [] [])) [(.t 103)], none, 0, 7⟩,
  ⟨(some 6), .move (.t 104), none, 0, 15⟩,
  ⟨(some 7), .move (.c (.bool true)), none, 0, 31⟩]
def f7r38 : List AOper := [
  ⟨(some 106), .bin .eql (.t 14) (.c (.int .i64 19)), none, 0, 0⟩,
  ⟨(some 105), .move (.t 106), none, 0, 1⟩]
def f7r39 : List AOper := [
  ⟨(some 107), .move (.t 1), none, 0, 0⟩,
  ⟨(some 108), .move (.t 2), none, 0, 0⟩,
  ⟨(some 109), .bin .leq (.t 107) (.t 108), none, 0, 3⟩,
  ⟨(some 110), .call (.c (.fn 19 [] [])) [(.t 109)], none, 0, 7⟩,
  ⟨(some 6), .move (.t 110), none, 0, 15⟩,
  ⟨(some 7), .move (.c (.bool true)), none, 0, 31⟩]
def f7r40 : List AOper := [
  ⟨(some 6), .move (.c (.int .u32 0)), none, 0, 0⟩,
  ⟨(some 7), .move (.c (.bool false)), none, 0, 1⟩]
def f7c : ACode :=
  .seq (.region false f7r0 [0, 1, 2] 0)
  (.seq (.region false f7r1 [0, 1, 2, 8, 9] 0)
  (.seq (.seq (.region false f7r2 [0, 1, 2, 8, 9, 14] 0)
  (.block 0 (.seq (.seq (.region false f7r3 [0, 1, 2, 8, 9, 14, 15] 0)
    (.cond (.t 15)
      (.skip)
      (.seq (.region false f7r4 [0, 1, 2, 8, 9, 14, 15] 0)
      (.cond (.t 15)
        (.skip)
        (.seq (.region false f7r5 [0, 1, 2, 8, 9, 14, 15] 0)
        (.cond (.t 15)
          (.skip)
          (.region false f7r6 [0, 1, 2, 8, 9, 14, 15] 0)))))))
    (.cond (.t 15)
      (.seq (.seq (.region false f7r7 [0, 1, 2, 21] 0)
      (.cond (.t 21)
        (.seq (.region false f7r8 [6, 7] 0)
        (.ret))
        (.skip)))
      (.seq (.region false f7r9 [6, 7] 0)
      (.ret)))
      (.seq (.region false f7r10 [1, 2, 8, 9, 14, 26] 0)
      (.cond (.t 26)
        (.seq (.region false f7r11 [6, 7] 0)
        (.ret))
        (.seq (.region false f7r12 [1, 2, 8, 9, 14, 31] 0)
        (.cond (.t 31)
          (.seq (.region false f7r13 [6, 7] 0)
          (.ret))
          (.seq (.region false f7r14 [1, 2, 8, 9, 14, 36] 0)
          (.cond (.t 36)
            (.seq (.region false f7r15 [6, 7] 0)
            (.ret))
            (.seq (.region false f7r16 [1, 2, 8, 9, 14, 41] 0)
            (.cond (.t 41)
              (.seq (.region false f7r17 [6, 7] 0)
              (.ret))
              (.seq (.region false f7r18 [1, 2, 8, 9, 14, 46] 0)
              (.cond (.t 46)
                (.seq (.region false f7r19 [6, 7] 0)
                (.ret))
                (.seq (.region false f7r20 [1, 2, 8, 9, 14, 51] 0)
                (.cond (.t 51)
                  (.seq (.region false f7r21 [6, 7] 0)
                  (.ret))
                  (.seq (.region false f7r22 [1, 2, 8, 9, 14, 56] 0)
                  (.cond (.t 56)
                    (.seq (.region false f7r23 [6, 7] 0)
                    (.ret))
                    (.seq (.region false f7r24 [1, 2, 8, 9, 14, 62] 0)
                    (.cond (.t 62)
                      (.seq (.region false f7r25 [6, 7] 0)
                      (.ret))
                      (.seq (.region false f7r26 [1, 2, 8, 9, 14, 69] 0)
                      (.cond (.t 69)
                        (.seq (.region false f7r27 [6, 7] 0)
                        (.ret))
                        (.seq (.region false f7r28 [1, 2, 8, 9, 14, 75] 0)
                        (.cond (.t 75)
                          (.seq (.region false f7r29 [6, 7] 0)
                          (.ret))
                          (.seq (.region false f7r30 [1, 2, 8, 9, 14, 81] 0)
                          (.cond (.t 81)
                            (.seq (.region false f7r31 [6, 7] 0)
                            (.ret))
                            (.seq (.region false f7r32 [1, 2, 8, 9, 14, 87] 0)
                            (.cond (.t 87)
                              (.seq (.region false f7r33 [6, 7] 0)
                              (.ret))
                              (.seq (.region false f7r34 [1, 2, 8, 9, 14, 93] 0)
                              (.cond (.t 93)
                                (.seq (.region false f7r35 [6, 7] 0)
                                (.ret))
                                (.seq (.region false f7r36 [1, 2, 8, 9, 14, 99] 0)
                                (.cond (.t 99)
                                  (.seq (.region false f7r37 [6, 7] 0)
                                  (.ret))
                                  (.seq (.region false f7r38 [1, 2, 105] 0)
                                  (.cond (.t 105)
                                    (.seq (.region false f7r39 [6, 7] 0)
                                    (.ret))
                                    (.skip)))))))))))))))))))))))))))))))))))
  (.seq (.region false f7r40 [6, 7] 0)
  (.ret))))
def f7 : AFn := ⟨3, 111, [.tmp 6, .tmp 7], f7c, 1⟩
def f7k : List (Nat × List Nat) := [(0, [0, 1, 2]), (1, [0, 1, 2, 8, 9]), (2, [0, 1, 2, 8, 9, 14]), (3, [0, 1, 2, 8, 9, 14, 15]), (4, [0, 1, 2, 8, 9, 14, 15]), (5, [0, 1, 2, 8, 9, 14, 15]), (6, [0, 1, 2, 8, 9, 14, 15]), (10, [1, 2, 8, 9, 14, 26]), (12, [1, 2, 8, 9, 14, 31]), (14, [1, 2, 8, 9, 14, 36]), (16, [1, 2, 8, 9, 14, 41]), (18, [1, 2, 8, 9, 14, 46]), (20, [1, 2, 8, 9, 14, 51]), (22, [1, 2, 8, 9, 14, 56]), (24, [1, 2, 8, 9, 14, 62]), (26, [1, 2, 8, 9, 14, 69]), (28, [1, 2, 8, 9, 14, 75]), (30, [1, 2, 8, 9, 14, 81]), (32, [1, 2, 8, 9, 14, 87]), (34, [1, 2, 8, 9, 14, 93]), (36, [1, 2, 8, 9, 14, 99]), (38, [1, 2, 105]), (39, [6, 7]), (37, [6, 7]), (35, [6, 7]), (33, [6, 7]), (31, [6, 7]), (29, [6, 7]), (27, [6, 7]), (25, [6, 7]), (23, [6, 7]), (21, [6, 7]), (19, [6, 7]), (17, [6, 7]), (15, [6, 7]), (13, [6, 7]), (11, [6, 7]), (7, [0, 1, 2, 21]), (8, [6, 7]), (9, [6, 7]), (40, [6, 7])]
def f7v : List Nat := [68, 13, 11]

/-! 8: mortise/mortiselaw07.heads, parameters [], results [4] -/
def f8r0 : List AOper := [
  ⟨(some 0), .move (.c (.bool false)), none, 0, 0⟩]
def f8r1 : List AOper := [
  ⟨(some 22), .call (.c (.fn 20 [] [])) [], none, 0, 0⟩,
  ⟨(some 1), .move (.t 22), none, 0, 1⟩]
def f8r2 : List AOper := [
  ⟨(some 24), .move (.t 1), none, 0, 0⟩,
  ⟨(some 25), .call (.c (.fn 21 [] [])) [(.t 24), (.c (.int .i64 7))], none, 0, 1⟩,
  ⟨(some 23), .move (.t 25), none, 0, 3⟩,
  ⟨(some 26), .extract (.t 23) 0, none, 0, 7⟩,
  ⟨(some 27), .extract (.t 23) 1, none, 0, 7⟩,
  ⟨(some 2), .move (.t 26), none, 0, 15⟩,
  ⟨(some 3), .move (.t 27), none, 0, 63⟩]
def f8r3 : List AOper := [
  ⟨(some 29), .move (.t 1), none, 0, 0⟩,
  ⟨(some 30), .call (.c (.fn 21 [] [])) [(.t 29), (.c (.int .i64 2))], none, 0, 1⟩,
  ⟨(some 28), .move (.t 30), none, 0, 3⟩,
  ⟨(some 31), .extract (.t 28) 0, none, 0, 7⟩,
  ⟨(some 32), .extract (.t 28) 1, none, 0, 7⟩,
  ⟨(some 4), .move (.t 31), none, 0, 15⟩,
  ⟨(some 5), .move (.t 32), none, 0, 63⟩]
def f8r4 : List AOper := [
  ⟨(some 34), .call (.c (.fn 10 [] [])) [(.c (.int .i64 10)), (.c (.int .i64 9))], none, 0, 0⟩,
  ⟨(some 33), .move (.t 34), none, 0, 1⟩,
  ⟨(some 35), .extract (.t 33) 0, none, 0, 3⟩,
  ⟨(some 36), .extract (.t 33) 1, none, 0, 3⟩,
  ⟨(some 6), .move (.t 35), none, 0, 7⟩,
  ⟨(some 7), .move (.t 36), none, 0, 31⟩]
def f8r5 : List AOper := [
  ⟨(some 38), .move (.t 1), none, 0, 0⟩,
  ⟨(some 39), .move (.t 2), none, 0, 0⟩,
  ⟨(some 40), .call (.c (.fn 22 [] [])) [(.t 38), (.c (.str [43])), (.t 39), (.c (.int .i64 2))], none, 0, 3⟩,
  ⟨(some 37), .move (.t 40), none, 0, 7⟩,
  ⟨(some 41), .extract (.t 37) 0, none, 0, 15⟩,
  ⟨(some 42), .extract (.t 37) 1, none, 0, 15⟩,
  ⟨(some 8), .alloc false (List.replicate 5 (.int .i64 0)), none, 0, 0⟩,
  ⟨none, .store 5 (.t 8) (.t 41), none, 1, 95⟩,
  ⟨(some 9), .move (.t 42), none, 1, 255⟩]
def f8r6 : List AOper := [
  ⟨(some 44), .move (.t 1), none, 0, 0⟩,
  ⟨(some 45), .call (.c (.fn 22 [] [])) [(.t 44), (.c (.str [60])), (.c (.int .i64 8)), (.c (.int .i64 7))], none, 0, 1⟩,
  ⟨(some 43), .move (.t 45), none, 0, 3⟩,
  ⟨(some 46), .extract (.t 43) 0, none, 0, 7⟩,
  ⟨(some 47), .extract (.t 43) 1, none, 0, 7⟩,
  ⟨(some 10), .alloc false (List.replicate 5 (.int .i64 0)), none, 0, 0⟩,
  ⟨none, .store 5 (.t 10) (.t 46), none, 1, 47⟩,
  ⟨(some 11), .move (.t 47), none, 1, 127⟩]
def f8r7 : List AOper := [
  ⟨(some 49), .move (.t 1), none, 0, 0⟩,
  ⟨(some 50), .move (.t 2), none, 0, 0⟩,
  ⟨(some 51), .move (.t 4), none, 0, 0⟩,
  ⟨(some 52), .call (.c (.fn 22 [] [])) [(.t 49), (.c (.str [45])), (.t 50), (.t 51)], none, 0, 7⟩,
  ⟨(some 48), .move (.t 52), none, 0, 15⟩,
  ⟨(some 53), .extract (.t 48) 0, none, 0, 31⟩,
  ⟨(some 54), .extract (.t 48) 1, none, 0, 31⟩,
  ⟨(some 12), .alloc false (List.replicate 5 (.int .i64 0)), none, 0, 0⟩,
  ⟨none, .store 5 (.t 12) (.t 53), none, 1, 191⟩,
  ⟨(some 13), .move (.t 54), none, 1, 511⟩]
def f8r8 : List AOper := [
  ⟨(some 56), .call (.c (.fn 6 [] [])) [(.c (.int .i64 5)), (.c (.int .i64 1)), (.c (.int .u32 250)), (.c (.int .u32 10))], none, 0, 0⟩,
  ⟨(some 55), .move (.t 56), none, 0, 1⟩,
  ⟨(some 57), .extract (.t 55) 0, none, 0, 3⟩,
  ⟨(some 58), .extract (.t 55) 1, none, 0, 3⟩,
  ⟨(some 14), .move (.t 57), none, 0, 7⟩,
  ⟨(some 15), .move (.t 58), none, 0, 31⟩]
def f8r9 : List AOper := [
  ⟨(some 60), .call (.c (.fn 6 [] [])) [(.c (.int .i64 8)), (.c (.int .i64 4)), (.c (.int .u32 1)), (.c (.int .u32 0))], none, 0, 0⟩,
  ⟨(some 59), .move (.t 60), none, 0, 1⟩,
  ⟨(some 61), .extract (.t 59) 0, none, 0, 3⟩,
  ⟨(some 62), .extract (.t 59) 1, none, 0, 3⟩,
  ⟨(some 16), .move (.t 61), none, 0, 7⟩,
  ⟨(some 17), .move (.t 62), none, 0, 31⟩]
def f8r10 : List AOper := [
  ⟨(some 64), .move (.t 1), none, 0, 0⟩,
  ⟨(some 65), .move (.t 2), none, 0, 0⟩,
  ⟨(some 66), .call (.c (.fn 23 [] [])) [(.t 64), (.c (.str [33])), (.t 65)], none, 0, 3⟩,
  ⟨(some 63), .move (.t 66), none, 0, 7⟩,
  ⟨(some 67), .extract (.t 63) 0, none, 0, 15⟩,
  ⟨(some 68), .extract (.t 63) 1, none, 0, 15⟩,
  ⟨(some 18), .move (.t 67), none, 0, 31⟩,
  ⟨(some 19), .move (.t 68), none, 0, 127⟩]
def f8r11 : List AOper := [
  ⟨(some 70), .move (.t 1), none, 0, 0⟩,
  ⟨(some 71), .call (.c (.fn 24 [] [])) [(.t 70), (.c (.int .i64 2)), (.c (.int .i64 8))], none, 0, 1⟩,
  ⟨(some 69), .move (.t 71), none, 0, 3⟩,
  ⟨(some 72), .extract (.t 69) 0, none, 0, 7⟩,
  ⟨(some 73), .extract (.t 69) 1, none, 0, 7⟩,
  ⟨(some 20), .move (.t 72), none, 0, 15⟩,
  ⟨(some 21), .move (.t 73), none, 0, 63⟩]
def f8r12 : List AOper := [
  ⟨(some 74), .move (.t 6), none, 0, 0⟩,
  ⟨(some 75), .bin .eql (.t 74) (.c (.int .i64 11)), none, 0, 1⟩,
  ⟨(some 76), .move (.t 75), none, 0, 3⟩,
  ⟨(some 77), .move (.t 7), (some (76, true)), 0, 7⟩,
  ⟨(some 78), .bin .eql (.t 77) (.c (.int .i64 0)), (some (76, true)), 0, 15⟩,
  ⟨(some 79), .pick (.t 76) (.t 78) (.c (.bool false)), none, 0, 31⟩,
  ⟨(some 80), .move (.t 79), none, 0, 63⟩,
  ⟨(some 81), .move (.t 9), (some (80, true)), 0, 127⟩,
  ⟨(some 82), .bin .eql (.t 81) (.c (.int .i64 0)), (some (80, true)), 0, 255⟩,
  ⟨(some 83), .pick (.t 80) (.t 82) (.c (.bool false)), none, 0, 511⟩,
  ⟨(some 84), .move (.t 83), none, 0, 1023⟩,
  ⟨(some 85), .load true 5 (.t 8), (some (84, true)), 0, 2047⟩,
  ⟨(some 86), .move (.t 2), (some (84, true)), 0, 2047⟩,
  ⟨(some 87), .move (.t 2), (some (84, true)), 0, 2047⟩,
  ⟨(some 88), .build (List.replicate 5 (.int .i64 0)) [(0, 1, (.c (.int .i64 1))), (1, 1, (.t 86)), (2, 1, (.c (.int .i64 7))), (3, 1, (.t 87)), (4, 1, (.c (.int .i64 4)))], (some (84, true)), 0, 14335⟩,
  ⟨(some 89), .eq false (.agg [.int .i64, .int .i64, .int .i64, .int .i64, .int .i64]) (.t 85) (.t 88), (some (84, true)), 0, 32767⟩,
  ⟨(some 90), .pick (.t 84) (.t 89) (.c (.bool false)), none, 0, 65535⟩,
  ⟨(some 91), .move (.t 90), none, 0, 131071⟩,
  ⟨(some 92), .move (.t 11), (some (91, true)), 0, 262143⟩,
  ⟨(some 93), .bin .eql (.t 92) (.c (.int .i64 0)), (some (91, true)), 0, 524287⟩,
  ⟨(some 94), .pick (.t 91) (.t 93) (.c (.bool false)), none, 0, 1048575⟩,
  ⟨(some 95), .move (.t 94), none, 0, 2097151⟩,
  ⟨(some 96), .load true 5 (.t 10), (some (95, true)), 0, 4194303⟩,
  ⟨(some 97), .build (List.replicate 5 (.int .i64 0)) [(0, 1, (.c (.int .i64 17))), (1, 1, (.c (.int .i64 8))), (2, 1, (.c (.int .i64 8))), (3, 1, (.c (.int .i64 7)))], (some (95, true)), 0, 4194303⟩,
  ⟨(some 98), .eq false (.agg [.int .i64, .int .i64, .int .i64, .int .i64, .int .i64]) (.t 96) (.t 97), (some (95, true)), 0, 16777215⟩,
  ⟨(some 99), .pick (.t 95) (.t 98) (.c (.bool false)), none, 0, 33554431⟩,
  ⟨(some 100), .move (.t 99), none, 0, 67108863⟩,
  ⟨(some 101), .move (.t 13), (some (100, true)), 0, 134217727⟩,
  ⟨(some 102), .bin .eql (.t 101) (.c (.int .i64 70)), (some (100, true)), 0, 268435455⟩,
  ⟨(some 103), .pick (.t 100) (.t 102) (.c (.bool false)), none, 0, 536870911⟩,
  ⟨(some 104), .move (.t 103), none, 0, 1073741823⟩,
  ⟨(some 105), .move (.t 14), (some (104, true)), 0, 2147483647⟩,
  ⟨(some 106), .bin .eql (.t 105) (.c (.int .u32 4)), (some (104, true)), 0, 4294967295⟩,
  ⟨(some 107), .pick (.t 104) (.t 106) (.c (.bool false)), none, 0, 8589934591⟩,
  ⟨(some 108), .move (.t 107), none, 0, 17179869183⟩,
  ⟨(some 109), .move (.t 15), (some (108, true)), 0, 34359738367⟩,
  ⟨(some 110), .bin .eql (.t 109) (.c (.int .i64 0)), (some (108, true)), 0, 68719476735⟩,
  ⟨(some 111), .pick (.t 108) (.t 110) (.c (.bool false)), none, 0, 137438953471⟩,
  ⟨(some 112), .move (.t 111), none, 0, 274877906943⟩,
  ⟨(some 113), .move (.t 17), (some (112, true)), 0, 549755813887⟩,
  ⟨(some 114), .bin .eql (.t 113) (.c (.int .i64 71)), (some (112, true)), 0, 1099511627775⟩,
  ⟨(some 115), .pick (.t 112) (.t 114) (.c (.bool false)), none, 0, 2199023255551⟩,
  ⟨(some 116), .move (.t 115), none, 0, 4398046511103⟩,
  ⟨(some 117), .move (.t 18), (some (116, true)), 0, 8796093022207⟩,
  ⟨(some 118), .bin .eql (.t 117) (.c (.int .i64 7)), (some (116, true)), 0, 17592186044415⟩,
  ⟨(some 119), .pick (.t 116) (.t 118) (.c (.bool false)), none, 0, 35184372088831⟩,
  ⟨(some 120), .move (.t 119), none, 0, 70368744177663⟩,
  ⟨(some 121), .move (.t 19), (some (120, true)), 0, 140737488355327⟩,
  ⟨(some 122), .bin .eql (.t 121) (.c (.int .i64 0)), (some (120, true)), 0, 281474976710655⟩,
  ⟨(some 123), .pick (.t 120) (.t 122) (.c (.bool false)), none, 0, 562949953421311⟩,
  ⟨(some 124), .move (.t 123), none, 0, 1125899906842623⟩,
  ⟨(some 125), .move (.t 20), (some (124, true)), 0, 2251799813685247⟩,
  ⟨(some 126), .bin .eql (.t 125) (.c (.int .i64 8)), (some (124, true)), 0, 4503599627370495⟩,
  ⟨(some 127), .pick (.t 124) (.t 126) (.c (.bool false)), none, 0, 9007199254740991⟩,
  ⟨(some 128), .move (.t 127), none, 0, 18014398509481983⟩,
  ⟨(some 129), .move (.t 21), (some (128, true)), 0, 36028797018963967⟩,
  ⟨(some 130), .bin .eql (.t 129) (.c (.int .i64 0)), (some (128, true)), 0, 72057594037927935⟩,
  ⟨(some 131), .pick (.t 128) (.t 130) (.c (.bool false)), none, 0, 144115188075855871⟩,
  ⟨(some 132), .move (.t 131), none, 0, 288230376151711743⟩,
  ⟨(some 133), .move (.t 1), (some (132, true)), 0, 576460752303423487⟩,
  ⟨(some 134), .move (.t 2), (some (132, true)), 0, 576460752303423487⟩,
  ⟨(some 135), .move (.t 4), (some (132, true)), 0, 576460752303423487⟩,
  ⟨(some 136), .call (.c (.fn 25 [] [])) [(.t 133), (.t 134), (.t 135)], (some (132, true)), 0, 4611686018427387903⟩,
  ⟨(some 137), .bin .eql (.t 136) (.c (.int .i64 70)), (some (132, true)), 0, 9223372036854775807⟩,
  ⟨(some 138), .pick (.t 132) (.t 137) (.c (.bool false)), none, 0, 18446744073709551615⟩,
  ⟨(some 139), .move (.t 138), none, 0, 36893488147419103231⟩,
  ⟨(some 140), .move (.t 1), (some (139, true)), 0, 73786976294838206463⟩,
  ⟨(some 141), .move (.t 2), (some (139, true)), 0, 73786976294838206463⟩,
  ⟨(some 142), .move (.t 4), (some (139, true)), 0, 73786976294838206463⟩,
  ⟨(some 143), .call (.c (.fn 26 [] [])) [(.t 140), (.t 141), (.t 142)], (some (139, true)), 0, 590295810358705651711⟩,
  ⟨(some 144), .bin .eql (.t 143) (.c (.int .i64 0)), (some (139, true)), 0, 1180591620717411303423⟩,
  ⟨(some 145), .pick (.t 139) (.t 144) (.c (.bool false)), none, 0, 2361183241434822606847⟩,
  ⟨(some 146), .move (.t 145), none, 0, 4722366482869645213695⟩,
  ⟨(some 147), .call (.c (.fn 13 [] [])) [(.c (.int .i64 9)), (.c (.int .i64 5))], (some (146, true)), 0, 9444732965739290427391⟩,
  ⟨(some 148), .bin .eql (.t 147) (.c (.int .i64 8)), (some (146, true)), 0, 18889465931478580854783⟩,
  ⟨(some 149), .pick (.t 146) (.t 148) (.c (.bool false)), none, 0, 37778931862957161709567⟩,
  ⟨(some 0), .move (.t 149), none, 0, 75557863725914323419135⟩]
def f8c : ACode :=
  .seq (.region false f8r0 [] 0)
  (.seq (.region false f8r1 [1] 0)
  (.seq (.region false f8r2 [1, 2] 0)
  (.seq (.region false f8r3 [1, 2, 4] 0)
  (.seq (.region false f8r4 [1, 2, 4, 6, 7] 0)
  (.seq (.region false f8r5 [1, 2, 4, 6, 7, 8, 9] 1)
  (.seq (.region false f8r6 [1, 2, 4, 6, 7, 8, 9, 10, 11] 1)
  (.seq (.region false f8r7 [1, 2, 4, 6, 7, 8, 9, 10, 11, 13] 1)
  (.seq (.region false f8r8 [1, 2, 4, 6, 7, 8, 9, 10, 11, 13, 14, 15] 0)
  (.seq (.region false f8r9 [1, 2, 4, 6, 7, 8, 9, 10, 11, 13, 14, 15, 17] 0)
  (.seq (.region false f8r10 [1, 2, 4, 6, 7, 8, 9, 10, 11, 13, 14, 15, 17, 18, 19] 0)
  (.seq (.region false f8r11 [1, 2, 4, 6, 7, 8, 9, 10, 11, 13, 14, 15, 17, 18, 19, 20, 21] 0)
  (.seq (.region false f8r12 [0] 0)
  (.ret)))))))))))))
def f8 : AFn := ⟨0, 150, [.tmp 0], f8c, 1⟩
def f8k : List (Nat × List Nat) := [(0, []), (1, [1]), (2, [1, 2]), (3, [1, 2, 4]), (4, [1, 2, 4, 6, 7]), (5, [1, 2, 4, 6, 7, 8, 9]), (6, [1, 2, 4, 6, 7, 8, 9, 10, 11]), (7, [1, 2, 4, 6, 7, 8, 9, 10, 11, 13]), (8, [1, 2, 4, 6, 7, 8, 9, 10, 11, 13, 14, 15]), (9, [1, 2, 4, 6, 7, 8, 9, 10, 11, 13, 14, 15, 17]), (10, [1, 2, 4, 6, 7, 8, 9, 10, 11, 13, 14, 15, 17, 18, 19]), (11, [1, 2, 4, 6, 7, 8, 9, 10, 11, 13, 14, 15, 17, 18, 19, 20, 21]), (12, [0])]
def f8v : List Nat := []

/-! 9: mortise/word.Convert, parameters [23, 22], results [22] -/
def f9r0 : List AOper := [
  ⟨(some 4), .move (.c (.int .u32 0)), none, 0, 0⟩]
def f9r1 : List AOper := [
  ⟨(some 6), .move (.t 0), none, 0, 0⟩,
  ⟨(some 7), .call (.c (.fn 27 [] [])) [(.t 6)], none, 0, 1⟩,
  ⟨(some 5), .move (.t 7), none, 0, 3⟩]
def f9r2 : List AOper := [
  ⟨(some 9), .move (.t 0), none, 0, 0⟩,
  ⟨(some 10), .bin .eql (.t 9) (.c (.int .i64 2)), none, 0, 1⟩,
  ⟨(some 8), .move (.t 10), none, 0, 3⟩]
def f9r3 : List AOper := [
  ⟨(some 11), .move (.t 1), none, 0, 0⟩,
  ⟨(some 12), .bin .neq (.t 11) (.c (.int .u32 0)), none, 0, 1⟩,
  ⟨(some 13), .call (.c (.fn 19 [] [])) [(.t 12)], none, 0, 3⟩,
  ⟨(some 4), .move (.t 13), none, 0, 7⟩]
def f9r4 : List AOper := [
  ⟨(some 15), .move (.t 5), none, 0, 0⟩,
  ⟨(some 16), .bin .eql (.t 15) (.c (.int .i64 1)), none, 0, 1⟩,
  ⟨(some 17), .move (.t 16), none, 0, 3⟩,
  ⟨(some 18), .move (.t 5), (some (17, false)), 0, 7⟩,
  ⟨(some 19), .bin .eql (.t 18) (.c (.int .i64 2)), (some (17, false)), 0, 15⟩,
  ⟨(some 20), .pick (.t 17) (.c (.bool true)) (.t 19), none, 0, 31⟩,
  ⟨(some 14), .move (.t 20), none, 0, 63⟩]
def f9r5 : List AOper := [
  ⟨(some 21), .move (.t 1), none, 0, 0⟩,
  ⟨(some 22), .move (.t 5), none, 0, 0⟩,
  ⟨(some 23), .bin .mul (.c (.int .i64 8)) (.t 22), none, 0, 2⟩,
  ⟨(some 24), .conv .u64 (.t 23), none, 0, 6⟩,
  ⟨(some 25), .move (.t 0), none, 0, 0⟩,
  ⟨(some 26), .call (.c (.fn 29 [] [])) [(.t 25)], none, 0, 16⟩,
  ⟨(some 27), .call (.c (.fn 28 [] [])) [(.t 21), (.t 24), (.t 26)], none, 0, 63⟩,
  ⟨(some 4), .move (.t 27), none, 0, 127⟩]
def f9r6 : List AOper := [
  ⟨(some 28), .move (.t 1), none, 0, 0⟩,
  ⟨(some 4), .move (.t 28), none, 0, 1⟩]
def f9c : ACode :=
  .seq (.region false f9r0 [0, 1] 0)
  (.seq (.seq (.region false f9r1 [0, 1, 5] 0)
  (.block 0 (.seq (.region false f9r2 [0, 1, 5, 8] 0)
    (.cond (.t 8)
      (.seq (.region false f9r3 [4] 0)
      (.ret))
      (.seq (.region false f9r4 [0, 1, 5, 14] 0)
      (.cond (.t 14)
        (.seq (.region false f9r5 [4] 0)
        (.ret))
        (.skip)))))))
  (.seq (.region false f9r6 [4] 0)
  (.ret)))
def f9 : AFn := ⟨2, 29, [.tmp 4], f9c, 1⟩
def f9k : List (Nat × List Nat) := [(0, [0, 1]), (1, [0, 1, 5]), (2, [0, 1, 5, 8]), (4, [0, 1, 5, 14]), (5, [4]), (3, [4]), (6, [4])]
def f9v : List Nat := [24]

/-! 10: mortise/conv.Usual, parameters [23, 23], results [23, 24] -/
def f10r0 : List AOper := [
  ⟨(some 2), .box false (.t 0), none, 0, 0⟩,
  ⟨(some 3), .box false (.t 1), none, 1, 0⟩,
  ⟨(some 4), .move (.c (.int .i64 0)), none, 2, 0⟩,
  ⟨(some 5), .move (.c (.int .i64 0)), none, 2, 4⟩]
def f10r1 : List AOper := [
  ⟨(some 7), .load false 1 (.t 2), none, 0, 0⟩,
  ⟨(some 8), .call (.c (.fn 16 [] [])) [(.t 7)], none, 0, 1⟩,
  ⟨(some 9), .un .not (.t 8), none, 0, 3⟩,
  ⟨(some 10), .move (.t 9), none, 0, 7⟩,
  ⟨(some 11), .load false 1 (.t 3), (some (10, false)), 0, 15⟩,
  ⟨(some 12), .call (.c (.fn 16 [] [])) [(.t 11)], (some (10, false)), 0, 31⟩,
  ⟨(some 13), .un .not (.t 12), (some (10, false)), 0, 63⟩,
  ⟨(some 14), .pick (.t 10) (.c (.bool true)) (.t 13), none, 0, 127⟩]
def f10r2 : List AOper := [
  ⟨(some 4), .move (.c (.int .i64 0)), none, 0, 0⟩,
  ⟨(some 5), .move (.c (.int .i64 70)), none, 0, 1⟩]
def f10q3 : List AOper := [
  ⟨(some 15), .load false 1 (.t 2), none, 0, 0⟩,
  ⟨(some 16), .call (.c (.fn 13 [] [])) [(.t 15), (.c (.int .i64 (-1)))], none, 0, 1⟩,
  ⟨(some 17), .load false 1 (.t 3), none, 0, 0⟩,
  ⟨(some 18), .call (.c (.fn 13 [] [])) [(.t 17), (.c (.int .i64 (-1)))], none, 0, 7⟩,
  ⟨none, .store 1 (.t 2) (.t 16), none, 0, 15⟩,
  ⟨none, .store 1 (.t 3) (.t 18), none, 0, 31⟩]
def f10r3 : List AOper := f10q3
def f10r4 : List AOper := [
  ⟨(some 19), .fn 30 [] [(.t 2), (.t 3)], none, 0, 0⟩,
  ⟨(some 6), .move (.t 19), none, 0, 1⟩]
def f10r5 : List AOper := [
  ⟨(some 21), .move (.t 6), none, 0, 0⟩,
  ⟨(some 22), .call (.t 21) [(.c (.int .i64 11))], none, 0, 1⟩,
  ⟨(some 20), .move (.t 22), none, 0, 3⟩]
def f10r6 : List AOper := [
  ⟨(some 23), .move (.t 6), none, 0, 0⟩,
  ⟨(some 24), .call (.t 23) [(.c (.int .i64 10))], none, 0, 1⟩,
  ⟨(some 25), .move (.t 24), none, 0, 3⟩,
  ⟨(some 26), .move (.t 6), (some (25, true)), 0, 7⟩,
  ⟨(some 27), .call (.t 26) [(.c (.int .i64 9))], (some (25, true)), 0, 15⟩,
  ⟨(some 28), .pick (.t 25) (.t 27) (.c (.bool false)), none, 0, 31⟩,
  ⟨(some 20), .move (.t 28), none, 0, 63⟩]
def f10r7 : List AOper := [
  ⟨(some 4), .move (.c (.int .i64 11)), none, 0, 0⟩,
  ⟨(some 5), .move (.c (.int .i64 0)), none, 0, 1⟩]
def f10r8 : List AOper := [
  ⟨(some 30), .move (.t 6), none, 0, 0⟩,
  ⟨(some 31), .call (.t 30) [(.c (.int .i64 10))], none, 0, 1⟩,
  ⟨(some 29), .move (.t 31), none, 0, 3⟩]
def f10r9 : List AOper := [
  ⟨(some 4), .move (.c (.int .i64 10)), none, 0, 0⟩,
  ⟨(some 5), .move (.c (.int .i64 0)), none, 0, 1⟩]
def f10r10 : List AOper := [
  ⟨(some 33), .move (.t 6), none, 0, 0⟩,
  ⟨(some 34), .call (.t 33) [(.c (.int .i64 9))], none, 0, 1⟩,
  ⟨(some 32), .move (.t 34), none, 0, 3⟩]
def f10r11 : List AOper := [
  ⟨(some 4), .move (.c (.int .i64 9)), none, 0, 0⟩,
  ⟨(some 5), .move (.c (.int .i64 0)), none, 0, 1⟩]
def f10r12 : List AOper := [
  ⟨(some 4), .move (.c (.int .i64 8)), none, 0, 0⟩,
  ⟨(some 5), .move (.c (.int .i64 0)), none, 0, 1⟩]
theorem f10r3_s : staticOK 0 f10r3 = true := by rfl
theorem f10r3_w {A : Tab} {nt : Nat} {keep : List Nat} {n : Nat} {e : Env} {h : Heap} (hr : (bkeep keep (stepsF nt (stepF A true) h.length f10r3 e (h ++ List.replicate n .free))).isSome = true) : Brun A nt (.region true f10r3 keep n) e h = bkeep keep (stepsF nt (stepF A true) h.length f10r3 e (h ++ List.replicate n .free)) := Brun_drawnS f10r3_s hr
theorem f10r3_u (nt base : Nat) (step : Nat → AOp → Env → Heap → Option (AV × Heap)) (e : Env) (h : Heap) : stepsF nt step base f10r3 e h = stepsF nt step base f10q3 e h := rfl
def f10c : ACode :=
  .seq (.region false f10r0 [2, 3] 2)
  (.seq (.seq (.region false f10r1 [2, 3, 14] 0)
  (.cond (.t 14)
    (.seq (.region false f10r2 [4, 5] 0)
    (.ret))
    (.skip)))
  (.seq (.region true f10r3 [2, 3] 0)
  (.seq (.region false f10r4 [6] 0)
  (.seq (.block 0 (.seq (.seq (.region false f10r5 [6, 20] 0)
    (.cond (.t 20)
      (.skip)
      (.region false f10r6 [6, 20] 0)))
    (.cond (.t 20)
      (.seq (.region false f10r7 [4, 5] 0)
      (.ret))
      (.seq (.region false f10r8 [6, 29] 0)
      (.cond (.t 29)
        (.seq (.region false f10r9 [4, 5] 0)
        (.ret))
        (.seq (.region false f10r10 [32] 0)
        (.cond (.t 32)
          (.seq (.region false f10r11 [4, 5] 0)
          (.ret))
          (.skip))))))))
  (.seq (.region false f10r12 [4, 5] 0)
  (.ret))))))
def f10 : AFn := ⟨2, 35, [.tmp 4, .tmp 5], f10c, 1⟩
def f10k : List (Nat × List Nat) := [(0, [2, 3]), (1, [2, 3, 14]), (2, [4, 5]), (3, [2, 3]), (4, [6]), (5, [6, 20]), (6, [6, 20]), (8, [6, 29]), (10, [32]), (11, [4, 5]), (9, [4, 5]), (7, [4, 5]), (12, [4, 5])]
def f10v : List Nat := []

/-! 11: mortise/mortiseref07.Usual, parameters [23, 23], results [23, 3] -/
def f11r0 : List AOper := [
  ⟨(some 4), .move (.c (.int .i64 0)), none, 0, 0⟩,
  ⟨(some 5), .move (.c (.int .i64 0)), none, 0, 1⟩]
def f11r1 : List AOper := [
  ⟨(some 8), .move (.t 0), none, 0, 0⟩,
  ⟨(some 9), .call (.c (.fn 31 [] [])) [(.t 8)], none, 0, 1⟩,
  ⟨(some 10), .un .not (.t 9), none, 0, 3⟩,
  ⟨(some 11), .move (.t 10), none, 0, 7⟩,
  ⟨(some 12), .move (.t 1), (some (11, false)), 0, 15⟩,
  ⟨(some 13), .call (.c (.fn 31 [] [])) [(.t 12)], (some (11, false)), 0, 31⟩,
  ⟨(some 14), .un .not (.t 13), (some (11, false)), 0, 63⟩,
  ⟨(some 15), .pick (.t 11) (.c (.bool true)) (.t 14), none, 0, 127⟩]
def f11r2 : List AOper := [
  ⟨(some 4), .move (.c (.int .i64 0)), none, 0, 0⟩,
  ⟨(some 5), .move (.c (.int .i64 70)), none, 0, 1⟩]
def f11r3 : List AOper := [
  ⟨(some 16), .move (.t 0), none, 0, 0⟩,
  ⟨(some 17), .call (.c (.fn 14 [] [])) [(.t 16), (.c (.int .i64 (-1)))], none, 0, 1⟩,
  ⟨(some 6), .move (.t 17), none, 0, 3⟩]
def f11r4 : List AOper := [
  ⟨(some 18), .move (.t 1), none, 0, 0⟩,
  ⟨(some 19), .call (.c (.fn 14 [] [])) [(.t 18), (.c (.int .i64 (-1)))], none, 0, 1⟩,
  ⟨(some 7), .move (.t 19), none, 0, 3⟩]
def f11r5 : List AOper := [
  ⟨(some 21), .move (.t 6), none, 0, 0⟩,
  ⟨(some 22), .bin .eql (.t 21) (.c (.int .i64 11)), none, 0, 1⟩,
  ⟨(some 23), .move (.t 22), none, 0, 3⟩,
  ⟨(some 24), .move (.t 7), (some (23, false)), 0, 7⟩,
  ⟨(some 25), .bin .eql (.t 24) (.c (.int .i64 11)), (some (23, false)), 0, 15⟩,
  ⟨(some 26), .pick (.t 23) (.c (.bool true)) (.t 25), none, 0, 31⟩,
  ⟨(some 20), .move (.t 26), none, 0, 63⟩]
def f11r6 : List AOper := [
  ⟨(some 4), .move (.c (.int .i64 11)), none, 0, 0⟩,
  ⟨(some 5), .move (.c (.int .i64 0)), none, 0, 1⟩]
def f11r7 : List AOper := [
  ⟨(some 28), .move (.t 6), none, 0, 0⟩,
  ⟨(some 29), .bin .eql (.t 28) (.c (.int .i64 10)), none, 0, 1⟩,
  ⟨(some 30), .move (.t 29), none, 0, 3⟩,
  ⟨(some 31), .move (.t 7), (some (30, true)), 0, 7⟩,
  ⟨(some 32), .bin .eql (.t 31) (.c (.int .i64 9)), (some (30, true)), 0, 15⟩,
  ⟨(some 33), .pick (.t 30) (.t 32) (.c (.bool false)), none, 0, 31⟩,
  ⟨(some 34), .move (.t 33), none, 0, 63⟩,
  ⟨(some 35), .move (.t 6), (some (34, false)), 0, 127⟩,
  ⟨(some 36), .bin .eql (.t 35) (.c (.int .i64 9)), (some (34, false)), 0, 255⟩,
  ⟨(some 37), .move (.t 36), (some (34, false)), 0, 511⟩,
  ⟨(some 38), .move (.t 7), (some (37, true)), 0, 1023⟩,
  ⟨(some 39), .bin .eql (.t 38) (.c (.int .i64 10)), (some (37, true)), 0, 2047⟩,
  ⟨(some 40), .pick (.t 37) (.t 39) (.c (.bool false)), (some (34, false)), 0, 4095⟩,
  ⟨(some 41), .pick (.t 34) (.c (.bool true)) (.t 40), none, 0, 8191⟩,
  ⟨(some 27), .move (.t 41), none, 0, 16383⟩]
def f11r8 : List AOper := [
  ⟨(some 4), .move (.c (.int .i64 11)), none, 0, 0⟩,
  ⟨(some 5), .move (.c (.int .i64 0)), none, 0, 1⟩]
def f11r9 : List AOper := [
  ⟨(some 43), .move (.t 6), none, 0, 0⟩,
  ⟨(some 44), .bin .eql (.t 43) (.c (.int .i64 10)), none, 0, 1⟩,
  ⟨(some 45), .move (.t 44), none, 0, 3⟩,
  ⟨(some 46), .move (.t 7), (some (45, false)), 0, 7⟩,
  ⟨(some 47), .bin .eql (.t 46) (.c (.int .i64 10)), (some (45, false)), 0, 15⟩,
  ⟨(some 48), .pick (.t 45) (.c (.bool true)) (.t 47), none, 0, 31⟩,
  ⟨(some 42), .move (.t 48), none, 0, 63⟩]
def f11r10 : List AOper := [
  ⟨(some 4), .move (.c (.int .i64 10)), none, 0, 0⟩,
  ⟨(some 5), .move (.c (.int .i64 0)), none, 0, 1⟩]
def f11r11 : List AOper := [
  ⟨(some 50), .move (.t 6), none, 0, 0⟩,
  ⟨(some 51), .bin .eql (.t 50) (.c (.int .i64 9)), none, 0, 1⟩,
  ⟨(some 52), .move (.t 51), none, 0, 3⟩,
  ⟨(some 53), .move (.t 7), (some (52, false)), 0, 7⟩,
  ⟨(some 54), .bin .eql (.t 53) (.c (.int .i64 9)), (some (52, false)), 0, 15⟩,
  ⟨(some 55), .pick (.t 52) (.c (.bool true)) (.t 54), none, 0, 31⟩,
  ⟨(some 49), .move (.t 55), none, 0, 63⟩]
def f11r12 : List AOper := [
  ⟨(some 4), .move (.c (.int .i64 9)), none, 0, 0⟩,
  ⟨(some 5), .move (.c (.int .i64 0)), none, 0, 1⟩]
def f11r13 : List AOper := [
  ⟨(some 4), .move (.c (.int .i64 8)), none, 0, 0⟩,
  ⟨(some 5), .move (.c (.int .i64 0)), none, 0, 1⟩]
def f11c : ACode :=
  .seq (.region false f11r0 [0, 1] 0)
  (.seq (.seq (.region false f11r1 [0, 1, 15] 0)
  (.cond (.t 15)
    (.seq (.region false f11r2 [4, 5] 0)
    (.ret))
    (.skip)))
  (.seq (.region false f11r3 [1, 6] 0)
  (.seq (.region false f11r4 [6, 7] 0)
  (.seq (.block 0 (.seq (.region false f11r5 [6, 7, 20] 0)
    (.cond (.t 20)
      (.seq (.region false f11r6 [4, 5] 0)
      (.ret))
      (.seq (.region false f11r7 [6, 7, 27] 0)
      (.cond (.t 27)
        (.seq (.region false f11r8 [4, 5] 0)
        (.ret))
        (.seq (.region false f11r9 [6, 7, 42] 0)
        (.cond (.t 42)
          (.seq (.region false f11r10 [4, 5] 0)
          (.ret))
          (.seq (.region false f11r11 [49] 0)
          (.cond (.t 49)
            (.seq (.region false f11r12 [4, 5] 0)
            (.ret))
            (.skip))))))))))
  (.seq (.region false f11r13 [4, 5] 0)
  (.ret))))))
def f11 : AFn := ⟨2, 56, [.tmp 4, .tmp 5], f11c, 1⟩
def f11k : List (Nat × List Nat) := [(0, [0, 1]), (1, [0, 1, 15]), (2, [4, 5]), (3, [1, 6]), (4, [6, 7]), (5, [6, 7, 20]), (7, [6, 7, 27]), (9, [6, 7, 42]), (11, [49]), (12, [4, 5]), (10, [4, 5]), (8, [4, 5]), (6, [4, 5]), (13, [4, 5])]
def f11v : List Nat := []

/-! 12: mortise/mortiseref07.Fold, parameters [23, 27, 22, 22], results [22, 3] -/
def f12r0 : List AOper := [
  ⟨(some 8), .move (.c (.int .u32 0)), none, 0, 0⟩,
  ⟨(some 9), .move (.c (.int .i64 0)), none, 0, 1⟩]
def f12r1 : List AOper := [
  ⟨(some 12), .move (.t 0), none, 0, 0⟩,
  ⟨(some 13), .call (.c (.fn 31 [] [])) [(.t 12)], none, 0, 1⟩,
  ⟨(some 14), .un .not (.t 13), none, 0, 3⟩,
  ⟨(some 15), .move (.t 14), none, 0, 7⟩,
  ⟨(some 16), .move (.t 1), (some (15, false)), 0, 15⟩,
  ⟨(some 17), .call (.c (.fn 32 [] [])) [(.t 16)], (some (15, false)), 0, 31⟩,
  ⟨(some 18), .bin .eql (.t 17) (.c (.str [])), (some (15, false)), 0, 63⟩,
  ⟨(some 19), .pick (.t 15) (.c (.bool true)) (.t 18), none, 0, 127⟩]
def f12r2 : List AOper := [
  ⟨(some 8), .move (.c (.int .u32 0)), none, 0, 0⟩,
  ⟨(some 9), .move (.c (.int .i64 70)), none, 0, 1⟩]
def f12r3 : List AOper := [
  ⟨(some 21), .move (.t 1), none, 0, 0⟩,
  ⟨(some 22), .move (.t 2), none, 0, 0⟩,
  ⟨(some 23), .move (.t 3), none, 0, 0⟩,
  ⟨(some 24), .call (.c (.fn 33 [] [])) [(.t 21), (.t 22), (.t 23)], none, 0, 7⟩,
  ⟨(some 20), .move (.t 24), none, 0, 15⟩,
  ⟨(some 25), .extract (.t 20) 0, none, 0, 31⟩,
  ⟨(some 26), .extract (.t 20) 1, none, 0, 31⟩,
  ⟨(some 10), .move (.t 25), none, 0, 63⟩,
  ⟨(some 11), .move (.t 26), none, 0, 255⟩]
def f12r4 : List AOper := [
  ⟨(some 27), .move (.t 11), none, 0, 0⟩,
  ⟨(some 28), .un .not (.t 27), none, 0, 1⟩]
def f12r5 : List AOper := [
  ⟨(some 8), .move (.c (.int .u32 0)), none, 0, 0⟩,
  ⟨(some 9), .move (.c (.int .i64 71)), none, 0, 1⟩]
def f12r6 : List AOper := [
  ⟨(some 29), .move (.t 0), none, 0, 0⟩,
  ⟨(some 30), .move (.t 10), none, 0, 0⟩,
  ⟨(some 31), .call (.c (.fn 34 [] [])) [(.t 29), (.t 30)], none, 0, 3⟩,
  ⟨(some 8), .move (.t 31), none, 0, 7⟩,
  ⟨(some 9), .move (.c (.int .i64 0)), none, 0, 15⟩]
def f12c : ACode :=
  .seq (.region false f12r0 [0, 1, 2, 3] 0)
  (.seq (.seq (.region false f12r1 [0, 1, 2, 3, 19] 0)
  (.cond (.t 19)
    (.seq (.region false f12r2 [8, 9] 0)
    (.ret))
    (.skip)))
  (.seq (.region false f12r3 [0, 10, 11] 0)
  (.seq (.seq (.region false f12r4 [0, 10, 28] 0)
  (.cond (.t 28)
    (.seq (.region false f12r5 [8, 9] 0)
    (.ret))
    (.skip)))
  (.seq (.region false f12r6 [8, 9] 0)
  (.ret)))))
def f12 : AFn := ⟨4, 32, [.tmp 8, .tmp 9], f12c, 1⟩
def f12k : List (Nat × List Nat) := [(0, [0, 1, 2, 3]), (1, [0, 1, 2, 3, 19]), (2, [8, 9]), (3, [0, 10, 11]), (4, [0, 10, 28]), (5, [8, 9]), (6, [8, 9])]
def f12v : List Nat := []

/-! 13: mortise/conv.Promote, parameters [23, 3], results [23] -/
def f13r0 : List AOper := [
  ⟨(some 4), .move (.c (.int .i64 0)), none, 0, 0⟩]
def f13r1 : List AOper := [
  ⟨(some 6), .move (.t 0), none, 0, 0⟩,
  ⟨(some 7), .call (.c (.fn 16 [] [])) [(.t 6)], none, 0, 1⟩,
  ⟨(some 8), .un .not (.t 7), none, 0, 3⟩,
  ⟨(some 5), .move (.t 8), none, 0, 7⟩]
def f13r2 : List AOper := [
  ⟨(some 10), .move (.t 1), none, 0, 0⟩,
  ⟨(some 11), .bin .geq (.t 10) (.c (.int .i64 0)), none, 0, 1⟩,
  ⟨(some 12), .move (.t 11), none, 0, 3⟩,
  ⟨(some 13), .move (.t 1), (some (12, true)), 0, 7⟩,
  ⟨(some 14), .bin .leq (.t 13) (.c (.int .i64 31)), (some (12, true)), 0, 15⟩,
  ⟨(some 15), .pick (.t 12) (.t 14) (.c (.bool false)), none, 0, 31⟩,
  ⟨(some 9), .move (.t 15), none, 0, 63⟩]
def f13r3 : List AOper := [
  ⟨(some 16), .move (.t 0), none, 0, 0⟩,
  ⟨(some 17), .bin .leq (.t 16) (.c (.int .i64 7)), none, 0, 1⟩,
  ⟨(some 9), .move (.t 17), none, 0, 3⟩]
def f13r4 : List AOper := [
  ⟨(some 18), .move (.t 0), none, 0, 0⟩,
  ⟨(some 19), .bin .eql (.t 18) (.c (.int .i64 12)), none, 0, 1⟩,
  ⟨(some 9), .move (.t 19), none, 0, 3⟩]
def f13r5 : List AOper := [
  ⟨(some 4), .move (.c (.int .i64 8)), none, 0, 0⟩]
def f13r6 : List AOper := [
  ⟨(some 20), .move (.t 0), none, 0, 0⟩,
  ⟨(some 4), .move (.t 20), none, 0, 1⟩]
def f13c : ACode :=
  .seq (.region false f13r0 [0, 1] 0)
  (.seq (.block 0 (.seq (.region false f13r1 [0, 1, 5] 0)
    (.cond (.t 5)
      (.skip)
      (.seq (.seq (.region false f13r2 [0, 9] 0)
      (.cond (.t 9)
        (.skip)
        (.seq (.region false f13r3 [0, 9] 0)
        (.cond (.t 9)
          (.skip)
          (.region false f13r4 [0, 9] 0)))))
      (.cond (.t 9)
        (.seq (.region false f13r5 [4] 0)
        (.ret))
        (.skip))))))
  (.seq (.region false f13r6 [4] 0)
  (.ret)))
def f13 : AFn := ⟨2, 21, [.tmp 4], f13c, 1⟩
def f13k : List (Nat × List Nat) := [(0, [0, 1]), (1, [0, 1, 5]), (2, [0, 9]), (3, [0, 9]), (4, [0, 9]), (5, [4]), (6, [4])]
def f13v : List Nat := []

/-! 14: mortise/mortiseref07.Promote, parameters [23, 3], results [23] -/
def f14r0 : List AOper := [
  ⟨(some 4), .move (.c (.int .i64 0)), none, 0, 0⟩]
def f14r1 : List AOper := [
  ⟨(some 5), .move (.t 0), none, 0, 0⟩,
  ⟨(some 6), .call (.c (.fn 31 [] [])) [(.t 5)], none, 0, 1⟩,
  ⟨(some 7), .un .not (.t 6), none, 0, 3⟩]
def f14r2 : List AOper := [
  ⟨(some 8), .move (.t 0), none, 0, 0⟩,
  ⟨(some 4), .move (.t 8), none, 0, 1⟩]
def f14r3 : List AOper := [
  ⟨(some 9), .move (.t 0), none, 0, 0⟩,
  ⟨(some 10), .call (.c (.fn 35 [] [])) [(.t 9)], none, 0, 1⟩,
  ⟨(some 11), .bin .lss (.t 10) (.c (.int .i64 4)), none, 0, 3⟩,
  ⟨(some 12), .move (.t 11), none, 0, 7⟩,
  ⟨(some 13), .move (.t 0), (some (12, false)), 0, 15⟩,
  ⟨(some 14), .bin .eql (.t 13) (.c (.int .i64 12)), (some (12, false)), 0, 31⟩,
  ⟨(some 15), .pick (.t 12) (.c (.bool true)) (.t 14), none, 0, 63⟩,
  ⟨(some 16), .move (.t 15), none, 0, 127⟩,
  ⟨(some 17), .move (.t 1), (some (16, false)), 0, 255⟩,
  ⟨(some 18), .bin .geq (.t 17) (.c (.int .i64 0)), (some (16, false)), 0, 511⟩,
  ⟨(some 19), .move (.t 18), (some (16, false)), 0, 1023⟩,
  ⟨(some 20), .move (.t 1), (some (19, true)), 0, 2047⟩,
  ⟨(some 21), .bin .leq (.t 20) (.c (.int .i64 31)), (some (19, true)), 0, 4095⟩,
  ⟨(some 22), .pick (.t 19) (.t 21) (.c (.bool false)), (some (16, false)), 0, 8191⟩,
  ⟨(some 23), .pick (.t 16) (.c (.bool true)) (.t 22), none, 0, 16383⟩]
def f14r4 : List AOper := [
  ⟨(some 4), .move (.c (.int .i64 8)), none, 0, 0⟩]
def f14r5 : List AOper := [
  ⟨(some 24), .move (.t 0), none, 0, 0⟩,
  ⟨(some 4), .move (.t 24), none, 0, 1⟩]
def f14c : ACode :=
  .seq (.region false f14r0 [0, 1] 0)
  (.seq (.seq (.region false f14r1 [0, 1, 7] 0)
  (.cond (.t 7)
    (.seq (.region false f14r2 [4] 0)
    (.ret))
    (.skip)))
  (.seq (.seq (.region false f14r3 [0, 23] 0)
  (.cond (.t 23)
    (.seq (.region false f14r4 [4] 0)
    (.ret))
    (.skip)))
  (.seq (.region false f14r5 [4] 0)
  (.ret))))
def f14 : AFn := ⟨2, 25, [.tmp 4], f14c, 1⟩
def f14k : List (Nat × List Nat) := [(0, [0, 1]), (1, [0, 1, 7]), (2, [4]), (3, [0, 23]), (4, [4]), (5, [4])]
def f14v : List Nat := []

/-! 15: mortise/mortiselaw07.nobody, parameters [41, 9, 3, 3], results [4] -/
def f15r0 : List AOper := [
  ⟨(some 8), .move (.c (.bool false)), none, 0, 0⟩]
def f15r1 : List AOper := [
  ⟨(some 17), .move (.t 0), none, 0, 0⟩,
  ⟨(some 18), .move (.t 1), none, 0, 0⟩,
  ⟨(some 19), .move (.t 2), none, 0, 0⟩,
  ⟨(some 20), .move (.t 3), none, 0, 0⟩,
  ⟨(some 21), .call (.c (.fn 22 [] [])) [(.t 17), (.t 18), (.t 19), (.t 20)], none, 0, 15⟩,
  ⟨(some 16), .move (.t 21), none, 0, 31⟩,
  ⟨(some 22), .extract (.t 16) 0, none, 0, 63⟩,
  ⟨(some 23), .extract (.t 16) 1, none, 0, 63⟩,
  ⟨(some 9), .alloc false (List.replicate 5 (.int .i64 0)), none, 0, 0⟩,
  ⟨none, .store 5 (.t 9) (.t 22), none, 1, 383⟩,
  ⟨(some 10), .move (.t 23), none, 1, 1023⟩]
def f15r2 : List AOper := [
  ⟨(some 25), .move (.t 0), none, 0, 0⟩,
  ⟨(some 26), .move (.t 1), none, 0, 0⟩,
  ⟨(some 27), .move (.t 2), none, 0, 0⟩,
  ⟨(some 28), .call (.c (.fn 23 [] [])) [(.t 25), (.t 26), (.t 27)], none, 0, 7⟩,
  ⟨(some 24), .move (.t 28), none, 0, 15⟩,
  ⟨(some 29), .extract (.t 24) 0, none, 0, 31⟩,
  ⟨(some 30), .extract (.t 24) 1, none, 0, 31⟩,
  ⟨(some 11), .move (.t 29), none, 0, 63⟩,
  ⟨(some 12), .move (.t 30), none, 0, 255⟩]
def f15r3 : List AOper := [
  ⟨(some 32), .move (.t 0), none, 0, 0⟩,
  ⟨(some 33), .move (.t 2), none, 0, 0⟩,
  ⟨(some 34), .move (.t 3), none, 0, 0⟩,
  ⟨(some 35), .call (.c (.fn 24 [] [])) [(.t 32), (.t 33), (.t 34)], none, 0, 7⟩,
  ⟨(some 31), .move (.t 35), none, 0, 15⟩,
  ⟨(some 36), .extract (.t 31) 0, none, 0, 31⟩,
  ⟨(some 37), .extract (.t 31) 1, none, 0, 31⟩,
  ⟨(some 13), .move (.t 36), none, 0, 63⟩,
  ⟨(some 14), .move (.t 37), none, 0, 255⟩]
def f15r4 : List AOper := [
  ⟨(some 15), .move (.c (.int .i64 1)), none, 0, 0⟩]
def f15r5 : List AOper := [
  ⟨(some 38), .load true 5 (.t 9), none, 0, 0⟩,
  ⟨(some 39), .build (List.replicate 5 (.int .i64 0)) [], none, 0, 0⟩,
  ⟨(some 40), .eq false (.agg [.int .i64, .int .i64, .int .i64, .int .i64, .int .i64]) (.t 38) (.t 39), none, 0, 3⟩,
  ⟨(some 41), .move (.t 40), none, 0, 7⟩,
  ⟨(some 42), .move (.t 11), (some (41, true)), 0, 15⟩,
  ⟨(some 43), .bin .eql (.t 42) (.c (.int .i64 0)), (some (41, true)), 0, 31⟩,
  ⟨(some 44), .pick (.t 41) (.t 43) (.c (.bool false)), none, 0, 63⟩,
  ⟨(some 45), .move (.t 44), none, 0, 127⟩,
  ⟨(some 46), .move (.t 13), (some (45, true)), 0, 255⟩,
  ⟨(some 47), .bin .eql (.t 46) (.c (.int .i64 0)), (some (45, true)), 0, 511⟩,
  ⟨(some 48), .pick (.t 45) (.t 47) (.c (.bool false)), none, 0, 1023⟩,
  ⟨(some 49), .move (.t 48), none, 0, 2047⟩,
  ⟨(some 50), .move (.t 10), (some (49, true)), 0, 4095⟩,
  ⟨(some 51), .move (.t 15), (some (49, true)), 0, 4095⟩,
  ⟨(some 52), .bin .eql (.t 50) (.t 51), (some (49, true)), 0, 16383⟩,
  ⟨(some 53), .pick (.t 49) (.t 52) (.c (.bool false)), none, 0, 32767⟩,
  ⟨(some 54), .move (.t 53), none, 0, 65535⟩,
  ⟨(some 55), .move (.t 12), (some (54, true)), 0, 131071⟩,
  ⟨(some 56), .move (.t 15), (some (54, true)), 0, 131071⟩,
  ⟨(some 57), .bin .eql (.t 55) (.t 56), (some (54, true)), 0, 524287⟩,
  ⟨(some 58), .pick (.t 54) (.t 57) (.c (.bool false)), none, 0, 1048575⟩,
  ⟨(some 59), .move (.t 58), none, 0, 2097151⟩,
  ⟨(some 60), .move (.t 14), (some (59, true)), 0, 4194303⟩,
  ⟨(some 61), .move (.t 15), (some (59, true)), 0, 4194303⟩,
  ⟨(some 62), .bin .eql (.t 60) (.t 61), (some (59, true)), 0, 16777215⟩,
  ⟨(some 63), .pick (.t 59) (.t 62) (.c (.bool false)), none, 0, 33554431⟩,
  ⟨(some 64), .move (.t 63), none, 0, 67108863⟩,
  ⟨(some 65), .move (.t 0), (some (64, true)), 0, 134217727⟩,
  ⟨(some 66), .move (.t 2), (some (64, true)), 0, 134217727⟩,
  ⟨(some 67), .move (.t 3), (some (64, true)), 0, 134217727⟩,
  ⟨(some 68), .call (.c (.fn 25 [] [])) [(.t 65), (.t 66), (.t 67)], (some (64, true)), 0, 1073741823⟩,
  ⟨(some 69), .move (.t 15), (some (64, true)), 0, 134217727⟩,
  ⟨(some 70), .bin .eql (.t 68) (.t 69), (some (64, true)), 0, 4294967295⟩,
  ⟨(some 71), .pick (.t 64) (.t 70) (.c (.bool false)), none, 0, 8589934591⟩,
  ⟨(some 72), .move (.t 71), none, 0, 17179869183⟩,
  ⟨(some 73), .move (.t 0), (some (72, true)), 0, 34359738367⟩,
  ⟨(some 74), .move (.t 2), (some (72, true)), 0, 34359738367⟩,
  ⟨(some 75), .move (.t 3), (some (72, true)), 0, 34359738367⟩,
  ⟨(some 76), .call (.c (.fn 26 [] [])) [(.t 73), (.t 74), (.t 75)], (some (72, true)), 0, 274877906943⟩,
  ⟨(some 77), .move (.t 15), (some (72, true)), 0, 34359738367⟩,
  ⟨(some 78), .bin .eql (.t 76) (.t 77), (some (72, true)), 0, 1099511627775⟩,
  ⟨(some 79), .pick (.t 72) (.t 78) (.c (.bool false)), none, 0, 2199023255551⟩,
  ⟨(some 8), .move (.t 79), none, 0, 4398046511103⟩]
def f15c : ACode :=
  .seq (.region false f15r0 [0, 1, 2, 3] 0)
  (.seq (.region false f15r1 [0, 1, 2, 3, 9, 10] 1)
  (.seq (.region false f15r2 [0, 2, 3, 9, 10, 11, 12] 0)
  (.seq (.region false f15r3 [0, 2, 3, 9, 10, 11, 12, 13, 14] 0)
  (.seq (.region false f15r4 [0, 2, 3, 9, 10, 11, 12, 13, 14, 15] 0)
  (.seq (.region false f15r5 [8] 0)
  (.ret))))))
def f15 : AFn := ⟨4, 80, [.tmp 8], f15c, 1⟩
def f15k : List (Nat × List Nat) := [(0, [0, 1, 2, 3]), (1, [0, 1, 2, 3, 9, 10]), (2, [0, 2, 3, 9, 10, 11, 12]), (3, [0, 2, 3, 9, 10, 11, 12, 13, 14]), (4, [0, 2, 3, 9, 10, 11, 12, 13, 14, 15]), (5, [8])]
def f15v : List Nat := []

/-! 16: mortise/conv.integer, parameters [23], results [4] -/
def f16r0 : List AOper := [
  ⟨(some 2), .move (.c (.bool false)), none, 0, 0⟩]
def f16r1 : List AOper := [
  ⟨(some 3), .move (.t 0), none, 0, 0⟩,
  ⟨(some 4), .bin .geq (.t 3) (.c (.int .i64 2)), none, 0, 1⟩,
  ⟨(some 5), .move (.t 4), none, 0, 3⟩,
  ⟨(some 6), .move (.t 0), (some (5, true)), 0, 7⟩,
  ⟨(some 7), .bin .leq (.t 6) (.c (.int .i64 12)), (some (5, true)), 0, 15⟩,
  ⟨(some 8), .pick (.t 5) (.t 7) (.c (.bool false)), none, 0, 31⟩,
  ⟨(some 2), .move (.t 8), none, 0, 63⟩]
def f16c : ACode :=
  .seq (.region false f16r0 [0] 0)
  (.seq (.region false f16r1 [2] 0)
  (.ret))
def f16 : AFn := ⟨1, 9, [.tmp 2], f16c, 1⟩
def f16k : List (Nat × List Nat) := [(0, [0]), (1, [2])]
def f16v : List Nat := []

/-! 17: mortise/word.Name, parameters [27], results [9] -/
def f17r0 : List AOper := [
  ⟨(some 2), .move (.c (.str [])), none, 0, 0⟩]
def f17r1 : List AOper := [
  ⟨(some 4), .build (List.replicate 19 (.str [])) [(0, 1, (.c (.str [97, 100, 100]))), (1, 1, (.c (.str [115, 117, 98]))), (2, 1, (.c (.str [109, 117, 108]))), (3, 1, (.c (.str [100, 105, 118, 115]))), (4, 1, (.c (.str [100, 105, 118, 117]))), (5, 1, (.c (.str [114, 101, 109, 115]))), (6, 1, (.c (.str [114, 101, 109, 117]))), (7, 1, (.c (.str [97, 110, 100]))), (8, 1, (.c (.str [111, 114]))), (9, 1, (.c (.str [120, 111, 114]))), (10, 1, (.c (.str [115, 104, 108]))), (11, 1, (.c (.str [115, 104, 114, 115]))), (12, 1, (.c (.str [115, 104, 114, 117]))), (13, 1, (.c (.str [101, 113]))), (14, 1, (.c (.str [110, 101]))), (15, 1, (.c (.str [108, 116, 115]))), (16, 1, (.c (.str [108, 116, 117]))), (17, 1, (.c (.str [108, 101, 115]))), (18, 1, (.c (.str [108, 101, 117])))], none, 0, 0⟩,
  ⟨(some 3), .alloc false (List.replicate 19 (.str [])), none, 0, 0⟩,
  ⟨none, .store 19 (.t 3) (.t 4), none, 1, 3⟩]
def f17r2 : List AOper := [
  ⟨(some 5), .move (.t 0), none, 0, 0⟩,
  ⟨(some 6), .bin .lss (.t 5) (.c (.int .i64 1)), none, 0, 1⟩,
  ⟨(some 7), .move (.t 6), none, 0, 3⟩,
  ⟨(some 8), .move (.t 0), (some (7, false)), 0, 7⟩,
  ⟨(some 9), .bin .gtr (.t 8) (.c (.int .i64 19)), (some (7, false)), 0, 15⟩,
  ⟨(some 10), .pick (.t 7) (.c (.bool true)) (.t 9), none, 0, 31⟩]
def f17r3 : List AOper := [
  ⟨(some 2), .move (.c (.str [])), none, 0, 0⟩]
def f17r4 : List AOper := [
  ⟨(some 11), .move (.t 0), none, 0, 0⟩,
  ⟨(some 12), .bin .sub (.t 11) (.c (.int .i64 1)), none, 0, 1⟩,
  ⟨(some 13), .idxArr 19 1 (.t 3) (.t 12), none, 0, 3⟩,
  ⟨(some 14), .load false 1 (.t 13), none, 0, 7⟩,
  ⟨(some 2), .move (.t 14), none, 0, 15⟩]
def f17c : ACode :=
  .seq (.region false f17r0 [0] 0)
  (.seq (.region false f17r1 [0, 3] 1)
  (.seq (.seq (.region false f17r2 [0, 3, 10] 0)
  (.cond (.t 10)
    (.seq (.region false f17r3 [2] 0)
    (.ret))
    (.skip)))
  (.seq (.region false f17r4 [2] 0)
  (.ret))))
def f17 : AFn := ⟨1, 15, [.tmp 2], f17c, 1⟩
def f17k : List (Nat × List Nat) := [(0, [0]), (1, [0, 3]), (2, [0, 3, 10]), (3, [2]), (4, [2])]
def f17v : List Nat := []

/-! 18: mortise/word.divided, parameters [27, 22, 22], results [22] -/
def f18r0 : List AOper := [
  ⟨(some 6), .move (.c (.int .u32 0)), none, 0, 0⟩]
def f18r1 : List AOper := [
  ⟨(some 9), .move (.t 1), none, 0, 0⟩,
  ⟨(some 10), .conv .i32 (.t 9), none, 0, 1⟩,
  ⟨(some 11), .conv .i64 (.t 10), none, 0, 3⟩,
  ⟨(some 12), .move (.t 2), none, 0, 0⟩,
  ⟨(some 13), .conv .i32 (.t 12), none, 0, 8⟩,
  ⟨(some 14), .conv .i64 (.t 13), none, 0, 24⟩,
  ⟨(some 7), .move (.t 11), none, 0, 7⟩,
  ⟨(some 8), .move (.t 14), none, 0, 127⟩]
def f18r2 : List AOper := [
  ⟨(some 15), .move (.t 0), none, 0, 0⟩]
def f18r3 : List AOper := [
  ⟨(some 17), .bin .eql (.t 15) (.c (.int .i64 5)), none, 0, 0⟩,
  ⟨(some 16), .move (.t 17), none, 0, 1⟩]
def f18r4 : List AOper := [
  ⟨(some 18), .move (.t 1), none, 0, 0⟩,
  ⟨(some 19), .move (.t 2), none, 0, 0⟩,
  ⟨(some 20), .bin .quo (.t 18) (.t 19), none, 0, 3⟩,
  ⟨(some 6), .move (.t 20), none, 0, 7⟩]
def f18r5 : List AOper := [
  ⟨(some 22), .bin .eql (.t 15) (.c (.int .i64 7)), none, 0, 0⟩,
  ⟨(some 21), .move (.t 22), none, 0, 1⟩]
def f18r6 : List AOper := [
  ⟨(some 23), .move (.t 1), none, 0, 0⟩,
  ⟨(some 24), .move (.t 2), none, 0, 0⟩,
  ⟨(some 25), .bin .rem (.t 23) (.t 24), none, 0, 3⟩,
  ⟨(some 6), .move (.t 25), none, 0, 7⟩]
def f18r7 : List AOper := [
  ⟨(some 27), .bin .eql (.t 15) (.c (.int .i64 6)), none, 0, 0⟩,
  ⟨(some 26), .move (.t 27), none, 0, 1⟩]
def f18r8 : List AOper := [
  ⟨(some 28), .move (.t 7), none, 0, 0⟩,
  ⟨(some 29), .move (.t 8), none, 0, 0⟩,
  ⟨(some 30), .bin .rem (.t 28) (.t 29), none, 0, 3⟩,
  ⟨(some 31), .conv .u32 (.t 30), none, 0, 7⟩,
  ⟨(some 6), .move (.t 31), none, 0, 15⟩]
def f18r9 : List AOper := [
  ⟨(some 32), .move (.t 7), none, 0, 0⟩,
  ⟨(some 33), .move (.t 8), none, 0, 0⟩,
  ⟨(some 34), .bin .quo (.t 32) (.t 33), none, 0, 3⟩,
  ⟨(some 35), .conv .u32 (.t 34), none, 0, 7⟩,
  ⟨(some 6), .move (.t 35), none, 0, 15⟩]
def f18c : ACode :=
  .seq (.region false f18r0 [0, 1, 2] 0)
  (.seq (.region false f18r1 [0, 1, 2, 7, 8] 0)
  (.seq (.seq (.region false f18r2 [1, 2, 7, 8, 15] 0)
  (.block 0 (.seq (.region false f18r3 [1, 2, 7, 8, 15, 16] 0)
    (.cond (.t 16)
      (.seq (.region false f18r4 [6] 0)
      (.ret))
      (.seq (.region false f18r5 [1, 2, 7, 8, 15, 21] 0)
      (.cond (.t 21)
        (.seq (.region false f18r6 [6] 0)
        (.ret))
        (.seq (.region false f18r7 [7, 8, 26] 0)
        (.cond (.t 26)
          (.seq (.region false f18r8 [6] 0)
          (.ret))
          (.skip)))))))))
  (.seq (.region false f18r9 [6] 0)
  (.ret))))
def f18 : AFn := ⟨3, 36, [.tmp 6], f18c, 1⟩
def f18k : List (Nat × List Nat) := [(0, [0, 1, 2]), (1, [0, 1, 2, 7, 8]), (2, [1, 2, 7, 8, 15]), (3, [1, 2, 7, 8, 15, 16]), (5, [1, 2, 7, 8, 15, 21]), (7, [7, 8, 26]), (8, [6]), (6, [6]), (4, [6]), (9, [6])]
def f18v : List Nat := [35, 31, 14, 13, 11, 10]

/-! 19: mortise/word.flag, parameters [4], results [22] -/
def f19r0 : List AOper := [
  ⟨(some 2), .move (.c (.int .u32 0)), none, 0, 0⟩]
def f19r1 : List AOper := [
  ⟨(some 3), .move (.t 0), none, 0, 0⟩]
def f19r2 : List AOper := [
  ⟨(some 2), .move (.c (.int .u32 1)), none, 0, 0⟩]
def f19r3 : List AOper := [
  ⟨(some 2), .move (.c (.int .u32 0)), none, 0, 0⟩]
def f19c : ACode :=
  .seq (.region false f19r0 [0] 0)
  (.seq (.seq (.region false f19r1 [3] 0)
  (.cond (.t 3)
    (.seq (.region false f19r2 [2] 0)
    (.ret))
    (.skip)))
  (.seq (.region false f19r3 [2] 0)
  (.ret)))
def f19 : AFn := ⟨1, 4, [.tmp 2], f19c, 1⟩
def f19k : List (Nat × List Nat) := [(0, [0]), (1, [3]), (2, [2]), (3, [2])]
def f19v : List Nat := []

/-! 20: mortise/ctype.New, parameters [], results [41] -/
def f20r0 : List AOper := [
  ⟨(some 0), .move (.c .nilp), none, 0, 0⟩]
def f20r1 : List AOper := [
  ⟨(some 3), .mkMap, none, 0, 0⟩,
  ⟨(some 4), .build [(.is [] .nil), .nilm] [(1, 1, (.t 3))], none, 1, 1⟩,
  ⟨(some 5), .box false (.t 4), none, 1, 3⟩,
  ⟨(some 1), .move (.t 5), none, 2, 7⟩]
def f20r2 : List AOper := [
  ⟨(some 2), .move (.c (.int .i64 1)), none, 0, 0⟩]
def f20r3 : List AOper := [
  ⟨(some 6), .move (.t 2), none, 0, 0⟩,
  ⟨(some 7), .bin .leq (.t 6) (.c (.int .i64 11)), none, 0, 1⟩]
def f20r4 : List AOper := [
  ⟨(some 10), .move (.t 1), none, 0, 0⟩,
  ⟨(some 11), .move (.t 1), none, 0, 0⟩,
  ⟨(some 12), .nilCheck (.t 11), none, 0, 2⟩,
  ⟨(some 13), .fieldAddr 0 (.t 12), none, 0, 6⟩,
  ⟨(some 14), .load false 1 (.t 13), none, 0, 14⟩,
  ⟨(some 15), .move (.t 2), none, 0, 0⟩,
  ⟨(some 16), .build [(.int .i64 0), (.int .i64 0), (.int .i64 0), (.str []), (.is [] .nil), (.bool false)] [(0, 1, (.t 15))], none, 0, 32⟩,
  ⟨(some 17), .buildSlice true 6 1 [(.int .i64 0), (.int .i64 0), (.int .i64 0), (.str []), (.is [] .nil), (.bool false)] [(0, 6, (.t 16))], none, 0, 96⟩,
  ⟨(some 18), .append true 6 72 (.t 14) (.t 17), none, 0, 254⟩,
  ⟨(some 19), .nilCheck (.t 10), none, 1, 511⟩,
  ⟨(some 20), .fieldAddr 0 (.t 19), none, 1, 1023⟩,
  ⟨none, .store 1 (.t 20) (.t 18), none, 1, 2047⟩]
def f20r5 : List AOper := [
  ⟨(some 8), .move (.t 2), none, 0, 0⟩,
  ⟨(some 9), .bin .add (.t 8) (.c (.int .i64 1)), none, 0, 1⟩,
  ⟨(some 2), .move (.t 9), none, 0, 3⟩]
def f20l3 : ACode :=
  .seq (.seq (.region false f20r3 [1, 2, 7] 0)
  (.cond (.t 7)
    (.skip)
    (.exit 0)))
  (.seq (.block 1 (.region false f20r4 [1, 2] 1))
  (.region false f20r5 [1, 2] 0))
def f20r6 : List AOper := [
  ⟨(some 21), .move (.t 1), none, 0, 0⟩,
  ⟨(some 0), .move (.t 21), none, 0, 1⟩]
def f20c : ACode :=
  .seq (.region false f20r0 [] 0)
  (.seq (.region false f20r1 [1] 2)
  (.seq (.seq (.region false f20r2 [1, 2] 0)
  (.block 0 (.loop f20l3)))
  (.seq (.region false f20r6 [0] 0)
  (.ret))))
def f20 : AFn := ⟨0, 22, [.tmp 0], f20c, 0⟩
def f20k : List (Nat × List Nat) := [(0, []), (1, [1]), (2, [1, 2]), (3, [1, 2, 7]), (5, [1, 2]), (4, [1, 2]), (6, [0])]
def f20v : List Nat := [18, 17]

/-! 21: (*mortise/ctype.Table).Ptr, parameters [41, 3], results [3, 24] -/
def f21r0 : List AOper := [
  ⟨(some 4), .move (.c (.int .i64 0)), none, 0, 0⟩,
  ⟨(some 5), .move (.c (.int .i64 0)), none, 0, 1⟩]
def f21r1 : List AOper := [
  ⟨(some 7), .move (.t 0), none, 0, 0⟩,
  ⟨(some 8), .call (.c (.fn 36 [] [])) [(.t 7)], none, 0, 1⟩,
  ⟨(some 9), .un .not (.t 8), none, 0, 3⟩,
  ⟨(some 6), .move (.t 9), none, 0, 7⟩]
def f21r2 : List AOper := [
  ⟨(some 4), .move (.c (.int .i64 0)), none, 0, 0⟩,
  ⟨(some 5), .move (.c (.int .i64 1)), none, 0, 1⟩]
def f21r3 : List AOper := [
  ⟨(some 11), .move (.t 0), none, 0, 0⟩,
  ⟨(some 12), .move (.t 1), none, 0, 0⟩,
  ⟨(some 13), .call (.c (.fn 37 [] [])) [(.t 11), (.t 12)], none, 0, 3⟩,
  ⟨(some 14), .un .not (.t 13), none, 0, 7⟩,
  ⟨(some 10), .move (.t 14), none, 0, 15⟩]
def f21r4 : List AOper := [
  ⟨(some 4), .move (.c (.int .i64 0)), none, 0, 0⟩,
  ⟨(some 5), .move (.c (.int .i64 30)), none, 0, 1⟩]
def f21r5 : List AOper := [
  ⟨(some 15), .move (.t 0), none, 0, 0⟩,
  ⟨(some 16), .move (.t 1), none, 0, 0⟩,
  ⟨(some 17), .build [(.int .i64 0), (.int .i64 0), (.int .i64 0)] [(0, 1, (.c (.int .i64 13))), (1, 1, (.t 16)), (2, 1, (.c (.int .i64 0)))], none, 0, 2⟩,
  ⟨(some 18), .call (.c (.fn 38 [] [])) [(.t 15), (.t 17)], none, 0, 7⟩,
  ⟨(some 19), .extract (.t 18) 0, none, 0, 15⟩,
  ⟨(some 20), .extract (.t 18) 1, none, 0, 15⟩,
  ⟨(some 4), .move (.t 19), none, 0, 63⟩,
  ⟨(some 5), .move (.t 20), none, 0, 127⟩]
def f21c : ACode :=
  .seq (.region false f21r0 [0, 1] 0)
  (.seq (.block 0 (.seq (.region false f21r1 [0, 1, 6] 0)
    (.cond (.t 6)
      (.seq (.region false f21r2 [4, 5] 0)
      (.ret))
      (.seq (.region false f21r3 [0, 1, 10] 0)
      (.cond (.t 10)
        (.seq (.region false f21r4 [4, 5] 0)
        (.ret))
        (.skip))))))
  (.seq (.region false f21r5 [4, 5] 0)
  (.ret)))
def f21 : AFn := ⟨2, 21, [.tmp 4, .tmp 5], f21c, 1⟩
def f21k : List (Nat × List Nat) := [(0, [0, 1]), (1, [0, 1, 6]), (3, [0, 1, 10]), (4, [4, 5]), (2, [4, 5]), (5, [4, 5])]
def f21v : List Nat := []

/-! 22: mortise/conv.Binary, parameters [41, 9, 3, 3], results [56, 24] -/
def f22r0 : List AOper := [
  ⟨(some 8), .alloc false (List.replicate 5 (.int .i64 0)), none, 0, 0⟩,
  ⟨(some 9), .move (.c (.int .i64 0)), none, 1, 0⟩]
def f22r1 : List AOper := [
  ⟨(some 13), .move (.t 0), none, 0, 0⟩,
  ⟨(some 14), .move (.t 2), none, 0, 0⟩,
  ⟨(some 15), .move (.t 3), none, 0, 0⟩,
  ⟨(some 16), .buildSlice true 1 2 [(.int .i64 0), (.int .i64 0)] [(0, 1, (.t 14)), (1, 1, (.t 15))], none, 0, 6⟩,
  ⟨(some 17), .call (.c (.fn 39 [] [])) [(.t 13), (.t 16)], none, 0, 15⟩,
  ⟨(some 10), .move (.t 17), none, 0, 31⟩]
def f22r2 : List AOper := [
  ⟨(some 18), .move (.t 10), none, 0, 0⟩,
  ⟨(some 19), .bin .neq (.t 18) (.c (.int .i64 0)), none, 0, 1⟩]
def f22r3 : List AOper := [
  ⟨(some 20), .build (List.replicate 5 (.int .i64 0)) [], none, 0, 0⟩,
  ⟨(some 21), .move (.t 10), none, 0, 0⟩,
  ⟨none, .store 5 (.t 8) (.t 20), none, 0, 1⟩,
  ⟨(some 9), .move (.t 21), none, 0, 7⟩]
def f22r4 : List AOper := [
  ⟨(some 22), .move (.t 0), none, 0, 0⟩,
  ⟨(some 23), .build [.nilp] [(0, 1, (.t 22))], none, 0, 1⟩,
  ⟨(some 11), .alloc false [.nilp], none, 0, 0⟩,
  ⟨none, .store 1 (.t 11) (.t 23), none, 1, 7⟩]
def f22r5 : List AOper := [
  ⟨(some 24), .load true 1 (.t 11), none, 0, 0⟩,
  ⟨(some 25), .fn 40 [(.t 24)] [], none, 0, 1⟩,
  ⟨(some 12), .move (.t 25), none, 0, 3⟩]
def f22r6 : List AOper := [
  ⟨(some 27), .move (.t 12), none, 0, 0⟩,
  ⟨(some 28), .move (.t 2), none, 0, 0⟩,
  ⟨(some 29), .call (.t 27) [(.t 28)], none, 0, 3⟩,
  ⟨(some 30), .move (.t 29), none, 0, 7⟩,
  ⟨(some 31), .move (.t 12), (some (30, true)), 0, 15⟩,
  ⟨(some 32), .move (.t 3), (some (30, true)), 0, 15⟩,
  ⟨(some 33), .call (.t 31) [(.t 32)], (some (30, true)), 0, 63⟩,
  ⟨(some 34), .pick (.t 30) (.t 33) (.c (.bool false)), none, 0, 127⟩,
  ⟨(some 26), .move (.t 34), none, 0, 255⟩]
def f22q7 : List AOper := [
  ⟨(some 35), .move (.t 1), none, 0, 0⟩,
  ⟨(some 36), .load true 1 (.t 11), none, 0, 0⟩,
  ⟨(some 37), .move (.t 2), none, 0, 0⟩,
  ⟨(some 38), .call (.c (.fn 42 [] [])) [(.t 36), (.t 37)], none, 0, 6⟩,
  ⟨(some 39), .load true 1 (.t 11), none, 0, 0⟩,
  ⟨(some 40), .move (.t 3), none, 0, 0⟩,
  ⟨(some 41), .call (.c (.fn 42 [] [])) [(.t 39), (.t 40)], none, 0, 62⟩,
  ⟨(some 42), .call (.c (.fn 41 [] [])) [(.t 35), (.t 38), (.t 41)], none, 0, 127⟩,
  ⟨(some 43), .extract (.t 42) 0, none, 0, 255⟩,
  ⟨(some 44), .extract (.t 42) 1, none, 0, 255⟩,
  ⟨none, .store 5 (.t 8) (.t 43), none, 0, 1023⟩,
  ⟨(some 9), .move (.t 44), none, 0, 2047⟩]
def f22r7 : List AOper := f22q7
def f22r8 : List AOper := [
  ⟨(some 46), .load true 1 (.t 11), none, 0, 0⟩,
  ⟨(some 47), .move (.t 2), none, 0, 0⟩,
  ⟨(some 48), .call (.c (.fn 43 [] [])) [(.t 46), (.t 47)], none, 0, 3⟩,
  ⟨(some 49), .move (.t 48), none, 0, 7⟩,
  ⟨(some 50), .load true 1 (.t 11), (some (49, true)), 0, 15⟩,
  ⟨(some 51), .move (.t 3), (some (49, true)), 0, 15⟩,
  ⟨(some 52), .call (.c (.fn 43 [] [])) [(.t 50), (.t 51)], (some (49, true)), 0, 63⟩,
  ⟨(some 53), .pick (.t 49) (.t 52) (.c (.bool false)), none, 0, 127⟩,
  ⟨(some 45), .move (.t 53), none, 0, 255⟩]
def f22r9 : List AOper := [
  ⟨(some 54), .load true 1 (.t 11), none, 0, 0⟩,
  ⟨(some 55), .move (.t 1), none, 0, 0⟩,
  ⟨(some 56), .move (.t 2), none, 0, 0⟩,
  ⟨(some 57), .move (.t 3), none, 0, 0⟩,
  ⟨(some 58), .call (.c (.fn 44 [] [])) [(.t 54), (.t 55), (.t 56), (.t 57)], none, 0, 15⟩,
  ⟨(some 59), .extract (.t 58) 0, none, 0, 31⟩,
  ⟨(some 60), .extract (.t 58) 1, none, 0, 31⟩,
  ⟨none, .store 5 (.t 8) (.t 59), none, 0, 127⟩,
  ⟨(some 9), .move (.t 60), none, 0, 255⟩]
def f22r10 : List AOper := [
  ⟨(some 62), .load true 1 (.t 11), none, 0, 0⟩,
  ⟨(some 63), .move (.t 2), none, 0, 0⟩,
  ⟨(some 64), .call (.c (.fn 43 [] [])) [(.t 62), (.t 63)], none, 0, 3⟩,
  ⟨(some 65), .move (.t 64), none, 0, 7⟩,
  ⟨(some 66), .move (.t 12), (some (65, true)), 0, 15⟩,
  ⟨(some 67), .move (.t 3), (some (65, true)), 0, 15⟩,
  ⟨(some 68), .call (.t 66) [(.t 67)], (some (65, true)), 0, 63⟩,
  ⟨(some 69), .pick (.t 65) (.t 68) (.c (.bool false)), none, 0, 127⟩,
  ⟨(some 70), .move (.t 69), none, 0, 255⟩,
  ⟨(some 71), .move (.t 1), (some (70, true)), 0, 511⟩,
  ⟨(some 72), .bin .eql (.t 71) (.c (.str [43])), (some (70, true)), 0, 1023⟩,
  ⟨(some 73), .pick (.t 70) (.t 72) (.c (.bool false)), none, 0, 2047⟩,
  ⟨(some 61), .move (.t 73), none, 0, 4095⟩]
def f22q11 : List AOper := [
  ⟨(some 74), .load true 1 (.t 11), none, 0, 0⟩,
  ⟨(some 75), .move (.t 2), none, 0, 0⟩,
  ⟨(some 76), .call (.c (.fn 46 [] [])) [], none, 0, 0⟩,
  ⟨(some 77), .build (List.replicate 5 (.int .i64 0)) [(0, 1, (.c (.int .i64 1))), (1, 1, (.t 75)), (2, 1, (.t 76))], none, 0, 6⟩,
  ⟨(some 78), .move (.t 2), none, 0, 0⟩,
  ⟨(some 79), .call (.c (.fn 45 [] [])) [(.t 74), (.t 77), (.t 78)], none, 0, 31⟩,
  ⟨(some 80), .extract (.t 79) 0, none, 0, 63⟩,
  ⟨(some 81), .extract (.t 79) 1, none, 0, 63⟩,
  ⟨none, .store 5 (.t 8) (.t 80), none, 0, 255⟩,
  ⟨(some 9), .move (.t 81), none, 0, 511⟩]
def f22r11 : List AOper := f22q11
def f22r12 : List AOper := [
  ⟨(some 83), .load true 1 (.t 11), none, 0, 0⟩,
  ⟨(some 84), .move (.t 2), none, 0, 0⟩,
  ⟨(some 85), .call (.c (.fn 43 [] [])) [(.t 83), (.t 84)], none, 0, 3⟩,
  ⟨(some 86), .move (.t 85), none, 0, 7⟩,
  ⟨(some 87), .move (.t 12), (some (86, true)), 0, 15⟩,
  ⟨(some 88), .move (.t 3), (some (86, true)), 0, 15⟩,
  ⟨(some 89), .call (.t 87) [(.t 88)], (some (86, true)), 0, 63⟩,
  ⟨(some 90), .pick (.t 86) (.t 89) (.c (.bool false)), none, 0, 127⟩,
  ⟨(some 91), .move (.t 90), none, 0, 255⟩,
  ⟨(some 92), .move (.t 1), (some (91, true)), 0, 511⟩,
  ⟨(some 93), .bin .eql (.t 92) (.c (.str [45])), (some (91, true)), 0, 1023⟩,
  ⟨(some 94), .pick (.t 91) (.t 93) (.c (.bool false)), none, 0, 2047⟩,
  ⟨(some 82), .move (.t 94), none, 0, 4095⟩]
def f22q13 : List AOper := [
  ⟨(some 95), .load true 1 (.t 11), none, 0, 0⟩,
  ⟨(some 96), .move (.t 2), none, 0, 0⟩,
  ⟨(some 97), .call (.c (.fn 46 [] [])) [], none, 0, 0⟩,
  ⟨(some 98), .build (List.replicate 5 (.int .i64 0)) [(0, 1, (.c (.int .i64 2))), (1, 1, (.t 96)), (2, 1, (.t 97))], none, 0, 6⟩,
  ⟨(some 99), .move (.t 2), none, 0, 0⟩,
  ⟨(some 100), .call (.c (.fn 45 [] [])) [(.t 95), (.t 98), (.t 99)], none, 0, 31⟩,
  ⟨(some 101), .extract (.t 100) 0, none, 0, 63⟩,
  ⟨(some 102), .extract (.t 100) 1, none, 0, 63⟩,
  ⟨none, .store 5 (.t 8) (.t 101), none, 0, 255⟩,
  ⟨(some 9), .move (.t 102), none, 0, 511⟩]
def f22r13 : List AOper := f22q13
def f22r14 : List AOper := [
  ⟨(some 104), .move (.t 12), none, 0, 0⟩,
  ⟨(some 105), .move (.t 2), none, 0, 0⟩,
  ⟨(some 106), .call (.t 104) [(.t 105)], none, 0, 3⟩,
  ⟨(some 107), .move (.t 106), none, 0, 7⟩,
  ⟨(some 108), .load true 1 (.t 11), (some (107, true)), 0, 15⟩,
  ⟨(some 109), .move (.t 3), (some (107, true)), 0, 15⟩,
  ⟨(some 110), .call (.c (.fn 43 [] [])) [(.t 108), (.t 109)], (some (107, true)), 0, 63⟩,
  ⟨(some 111), .pick (.t 107) (.t 110) (.c (.bool false)), none, 0, 127⟩,
  ⟨(some 112), .move (.t 111), none, 0, 255⟩,
  ⟨(some 113), .move (.t 1), (some (112, true)), 0, 511⟩,
  ⟨(some 114), .bin .eql (.t 113) (.c (.str [43])), (some (112, true)), 0, 1023⟩,
  ⟨(some 115), .pick (.t 112) (.t 114) (.c (.bool false)), none, 0, 2047⟩,
  ⟨(some 103), .move (.t 115), none, 0, 4095⟩]
def f22q15 : List AOper := [
  ⟨(some 116), .load true 1 (.t 11), none, 0, 0⟩,
  ⟨(some 117), .call (.c (.fn 46 [] [])) [], none, 0, 0⟩,
  ⟨(some 118), .move (.t 3), none, 0, 0⟩,
  ⟨(some 119), .build (List.replicate 5 (.int .i64 0)) [(0, 1, (.c (.int .i64 1))), (1, 1, (.t 117)), (2, 1, (.t 118))], none, 0, 6⟩,
  ⟨(some 120), .move (.t 3), none, 0, 0⟩,
  ⟨(some 121), .call (.c (.fn 45 [] [])) [(.t 116), (.t 119), (.t 120)], none, 0, 31⟩,
  ⟨(some 122), .extract (.t 121) 0, none, 0, 63⟩,
  ⟨(some 123), .extract (.t 121) 1, none, 0, 63⟩,
  ⟨none, .store 5 (.t 8) (.t 122), none, 0, 255⟩,
  ⟨(some 9), .move (.t 123), none, 0, 511⟩]
def f22r15 : List AOper := f22q15
def f22r16 : List AOper := [
  ⟨(some 124), .build (List.replicate 5 (.int .i64 0)) [], none, 0, 0⟩,
  ⟨none, .store 5 (.t 8) (.t 124), none, 0, 1⟩,
  ⟨(some 9), .move (.c (.int .i64 70)), none, 0, 3⟩]
theorem f22r7_s : staticOK 0 f22r7 = true := by rfl
theorem f22r7_w {A : Tab} {nt : Nat} {keep : List Nat} {n : Nat} {e : Env} {h : Heap} (hr : (bkeep keep (stepsF nt (stepF A true) h.length f22r7 e (h ++ List.replicate n .free))).isSome = true) : Brun A nt (.region true f22r7 keep n) e h = bkeep keep (stepsF nt (stepF A true) h.length f22r7 e (h ++ List.replicate n .free)) := Brun_drawnS f22r7_s hr
theorem f22r7_u (nt base : Nat) (step : Nat → AOp → Env → Heap → Option (AV × Heap)) (e : Env) (h : Heap) : stepsF nt step base f22r7 e h = stepsF nt step base f22q7 e h := rfl
theorem f22r11_s : staticOK 0 f22r11 = true := by rfl
theorem f22r11_w {A : Tab} {nt : Nat} {keep : List Nat} {n : Nat} {e : Env} {h : Heap} (hr : (bkeep keep (stepsF nt (stepF A true) h.length f22r11 e (h ++ List.replicate n .free))).isSome = true) : Brun A nt (.region true f22r11 keep n) e h = bkeep keep (stepsF nt (stepF A true) h.length f22r11 e (h ++ List.replicate n .free)) := Brun_drawnS f22r11_s hr
theorem f22r11_u (nt base : Nat) (step : Nat → AOp → Env → Heap → Option (AV × Heap)) (e : Env) (h : Heap) : stepsF nt step base f22r11 e h = stepsF nt step base f22q11 e h := rfl
theorem f22r13_s : staticOK 0 f22r13 = true := by rfl
theorem f22r13_w {A : Tab} {nt : Nat} {keep : List Nat} {n : Nat} {e : Env} {h : Heap} (hr : (bkeep keep (stepsF nt (stepF A true) h.length f22r13 e (h ++ List.replicate n .free))).isSome = true) : Brun A nt (.region true f22r13 keep n) e h = bkeep keep (stepsF nt (stepF A true) h.length f22r13 e (h ++ List.replicate n .free)) := Brun_drawnS f22r13_s hr
theorem f22r13_u (nt base : Nat) (step : Nat → AOp → Env → Heap → Option (AV × Heap)) (e : Env) (h : Heap) : stepsF nt step base f22r13 e h = stepsF nt step base f22q13 e h := rfl
theorem f22r15_s : staticOK 0 f22r15 = true := by rfl
theorem f22r15_w {A : Tab} {nt : Nat} {keep : List Nat} {n : Nat} {e : Env} {h : Heap} (hr : (bkeep keep (stepsF nt (stepF A true) h.length f22r15 e (h ++ List.replicate n .free))).isSome = true) : Brun A nt (.region true f22r15 keep n) e h = bkeep keep (stepsF nt (stepF A true) h.length f22r15 e (h ++ List.replicate n .free)) := Brun_drawnS f22r15_s hr
theorem f22r15_u (nt base : Nat) (step : Nat → AOp → Env → Heap → Option (AV × Heap)) (e : Env) (h : Heap) : stepsF nt step base f22r15 e h = stepsF nt step base f22q15 e h := rfl
def f22c : ACode :=
  .seq (.region false f22r0 [0, 1, 2, 3, 8] 1)
  (.seq (.seq (.region false f22r1 [0, 1, 2, 3, 8, 10] 0)
  (.seq (.region false f22r2 [0, 1, 2, 3, 8, 10, 19] 0)
  (.cond (.t 19)
    (.seq (.region false f22r3 [8, 9] 0)
    (.ret))
    (.skip))))
  (.seq (.region false f22r4 [1, 2, 3, 8, 11] 1)
  (.seq (.region false f22r5 [1, 2, 3, 8, 11, 12] 0)
  (.seq (.block 0 (.seq (.region false f22r6 [1, 2, 3, 8, 11, 12, 26] 0)
    (.cond (.t 26)
      (.seq (.region true f22r7 [8, 9] 0)
      (.ret))
      (.seq (.region false f22r8 [1, 2, 3, 8, 11, 12, 45] 0)
      (.cond (.t 45)
        (.seq (.region false f22r9 [8, 9] 0)
        (.ret))
        (.seq (.region false f22r10 [1, 2, 3, 8, 11, 12, 61] 0)
        (.cond (.t 61)
          (.seq (.region true f22r11 [8, 9] 0)
          (.ret))
          (.seq (.region false f22r12 [1, 2, 3, 8, 11, 12, 82] 0)
          (.cond (.t 82)
            (.seq (.region true f22r13 [8, 9] 0)
            (.ret))
            (.seq (.region false f22r14 [3, 8, 11, 103] 0)
            (.cond (.t 103)
              (.seq (.region true f22r15 [8, 9] 0)
              (.ret))
              (.skip))))))))))))
  (.seq (.region false f22r16 [8, 9] 0)
  (.ret))))))
def f22 : AFn := ⟨4, 125, [.cell 8 true 5, .tmp 9], f22c, 1⟩
def f22k : List (Nat × List Nat) := [(0, [0, 1, 2, 3, 8]), (1, [0, 1, 2, 3, 8, 10]), (2, [0, 1, 2, 3, 8, 10, 19]), (3, [8, 9]), (4, [1, 2, 3, 8, 11]), (5, [1, 2, 3, 8, 11, 12]), (6, [1, 2, 3, 8, 11, 12, 26]), (8, [1, 2, 3, 8, 11, 12, 45]), (10, [1, 2, 3, 8, 11, 12, 61]), (12, [1, 2, 3, 8, 11, 12, 82]), (14, [3, 8, 11, 103]), (15, [8, 9]), (13, [8, 9]), (11, [8, 9]), (9, [8, 9]), (7, [8, 9]), (16, [8, 9])]
def f22v : List Nat := [16]

/-! 23: mortise/conv.Unary, parameters [41, 9, 3], results [3, 24] -/
def f23r0 : List AOper := [
  ⟨(some 6), .move (.c (.int .i64 0)), none, 0, 0⟩,
  ⟨(some 7), .move (.c (.int .i64 0)), none, 0, 1⟩]
def f23r1 : List AOper := [
  ⟨(some 10), .move (.t 0), none, 0, 0⟩,
  ⟨(some 11), .move (.t 2), none, 0, 0⟩,
  ⟨(some 12), .buildSlice true 1 1 [(.int .i64 0)] [(0, 1, (.t 11))], none, 0, 2⟩,
  ⟨(some 13), .call (.c (.fn 39 [] [])) [(.t 10), (.t 12)], none, 0, 7⟩,
  ⟨(some 8), .move (.t 13), none, 0, 15⟩]
def f23r2 : List AOper := [
  ⟨(some 14), .move (.t 8), none, 0, 0⟩,
  ⟨(some 15), .bin .neq (.t 14) (.c (.int .i64 0)), none, 0, 1⟩]
def f23r3 : List AOper := [
  ⟨(some 16), .move (.t 8), none, 0, 0⟩,
  ⟨(some 6), .move (.c (.int .i64 0)), none, 0, 0⟩,
  ⟨(some 7), .move (.t 16), none, 0, 3⟩]
def f23r4 : List AOper := [
  ⟨(some 17), .move (.t 0), none, 0, 0⟩,
  ⟨(some 18), .build [.nilp] [(0, 1, (.t 17))], none, 0, 1⟩,
  ⟨(some 9), .alloc false [.nilp], none, 0, 0⟩,
  ⟨none, .store 1 (.t 9) (.t 18), none, 1, 7⟩]
def f23r5 : List AOper := [
  ⟨(some 20), .move (.t 1), none, 0, 0⟩,
  ⟨(some 21), .bin .eql (.t 20) (.c (.str [33])), none, 0, 1⟩,
  ⟨(some 22), .move (.t 21), none, 0, 3⟩,
  ⟨(some 23), .move (.t 0), (some (22, true)), 0, 7⟩,
  ⟨(some 24), .move (.t 2), (some (22, true)), 0, 7⟩,
  ⟨(some 25), .call (.c (.fn 47 [] [])) [(.t 23), (.t 24)], (some (22, true)), 0, 31⟩,
  ⟨(some 26), .pick (.t 22) (.t 25) (.c (.bool false)), none, 0, 63⟩,
  ⟨(some 19), .move (.t 26), none, 0, 127⟩]
def f23r6 : List AOper := [
  ⟨(some 27), .call (.c (.fn 46 [] [])) [], none, 0, 0⟩,
  ⟨(some 6), .move (.t 27), none, 0, 1⟩,
  ⟨(some 7), .move (.c (.int .i64 0)), none, 0, 3⟩]
def f23r7 : List AOper := [
  ⟨(some 29), .move (.t 1), none, 0, 0⟩,
  ⟨(some 30), .bin .eql (.t 29) (.c (.str [43])), none, 0, 1⟩,
  ⟨(some 31), .move (.t 30), none, 0, 3⟩,
  ⟨(some 32), .move (.t 1), (some (31, false)), 0, 7⟩,
  ⟨(some 33), .bin .eql (.t 32) (.c (.str [45])), (some (31, false)), 0, 15⟩,
  ⟨(some 34), .pick (.t 31) (.c (.bool true)) (.t 33), none, 0, 31⟩,
  ⟨(some 35), .move (.t 34), none, 0, 63⟩,
  ⟨(some 36), .move (.t 1), (some (35, false)), 0, 127⟩,
  ⟨(some 37), .bin .eql (.t 36) (.c (.str [126])), (some (35, false)), 0, 255⟩,
  ⟨(some 38), .pick (.t 35) (.c (.bool true)) (.t 37), none, 0, 511⟩,
  ⟨(some 39), .move (.t 38), none, 0, 1023⟩,
  ⟨(some 40), .load true 1 (.t 9), (some (39, true)), 0, 2047⟩,
  ⟨(some 41), .move (.t 2), (some (39, true)), 0, 2047⟩,
  ⟨(some 42), .call (.c (.fn 40 [] [])) [(.t 40), (.t 41)], (some (39, true)), 0, 8191⟩,
  ⟨(some 43), .pick (.t 39) (.t 42) (.c (.bool false)), none, 0, 16383⟩,
  ⟨(some 28), .move (.t 43), none, 0, 32767⟩]
def f23r8 : List AOper := [
  ⟨(some 44), .load true 1 (.t 9), none, 0, 0⟩,
  ⟨(some 45), .move (.t 2), none, 0, 0⟩,
  ⟨(some 46), .call (.c (.fn 42 [] [])) [(.t 44), (.t 45)], none, 0, 3⟩,
  ⟨(some 47), .call (.c (.fn 13 [] [])) [(.t 46), (.c (.int .i64 (-1)))], none, 0, 7⟩,
  ⟨(some 48), .call (.c (.fn 48 [] [])) [(.t 47)], none, 0, 15⟩,
  ⟨(some 6), .move (.t 48), none, 0, 31⟩,
  ⟨(some 7), .move (.c (.int .i64 0)), none, 0, 63⟩]
def f23r9 : List AOper := [
  ⟨(some 6), .move (.c (.int .i64 0)), none, 0, 0⟩,
  ⟨(some 7), .move (.c (.int .i64 70)), none, 0, 1⟩]
def f23c : ACode :=
  .seq (.region false f23r0 [0, 1, 2] 0)
  (.seq (.seq (.region false f23r1 [0, 1, 2, 8] 0)
  (.seq (.region false f23r2 [0, 1, 2, 8, 15] 0)
  (.cond (.t 15)
    (.seq (.region false f23r3 [6, 7] 0)
    (.ret))
    (.skip))))
  (.seq (.region false f23r4 [0, 1, 2, 9] 1)
  (.seq (.block 0 (.seq (.region false f23r5 [1, 2, 9, 19] 0)
    (.cond (.t 19)
      (.seq (.region false f23r6 [6, 7] 0)
      (.ret))
      (.seq (.region false f23r7 [2, 9, 28] 0)
      (.cond (.t 28)
        (.seq (.region false f23r8 [6, 7] 0)
        (.ret))
        (.skip))))))
  (.seq (.region false f23r9 [6, 7] 0)
  (.ret)))))
def f23 : AFn := ⟨3, 49, [.tmp 6, .tmp 7], f23c, 1⟩
def f23k : List (Nat × List Nat) := [(0, [0, 1, 2]), (1, [0, 1, 2, 8]), (2, [0, 1, 2, 8, 15]), (3, [6, 7]), (4, [0, 1, 2, 9]), (5, [1, 2, 9, 19]), (7, [2, 9, 28]), (8, [6, 7]), (6, [6, 7]), (9, [6, 7])]
def f23v : List Nat := [12]

/-! 24: mortise/conv.Cond, parameters [41, 3, 3], results [3, 24] -/
def f24r0 : List AOper := [
  ⟨(some 6), .move (.c (.int .i64 0)), none, 0, 0⟩,
  ⟨(some 7), .move (.c (.int .i64 0)), none, 0, 1⟩]
def f24r1 : List AOper := [
  ⟨(some 13), .move (.t 0), none, 0, 0⟩,
  ⟨(some 14), .move (.t 1), none, 0, 0⟩,
  ⟨(some 15), .move (.t 2), none, 0, 0⟩,
  ⟨(some 16), .buildSlice true 1 2 [(.int .i64 0), (.int .i64 0)] [(0, 1, (.t 14)), (1, 1, (.t 15))], none, 0, 6⟩,
  ⟨(some 17), .call (.c (.fn 39 [] [])) [(.t 13), (.t 16)], none, 0, 15⟩,
  ⟨(some 8), .move (.t 17), none, 0, 31⟩]
def f24r2 : List AOper := [
  ⟨(some 18), .move (.t 8), none, 0, 0⟩,
  ⟨(some 19), .bin .neq (.t 18) (.c (.int .i64 0)), none, 0, 1⟩]
def f24r3 : List AOper := [
  ⟨(some 20), .move (.t 8), none, 0, 0⟩,
  ⟨(some 6), .move (.c (.int .i64 0)), none, 0, 0⟩,
  ⟨(some 7), .move (.t 20), none, 0, 3⟩]
def f24r4 : List AOper := [
  ⟨(some 21), .move (.t 0), none, 0, 0⟩,
  ⟨(some 22), .build [.nilp] [(0, 1, (.t 21))], none, 0, 1⟩,
  ⟨(some 9), .alloc false [.nilp], none, 0, 0⟩,
  ⟨none, .store 1 (.t 9) (.t 22), none, 1, 7⟩]
def f24r5 : List AOper := [
  ⟨(some 23), .load true 1 (.t 9), none, 0, 0⟩,
  ⟨(some 24), .move (.t 1), none, 0, 0⟩,
  ⟨(some 25), .call (.c (.fn 40 [] [])) [(.t 23), (.t 24)], none, 0, 3⟩,
  ⟨(some 26), .move (.t 25), none, 0, 7⟩,
  ⟨(some 27), .load true 1 (.t 9), (some (26, true)), 0, 15⟩,
  ⟨(some 28), .move (.t 2), (some (26, true)), 0, 15⟩,
  ⟨(some 29), .call (.c (.fn 40 [] [])) [(.t 27), (.t 28)], (some (26, true)), 0, 63⟩,
  ⟨(some 30), .pick (.t 26) (.t 29) (.c (.bool false)), none, 0, 127⟩]
def f24q6 : List AOper := [
  ⟨(some 32), .load true 1 (.t 9), none, 0, 0⟩,
  ⟨(some 33), .move (.t 1), none, 0, 0⟩,
  ⟨(some 34), .call (.c (.fn 42 [] [])) [(.t 32), (.t 33)], none, 0, 3⟩,
  ⟨(some 35), .load true 1 (.t 9), none, 0, 0⟩,
  ⟨(some 36), .move (.t 2), none, 0, 0⟩,
  ⟨(some 37), .call (.c (.fn 42 [] [])) [(.t 35), (.t 36)], none, 0, 31⟩,
  ⟨(some 38), .call (.c (.fn 10 [] [])) [(.t 34), (.t 37)], none, 0, 63⟩,
  ⟨(some 31), .move (.t 38), none, 0, 127⟩,
  ⟨(some 39), .extract (.t 31) 0, none, 0, 255⟩,
  ⟨(some 40), .extract (.t 31) 1, none, 0, 255⟩,
  ⟨(some 10), .move (.t 39), none, 0, 511⟩,
  ⟨(some 11), .move (.t 40), none, 0, 2047⟩]
def f24r6 : List AOper := f24q6
def f24r7 : List AOper := [
  ⟨(some 41), .move (.t 10), none, 0, 0⟩,
  ⟨(some 42), .call (.c (.fn 48 [] [])) [(.t 41)], none, 0, 1⟩,
  ⟨(some 43), .move (.t 11), none, 0, 0⟩,
  ⟨(some 6), .move (.t 42), none, 0, 3⟩,
  ⟨(some 7), .move (.t 43), none, 0, 15⟩]
def f24r8 : List AOper := [
  ⟨(some 44), .load true 1 (.t 9), none, 0, 0⟩,
  ⟨(some 45), .move (.t 1), none, 0, 0⟩,
  ⟨(some 46), .call (.c (.fn 42 [] [])) [(.t 44), (.t 45)], none, 0, 3⟩,
  ⟨(some 12), .move (.t 46), none, 0, 7⟩]
def f24r9 : List AOper := [
  ⟨(some 48), .move (.t 1), none, 0, 0⟩,
  ⟨(some 49), .move (.t 2), none, 0, 0⟩,
  ⟨(some 50), .bin .eql (.t 48) (.t 49), none, 0, 3⟩,
  ⟨(some 51), .move (.t 50), none, 0, 7⟩,
  ⟨(some 52), .move (.t 12), (some (51, true)), 0, 15⟩,
  ⟨(some 53), .bin .eql (.t 52) (.c (.int .i64 13)), (some (51, true)), 0, 31⟩,
  ⟨(some 54), .move (.t 53), (some (51, true)), 0, 63⟩,
  ⟨(some 55), .move (.t 12), (some (54, false)), 0, 127⟩,
  ⟨(some 56), .bin .eql (.t 55) (.c (.int .i64 1)), (some (54, false)), 0, 255⟩,
  ⟨(some 57), .pick (.t 54) (.c (.bool true)) (.t 56), (some (51, true)), 0, 511⟩,
  ⟨(some 58), .move (.t 57), (some (51, true)), 0, 1023⟩,
  ⟨(some 59), .move (.t 12), (some (58, false)), 0, 2047⟩,
  ⟨(some 60), .bin .eql (.t 59) (.c (.int .i64 15)), (some (58, false)), 0, 4095⟩,
  ⟨(some 61), .pick (.t 58) (.c (.bool true)) (.t 60), (some (51, true)), 0, 8191⟩,
  ⟨(some 62), .move (.t 61), (some (51, true)), 0, 16383⟩,
  ⟨(some 63), .move (.t 12), (some (62, false)), 0, 32767⟩,
  ⟨(some 64), .bin .eql (.t 63) (.c (.int .i64 16)), (some (62, false)), 0, 65535⟩,
  ⟨(some 65), .pick (.t 62) (.c (.bool true)) (.t 64), (some (51, true)), 0, 131071⟩,
  ⟨(some 66), .pick (.t 51) (.t 65) (.c (.bool false)), none, 0, 262143⟩,
  ⟨(some 47), .move (.t 66), none, 0, 524287⟩]
def f24r10 : List AOper := [
  ⟨(some 67), .move (.t 1), none, 0, 0⟩,
  ⟨(some 6), .move (.t 67), none, 0, 1⟩,
  ⟨(some 7), .move (.c (.int .i64 0)), none, 0, 3⟩]
def f24r11 : List AOper := [
  ⟨(some 69), .load true 1 (.t 9), none, 0, 0⟩,
  ⟨(some 70), .move (.t 1), none, 0, 0⟩,
  ⟨(some 71), .call (.c (.fn 49 [] [])) [(.t 69), (.t 70)], none, 0, 3⟩,
  ⟨(some 72), .move (.t 71), none, 0, 7⟩,
  ⟨(some 73), .load true 1 (.t 9), (some (72, true)), 0, 15⟩,
  ⟨(some 74), .move (.t 2), (some (72, true)), 0, 15⟩,
  ⟨(some 75), .call (.c (.fn 43 [] [])) [(.t 73), (.t 74)], (some (72, true)), 0, 63⟩,
  ⟨(some 76), .pick (.t 72) (.t 75) (.c (.bool false)), none, 0, 127⟩,
  ⟨(some 68), .move (.t 76), none, 0, 255⟩]
def f24r12 : List AOper := [
  ⟨(some 77), .move (.t 1), none, 0, 0⟩,
  ⟨(some 6), .move (.t 77), none, 0, 1⟩,
  ⟨(some 7), .move (.c (.int .i64 0)), none, 0, 3⟩]
def f24r13 : List AOper := [
  ⟨(some 79), .load true 1 (.t 9), none, 0, 0⟩,
  ⟨(some 80), .move (.t 1), none, 0, 0⟩,
  ⟨(some 81), .call (.c (.fn 43 [] [])) [(.t 79), (.t 80)], none, 0, 3⟩,
  ⟨(some 82), .move (.t 81), none, 0, 7⟩,
  ⟨(some 83), .load true 1 (.t 9), (some (82, true)), 0, 15⟩,
  ⟨(some 84), .move (.t 2), (some (82, true)), 0, 15⟩,
  ⟨(some 85), .call (.c (.fn 49 [] [])) [(.t 83), (.t 84)], (some (82, true)), 0, 63⟩,
  ⟨(some 86), .pick (.t 82) (.t 85) (.c (.bool false)), none, 0, 127⟩,
  ⟨(some 78), .move (.t 86), none, 0, 255⟩]
def f24r14 : List AOper := [
  ⟨(some 87), .move (.t 2), none, 0, 0⟩,
  ⟨(some 6), .move (.t 87), none, 0, 1⟩,
  ⟨(some 7), .move (.c (.int .i64 0)), none, 0, 3⟩]
def f24r15 : List AOper := [
  ⟨(some 6), .move (.c (.int .i64 0)), none, 0, 0⟩,
  ⟨(some 7), .move (.c (.int .i64 70)), none, 0, 1⟩]
theorem f24r6_s : staticOK 0 f24r6 = true := by rfl
theorem f24r6_w {A : Tab} {nt : Nat} {keep : List Nat} {n : Nat} {e : Env} {h : Heap} (hr : (bkeep keep (stepsF nt (stepF A true) h.length f24r6 e (h ++ List.replicate n .free))).isSome = true) : Brun A nt (.region true f24r6 keep n) e h = bkeep keep (stepsF nt (stepF A true) h.length f24r6 e (h ++ List.replicate n .free)) := Brun_drawnS f24r6_s hr
theorem f24r6_u (nt base : Nat) (step : Nat → AOp → Env → Heap → Option (AV × Heap)) (e : Env) (h : Heap) : stepsF nt step base f24r6 e h = stepsF nt step base f24q6 e h := rfl
def f24c : ACode :=
  .seq (.region false f24r0 [0, 1, 2] 0)
  (.seq (.seq (.region false f24r1 [0, 1, 2, 8] 0)
  (.seq (.region false f24r2 [0, 1, 2, 8, 19] 0)
  (.cond (.t 19)
    (.seq (.region false f24r3 [6, 7] 0)
    (.ret))
    (.skip))))
  (.seq (.region false f24r4 [1, 2, 9] 1)
  (.seq (.seq (.region false f24r5 [1, 2, 9, 30] 0)
  (.cond (.t 30)
    (.seq (.region true f24r6 [10, 11] 0)
    (.seq (.region false f24r7 [6, 7] 0)
    (.ret)))
    (.skip)))
  (.seq (.seq (.region false f24r8 [1, 2, 9, 12] 0)
  (.block 0 (.seq (.region false f24r9 [1, 2, 9, 47] 0)
    (.cond (.t 47)
      (.seq (.region false f24r10 [6, 7] 0)
      (.ret))
      (.seq (.region false f24r11 [1, 2, 9, 68] 0)
      (.cond (.t 68)
        (.seq (.region false f24r12 [6, 7] 0)
        (.ret))
        (.seq (.region false f24r13 [2, 78] 0)
        (.cond (.t 78)
          (.seq (.region false f24r14 [6, 7] 0)
          (.ret))
          (.skip)))))))))
  (.seq (.region false f24r15 [6, 7] 0)
  (.ret))))))
def f24 : AFn := ⟨3, 88, [.tmp 6, .tmp 7], f24c, 1⟩
def f24k : List (Nat × List Nat) := [(0, [0, 1, 2]), (1, [0, 1, 2, 8]), (2, [0, 1, 2, 8, 19]), (3, [6, 7]), (4, [1, 2, 9]), (5, [1, 2, 9, 30]), (6, [10, 11]), (7, [6, 7]), (8, [1, 2, 9, 12]), (9, [1, 2, 9, 47]), (11, [1, 2, 9, 68]), (13, [2, 78]), (14, [6, 7]), (12, [6, 7]), (10, [6, 7]), (15, [6, 7])]
def f24v : List Nat := [16]

/-! 25: mortise/conv.Assign, parameters [41, 3, 3], results [24] -/
def f25r0 : List AOper := [
  ⟨(some 6), .move (.c (.int .i64 0)), none, 0, 0⟩]
def f25r1 : List AOper := [
  ⟨(some 10), .move (.t 0), none, 0, 0⟩,
  ⟨(some 11), .move (.t 1), none, 0, 0⟩,
  ⟨(some 12), .move (.t 2), none, 0, 0⟩,
  ⟨(some 13), .buildSlice true 1 2 [(.int .i64 0), (.int .i64 0)] [(0, 1, (.t 11)), (1, 1, (.t 12))], none, 0, 6⟩,
  ⟨(some 14), .call (.c (.fn 39 [] [])) [(.t 10), (.t 13)], none, 0, 15⟩,
  ⟨(some 7), .move (.t 14), none, 0, 31⟩]
def f25r2 : List AOper := [
  ⟨(some 15), .move (.t 7), none, 0, 0⟩,
  ⟨(some 16), .bin .neq (.t 15) (.c (.int .i64 0)), none, 0, 1⟩]
def f25r3 : List AOper := [
  ⟨(some 17), .move (.t 7), none, 0, 0⟩,
  ⟨(some 6), .move (.t 17), none, 0, 1⟩]
def f25r4 : List AOper := [
  ⟨(some 18), .move (.t 0), none, 0, 0⟩,
  ⟨(some 19), .build [.nilp] [(0, 1, (.t 18))], none, 0, 1⟩,
  ⟨(some 8), .alloc false [.nilp], none, 0, 0⟩,
  ⟨none, .store 1 (.t 8) (.t 19), none, 1, 7⟩]
def f25r5 : List AOper := [
  ⟨(some 20), .load true 1 (.t 8), none, 0, 0⟩,
  ⟨(some 21), .move (.t 1), none, 0, 0⟩,
  ⟨(some 22), .call (.c (.fn 50 [] [])) [(.t 20), (.t 21)], none, 0, 3⟩,
  ⟨(some 9), .alloc false [(.int .i64 0), (.int .i64 0), (.int .i64 0), (.str []), (.is [] .nil), (.bool false)], none, 0, 0⟩,
  ⟨none, .store 6 (.t 9) (.t 22), none, 1, 15⟩]
def f25r6 : List AOper := [
  ⟨(some 23), .load true 1 (.t 8), none, 0, 0⟩,
  ⟨(some 24), .move (.t 1), none, 0, 0⟩,
  ⟨(some 25), .call (.c (.fn 40 [] [])) [(.t 23), (.t 24)], none, 0, 3⟩,
  ⟨(some 26), .move (.t 25), none, 0, 7⟩,
  ⟨(some 27), .load true 1 (.t 8), (some (26, true)), 0, 15⟩,
  ⟨(some 28), .move (.t 2), (some (26, true)), 0, 15⟩,
  ⟨(some 29), .call (.c (.fn 40 [] [])) [(.t 27), (.t 28)], (some (26, true)), 0, 63⟩,
  ⟨(some 30), .pick (.t 26) (.t 29) (.c (.bool false)), none, 0, 127⟩,
  ⟨(some 31), .move (.t 30), none, 0, 255⟩,
  ⟨(some 32), .load true 1 (.t 8), (some (31, false)), 0, 511⟩,
  ⟨(some 33), .move (.t 1), (some (31, false)), 0, 511⟩,
  ⟨(some 34), .move (.t 2), (some (31, false)), 0, 511⟩,
  ⟨(some 35), .call (.c (.fn 51 [] [])) [(.t 32), (.t 33), (.t 34)], (some (31, false)), 0, 4095⟩,
  ⟨(some 36), .pick (.t 31) (.c (.bool true)) (.t 35), none, 0, 8191⟩,
  ⟨(some 37), .move (.t 36), none, 0, 16383⟩,
  ⟨(some 38), .move (.t 1), (some (37, false)), 0, 32767⟩,
  ⟨(some 39), .move (.t 2), (some (37, false)), 0, 32767⟩,
  ⟨(some 40), .bin .eql (.t 38) (.t 39), (some (37, false)), 0, 131071⟩,
  ⟨(some 41), .move (.t 40), (some (37, false)), 0, 262143⟩,
  ⟨(some 42), .fieldAddr 5 (.t 9), (some (41, true)), 0, 524287⟩,
  ⟨(some 43), .load false 1 (.t 42), (some (41, true)), 0, 1048575⟩,
  ⟨(some 44), .pick (.t 41) (.t 43) (.c (.bool false)), (some (37, false)), 0, 2097151⟩,
  ⟨(some 45), .pick (.t 37) (.c (.bool true)) (.t 44), none, 0, 4194303⟩]
def f25r7 : List AOper := [
  ⟨(some 6), .move (.c (.int .i64 0)), none, 0, 0⟩]
def f25r8 : List AOper := [
  ⟨(some 6), .move (.c (.int .i64 70)), none, 0, 0⟩]
def f25c : ACode :=
  .seq (.region false f25r0 [0, 1, 2] 0)
  (.seq (.seq (.region false f25r1 [0, 1, 2, 7] 0)
  (.seq (.region false f25r2 [0, 1, 2, 7, 16] 0)
  (.cond (.t 16)
    (.seq (.region false f25r3 [6] 0)
    (.ret))
    (.skip))))
  (.seq (.region false f25r4 [1, 2, 8] 1)
  (.seq (.region false f25r5 [1, 2, 8, 9] 1)
  (.seq (.seq (.region false f25r6 [45] 0)
  (.cond (.t 45)
    (.seq (.region false f25r7 [6] 0)
    (.ret))
    (.skip)))
  (.seq (.region false f25r8 [6] 0)
  (.ret))))))
def f25 : AFn := ⟨3, 46, [.tmp 6], f25c, 1⟩
def f25k : List (Nat × List Nat) := [(0, [0, 1, 2]), (1, [0, 1, 2, 7]), (2, [0, 1, 2, 7, 16]), (3, [6]), (4, [1, 2, 8]), (5, [1, 2, 8, 9]), (6, [45]), (7, [6]), (8, [6])]
def f25v : List Nat := [13]

/-! 26: mortise/conv.Cast, parameters [41, 3, 3], results [24] -/
def f26r0 : List AOper := [
  ⟨(some 6), .move (.c (.int .i64 0)), none, 0, 0⟩]
def f26r1 : List AOper := [
  ⟨(some 10), .move (.t 0), none, 0, 0⟩,
  ⟨(some 11), .move (.t 1), none, 0, 0⟩,
  ⟨(some 12), .move (.t 2), none, 0, 0⟩,
  ⟨(some 13), .buildSlice true 1 2 [(.int .i64 0), (.int .i64 0)] [(0, 1, (.t 11)), (1, 1, (.t 12))], none, 0, 6⟩,
  ⟨(some 14), .call (.c (.fn 39 [] [])) [(.t 10), (.t 13)], none, 0, 15⟩,
  ⟨(some 7), .move (.t 14), none, 0, 31⟩]
def f26r2 : List AOper := [
  ⟨(some 15), .move (.t 7), none, 0, 0⟩,
  ⟨(some 16), .bin .neq (.t 15) (.c (.int .i64 0)), none, 0, 1⟩]
def f26r3 : List AOper := [
  ⟨(some 17), .move (.t 7), none, 0, 0⟩,
  ⟨(some 6), .move (.t 17), none, 0, 1⟩]
def f26r4 : List AOper := [
  ⟨(some 18), .move (.t 0), none, 0, 0⟩,
  ⟨(some 19), .build [.nilp] [(0, 1, (.t 18))], none, 0, 1⟩,
  ⟨(some 8), .alloc false [.nilp], none, 0, 0⟩,
  ⟨none, .store 1 (.t 8) (.t 19), none, 1, 7⟩]
def f26r5 : List AOper := [
  ⟨(some 20), .load true 1 (.t 8), none, 0, 0⟩,
  ⟨(some 21), .move (.t 1), none, 0, 0⟩,
  ⟨(some 22), .call (.c (.fn 42 [] [])) [(.t 20), (.t 21)], none, 0, 3⟩,
  ⟨(some 9), .move (.t 22), none, 0, 7⟩]
def f26r6 : List AOper := [
  ⟨(some 24), .move (.t 9), none, 0, 0⟩,
  ⟨(some 25), .bin .eql (.t 24) (.c (.int .i64 1)), none, 0, 1⟩,
  ⟨(some 23), .move (.t 25), none, 0, 3⟩]
def f26r7 : List AOper := [
  ⟨(some 26), .load true 1 (.t 8), none, 0, 0⟩,
  ⟨(some 27), .move (.t 1), none, 0, 0⟩,
  ⟨(some 28), .call (.c (.fn 40 [] [])) [(.t 26), (.t 27)], none, 0, 3⟩,
  ⟨(some 29), .move (.t 28), none, 0, 7⟩,
  ⟨(some 30), .load true 1 (.t 8), (some (29, true)), 0, 15⟩,
  ⟨(some 31), .move (.t 2), (some (29, true)), 0, 15⟩,
  ⟨(some 32), .call (.c (.fn 40 [] [])) [(.t 30), (.t 31)], (some (29, true)), 0, 63⟩,
  ⟨(some 33), .pick (.t 29) (.t 32) (.c (.bool false)), none, 0, 127⟩,
  ⟨(some 23), .move (.t 33), none, 0, 255⟩]
def f26r8 : List AOper := [
  ⟨(some 34), .load true 1 (.t 8), none, 0, 0⟩,
  ⟨(some 35), .move (.t 1), none, 0, 0⟩,
  ⟨(some 36), .call (.c (.fn 43 [] [])) [(.t 34), (.t 35)], none, 0, 3⟩,
  ⟨(some 37), .move (.t 36), none, 0, 7⟩,
  ⟨(some 38), .load true 1 (.t 8), (some (37, true)), 0, 15⟩,
  ⟨(some 39), .move (.t 2), (some (37, true)), 0, 15⟩,
  ⟨(some 40), .call (.c (.fn 43 [] [])) [(.t 38), (.t 39)], (some (37, true)), 0, 63⟩,
  ⟨(some 41), .pick (.t 37) (.t 40) (.c (.bool false)), none, 0, 127⟩,
  ⟨(some 23), .move (.t 41), none, 0, 255⟩]
def f26r9 : List AOper := [
  ⟨(some 42), .move (.t 9), none, 0, 0⟩,
  ⟨(some 43), .bin .eql (.t 42) (.c (.int .i64 2)), none, 0, 1⟩,
  ⟨(some 44), .move (.t 43), none, 0, 3⟩,
  ⟨(some 45), .load true 1 (.t 8), (some (44, true)), 0, 7⟩,
  ⟨(some 46), .move (.t 2), (some (44, true)), 0, 7⟩,
  ⟨(some 47), .call (.c (.fn 43 [] [])) [(.t 45), (.t 46)], (some (44, true)), 0, 31⟩,
  ⟨(some 48), .pick (.t 44) (.t 47) (.c (.bool false)), none, 0, 63⟩,
  ⟨(some 23), .move (.t 48), none, 0, 127⟩]
def f26r10 : List AOper := [
  ⟨(some 6), .move (.c (.int .i64 0)), none, 0, 0⟩]
def f26r11 : List AOper := [
  ⟨(some 6), .move (.c (.int .i64 70)), none, 0, 0⟩]
def f26c : ACode :=
  .seq (.region false f26r0 [0, 1, 2] 0)
  (.seq (.seq (.region false f26r1 [0, 1, 2, 7] 0)
  (.seq (.region false f26r2 [0, 1, 2, 7, 16] 0)
  (.cond (.t 16)
    (.seq (.region false f26r3 [6] 0)
    (.ret))
    (.skip))))
  (.seq (.region false f26r4 [1, 2, 8] 1)
  (.seq (.seq (.region false f26r5 [1, 2, 8, 9] 0)
  (.block 0 (.seq (.seq (.region false f26r6 [1, 2, 8, 9, 23] 0)
    (.cond (.t 23)
      (.skip)
      (.seq (.region false f26r7 [1, 2, 8, 9, 23] 0)
      (.cond (.t 23)
        (.skip)
        (.seq (.region false f26r8 [2, 8, 9, 23] 0)
        (.cond (.t 23)
          (.skip)
          (.region false f26r9 [23] 0)))))))
    (.cond (.t 23)
      (.seq (.region false f26r10 [6] 0)
      (.ret))
      (.skip)))))
  (.seq (.region false f26r11 [6] 0)
  (.ret)))))
def f26 : AFn := ⟨3, 49, [.tmp 6], f26c, 1⟩
def f26k : List (Nat × List Nat) := [(0, [0, 1, 2]), (1, [0, 1, 2, 7]), (2, [0, 1, 2, 7, 16]), (3, [6]), (4, [1, 2, 8]), (5, [1, 2, 8, 9]), (6, [1, 2, 8, 9, 23]), (7, [1, 2, 8, 9, 23]), (8, [2, 8, 9, 23]), (9, [23]), (10, [6]), (11, [6])]
def f26v : List Nat := [13]

/-! 27: mortise/word.Width, parameters [23], results [3] -/
def f27r0 : List AOper := [
  ⟨(some 2), .move (.c (.int .i64 0)), none, 0, 0⟩]
def f27r1 : List AOper := [
  ⟨(some 3), .move (.t 0), none, 0, 0⟩]
def f27r2 : List AOper := [
  ⟨(some 5), .bin .eql (.t 3) (.c (.int .i64 2)), none, 0, 0⟩,
  ⟨(some 4), .move (.t 5), none, 0, 1⟩]
def f27r3 : List AOper := [
  ⟨(some 6), .bin .eql (.t 3) (.c (.int .i64 3)), none, 0, 0⟩,
  ⟨(some 4), .move (.t 6), none, 0, 1⟩]
def f27r4 : List AOper := [
  ⟨(some 7), .bin .eql (.t 3) (.c (.int .i64 4)), none, 0, 0⟩,
  ⟨(some 4), .move (.t 7), none, 0, 1⟩]
def f27r5 : List AOper := [
  ⟨(some 8), .bin .eql (.t 3) (.c (.int .i64 5)), none, 0, 0⟩,
  ⟨(some 4), .move (.t 8), none, 0, 1⟩]
def f27r6 : List AOper := [
  ⟨(some 2), .move (.c (.int .i64 1)), none, 0, 0⟩]
def f27r7 : List AOper := [
  ⟨(some 10), .bin .eql (.t 3) (.c (.int .i64 6)), none, 0, 0⟩,
  ⟨(some 9), .move (.t 10), none, 0, 1⟩]
def f27r8 : List AOper := [
  ⟨(some 11), .bin .eql (.t 3) (.c (.int .i64 7)), none, 0, 0⟩,
  ⟨(some 9), .move (.t 11), none, 0, 1⟩]
def f27r9 : List AOper := [
  ⟨(some 2), .move (.c (.int .i64 2)), none, 0, 0⟩]
def f27r10 : List AOper := [
  ⟨(some 13), .bin .eql (.t 3) (.c (.int .i64 8)), none, 0, 0⟩,
  ⟨(some 12), .move (.t 13), none, 0, 1⟩]
def f27r11 : List AOper := [
  ⟨(some 14), .bin .eql (.t 3) (.c (.int .i64 9)), none, 0, 0⟩,
  ⟨(some 12), .move (.t 14), none, 0, 1⟩]
def f27r12 : List AOper := [
  ⟨(some 15), .bin .eql (.t 3) (.c (.int .i64 10)), none, 0, 0⟩,
  ⟨(some 12), .move (.t 15), none, 0, 1⟩]
def f27r13 : List AOper := [
  ⟨(some 16), .bin .eql (.t 3) (.c (.int .i64 11)), none, 0, 0⟩,
  ⟨(some 12), .move (.t 16), none, 0, 1⟩]
def f27r14 : List AOper := [
  ⟨(some 17), .bin .eql (.t 3) (.c (.int .i64 12)), none, 0, 0⟩,
  ⟨(some 12), .move (.t 17), none, 0, 1⟩]
def f27r15 : List AOper := [
  ⟨(some 18), .bin .eql (.t 3) (.c (.int .i64 13)), none, 0, 0⟩,
  ⟨(some 12), .move (.t 18), none, 0, 1⟩]
def f27r16 : List AOper := [
  ⟨(some 2), .move (.c (.int .i64 4)), none, 0, 0⟩]
def f27r17 : List AOper := [
  ⟨(some 2), .move (.c (.int .i64 0)), none, 0, 0⟩]
def f27c : ACode :=
  .seq (.region false f27r0 [0] 0)
  (.seq (.seq (.region false f27r1 [3] 0)
  (.block 0 (.seq (.seq (.region false f27r2 [3, 4] 0)
    (.cond (.t 4)
      (.skip)
      (.seq (.region false f27r3 [3, 4] 0)
      (.cond (.t 4)
        (.skip)
        (.seq (.region false f27r4 [3, 4] 0)
        (.cond (.t 4)
          (.skip)
          (.region false f27r5 [3, 4] 0)))))))
    (.cond (.t 4)
      (.seq (.region false f27r6 [2] 0)
      (.ret))
      (.seq (.seq (.region false f27r7 [3, 9] 0)
      (.cond (.t 9)
        (.skip)
        (.region false f27r8 [3, 9] 0)))
      (.cond (.t 9)
        (.seq (.region false f27r9 [2] 0)
        (.ret))
        (.seq (.seq (.region false f27r10 [3, 12] 0)
        (.cond (.t 12)
          (.skip)
          (.seq (.region false f27r11 [3, 12] 0)
          (.cond (.t 12)
            (.skip)
            (.seq (.region false f27r12 [3, 12] 0)
            (.cond (.t 12)
              (.skip)
              (.seq (.region false f27r13 [3, 12] 0)
              (.cond (.t 12)
                (.skip)
                (.seq (.region false f27r14 [3, 12] 0)
                (.cond (.t 12)
                  (.skip)
                  (.region false f27r15 [12] 0)))))))))))
        (.cond (.t 12)
          (.seq (.region false f27r16 [2] 0)
          (.ret))
          (.skip)))))))))
  (.seq (.region false f27r17 [2] 0)
  (.ret)))
def f27 : AFn := ⟨1, 19, [.tmp 2], f27c, 1⟩
def f27k : List (Nat × List Nat) := [(0, [0]), (1, [3]), (2, [3, 4]), (3, [3, 4]), (4, [3, 4]), (5, [3, 4]), (7, [3, 9]), (8, [3, 9]), (10, [3, 12]), (11, [3, 12]), (12, [3, 12]), (13, [3, 12]), (14, [3, 12]), (15, [12]), (16, [2]), (9, [2]), (6, [2]), (17, [2])]
def f27v : List Nat := []

/-! 28: mortise/word.low, parameters [22, 64, 4], results [22] -/
def f28r0 : List AOper := [
  ⟨(some 6), .move (.c (.int .u32 0)), none, 0, 0⟩]
def f28r1 : List AOper := [
  ⟨(some 8), .move (.t 1), none, 0, 0⟩,
  ⟨(some 9), .bin .sub (.c (.int .u64 32)) (.t 8), none, 0, 1⟩,
  ⟨(some 7), .move (.t 9), none, 0, 3⟩]
def f28r2 : List AOper := [
  ⟨(some 10), .move (.t 2), none, 0, 0⟩]
def f28r3 : List AOper := [
  ⟨(some 11), .move (.t 0), none, 0, 0⟩,
  ⟨(some 12), .move (.t 7), none, 0, 0⟩,
  ⟨(some 13), .bin .shl (.t 11) (.t 12), none, 0, 3⟩,
  ⟨(some 14), .conv .i32 (.t 13), none, 0, 7⟩,
  ⟨(some 15), .move (.t 7), none, 0, 0⟩,
  ⟨(some 16), .bin .shr (.t 14) (.t 15), none, 0, 31⟩,
  ⟨(some 17), .conv .u32 (.t 16), none, 0, 63⟩,
  ⟨(some 6), .move (.t 17), none, 0, 127⟩]
def f28r4 : List AOper := [
  ⟨(some 18), .move (.t 0), none, 0, 0⟩,
  ⟨(some 19), .move (.t 7), none, 0, 0⟩,
  ⟨(some 20), .bin .shl (.t 18) (.t 19), none, 0, 3⟩,
  ⟨(some 21), .move (.t 7), none, 0, 0⟩,
  ⟨(some 22), .bin .shr (.t 20) (.t 21), none, 0, 15⟩,
  ⟨(some 6), .move (.t 22), none, 0, 31⟩]
def f28c : ACode :=
  .seq (.region false f28r0 [0, 1, 2] 0)
  (.seq (.region false f28r1 [0, 2, 7] 0)
  (.seq (.seq (.region false f28r2 [0, 7, 10] 0)
  (.cond (.t 10)
    (.seq (.region false f28r3 [6] 0)
    (.ret))
    (.skip)))
  (.seq (.region false f28r4 [6] 0)
  (.ret))))
def f28 : AFn := ⟨3, 23, [.tmp 6], f28c, 1⟩
def f28k : List (Nat × List Nat) := [(0, [0, 1, 2]), (1, [0, 2, 7]), (2, [0, 7, 10]), (3, [6]), (4, [6])]
def f28v : List Nat := [17, 14]

/-! 29: mortise/word.Signed, parameters [23], results [4] -/
def f29r0 : List AOper := [
  ⟨(some 2), .move (.c (.bool false)), none, 0, 0⟩]
def f29r1 : List AOper := [
  ⟨(some 3), .move (.t 0), none, 0, 0⟩]
def f29r2 : List AOper := [
  ⟨(some 5), .bin .eql (.t 3) (.c (.int .i64 3)), none, 0, 0⟩,
  ⟨(some 4), .move (.t 5), none, 0, 1⟩]
def f29r3 : List AOper := [
  ⟨(some 6), .bin .eql (.t 3) (.c (.int .i64 4)), none, 0, 0⟩,
  ⟨(some 4), .move (.t 6), none, 0, 1⟩]
def f29r4 : List AOper := [
  ⟨(some 7), .bin .eql (.t 3) (.c (.int .i64 6)), none, 0, 0⟩,
  ⟨(some 4), .move (.t 7), none, 0, 1⟩]
def f29r5 : List AOper := [
  ⟨(some 8), .bin .eql (.t 3) (.c (.int .i64 8)), none, 0, 0⟩,
  ⟨(some 4), .move (.t 8), none, 0, 1⟩]
def f29r6 : List AOper := [
  ⟨(some 9), .bin .eql (.t 3) (.c (.int .i64 10)), none, 0, 0⟩,
  ⟨(some 4), .move (.t 9), none, 0, 1⟩]
def f29r7 : List AOper := [
  ⟨(some 10), .bin .eql (.t 3) (.c (.int .i64 12)), none, 0, 0⟩,
  ⟨(some 4), .move (.t 10), none, 0, 1⟩]
def f29r8 : List AOper := [
  ⟨(some 2), .move (.c (.bool true)), none, 0, 0⟩]
def f29r9 : List AOper := [
  ⟨(some 2), .move (.c (.bool false)), none, 0, 0⟩]
def f29c : ACode :=
  .seq (.region false f29r0 [0] 0)
  (.seq (.seq (.region false f29r1 [3] 0)
  (.block 0 (.seq (.seq (.region false f29r2 [3, 4] 0)
    (.cond (.t 4)
      (.skip)
      (.seq (.region false f29r3 [3, 4] 0)
      (.cond (.t 4)
        (.skip)
        (.seq (.region false f29r4 [3, 4] 0)
        (.cond (.t 4)
          (.skip)
          (.seq (.region false f29r5 [3, 4] 0)
          (.cond (.t 4)
            (.skip)
            (.seq (.region false f29r6 [3, 4] 0)
            (.cond (.t 4)
              (.skip)
              (.region false f29r7 [4] 0)))))))))))
    (.cond (.t 4)
      (.seq (.region false f29r8 [2] 0)
      (.ret))
      (.skip)))))
  (.seq (.region false f29r9 [2] 0)
  (.ret)))
def f29 : AFn := ⟨1, 11, [.tmp 2], f29c, 1⟩
def f29k : List (Nat × List Nat) := [(0, [0]), (1, [3]), (2, [3, 4]), (3, [3, 4]), (4, [3, 4]), (5, [3, 4]), (6, [3, 4]), (7, [4]), (8, [2]), (9, [2])]
def f29v : List Nat := []

/-! 30: mortise/conv.Usual$1, parameters [23], results [4] -/
def f30r0 : List AOper := [
  ⟨(some 4), .move (.c (.bool false)), none, 0, 0⟩]
def f30r1 : List AOper := [
  ⟨(some 5), .load false 1 (.t 1), none, 0, 0⟩,
  ⟨(some 6), .move (.t 0), none, 0, 0⟩,
  ⟨(some 7), .bin .eql (.t 5) (.t 6), none, 0, 3⟩,
  ⟨(some 8), .move (.t 7), none, 0, 7⟩,
  ⟨(some 9), .load false 1 (.t 2), (some (8, false)), 0, 15⟩,
  ⟨(some 10), .move (.t 0), (some (8, false)), 0, 15⟩,
  ⟨(some 11), .bin .eql (.t 9) (.t 10), (some (8, false)), 0, 63⟩,
  ⟨(some 12), .pick (.t 8) (.c (.bool true)) (.t 11), none, 0, 127⟩,
  ⟨(some 4), .move (.t 12), none, 0, 255⟩]
def f30c : ACode :=
  .seq (.region false f30r0 [0, 1, 2] 0)
  (.seq (.region false f30r1 [4] 0)
  (.ret))
def f30 : AFn := ⟨3, 13, [.tmp 4], f30c, 1⟩
def f30k : List (Nat × List Nat) := [(0, [0, 1, 2]), (1, [4])]
def f30v : List Nat := []

/-! 31: mortise/mortiseref07.Integer, parameters [23], results [4] -/
def f31r0 : List AOper := [
  ⟨(some 2), .move (.c (.bool false)), none, 0, 0⟩]
def f31r1 : List AOper := [
  ⟨(some 3), .move (.t 0), none, 0, 0⟩,
  ⟨(some 4), .bin .geq (.t 3) (.c (.int .i64 2)), none, 0, 1⟩,
  ⟨(some 5), .move (.t 4), none, 0, 3⟩,
  ⟨(some 6), .move (.t 0), (some (5, true)), 0, 7⟩,
  ⟨(some 7), .bin .leq (.t 6) (.c (.int .i64 12)), (some (5, true)), 0, 15⟩,
  ⟨(some 8), .pick (.t 5) (.t 7) (.c (.bool false)), none, 0, 31⟩,
  ⟨(some 2), .move (.t 8), none, 0, 63⟩]
def f31c : ACode :=
  .seq (.region false f31r0 [0] 0)
  (.seq (.region false f31r1 [2] 0)
  (.ret))
def f31 : AFn := ⟨1, 9, [.tmp 2], f31c, 1⟩
def f31k : List (Nat × List Nat) := [(0, [0]), (1, [2])]
def f31v : List Nat := []

/-! 32: mortise/mortiseref01.Name, parameters [27], results [9] -/
def f32r0 : List AOper := [
  ⟨(some 2), .move (.c (.str [])), none, 0, 0⟩]
def f32r1 : List AOper := [
  ⟨(some 3), .move (.t 0), none, 0, 0⟩,
  ⟨(some 4), .bin .lss (.t 3) (.c (.int .i64 1)), none, 0, 1⟩,
  ⟨(some 5), .move (.t 4), none, 0, 3⟩,
  ⟨(some 6), .move (.t 0), (some (5, false)), 0, 7⟩,
  ⟨(some 7), .bin .gtr (.t 6) (.c (.int .i64 19)), (some (5, false)), 0, 15⟩,
  ⟨(some 8), .pick (.t 5) (.c (.bool true)) (.t 7), none, 0, 31⟩]
def f32r2 : List AOper := [
  ⟨(some 2), .move (.c (.str [])), none, 0, 0⟩]
def f32r3 : List AOper := [
  ⟨(some 9), .call (.c (.fn 52 [] [])) [], none, 0, 0⟩,
  ⟨(some 10), .move (.t 0), none, 0, 0⟩,
  ⟨(some 11), .bin .sub (.t 10) (.c (.int .i64 1)), none, 0, 2⟩,
  ⟨(some 12), .idxAddr 1 (.t 9) (.t 11), none, 0, 7⟩,
  ⟨(some 13), .load false 1 (.t 12), none, 0, 15⟩,
  ⟨(some 2), .move (.t 13), none, 0, 31⟩]
def f32c : ACode :=
  .seq (.region false f32r0 [0] 0)
  (.seq (.seq (.region false f32r1 [0, 8] 0)
  (.cond (.t 8)
    (.seq (.region false f32r2 [2] 0)
    (.ret))
    (.skip)))
  (.seq (.region false f32r3 [2] 0)
  (.ret)))
def f32 : AFn := ⟨1, 14, [.tmp 2], f32c, 1⟩
def f32k : List (Nat × List Nat) := [(0, [0]), (1, [0, 8]), (2, [2]), (3, [2])]
def f32v : List Nat := []

/-! 33: mortise/mortiseref01.Bin, parameters [27, 22, 22], results [22, 4] -/
def f33r0 : List AOper := [
  ⟨(some 6), .move (.c (.int .u32 0)), none, 0, 0⟩,
  ⟨(some 7), .move (.c (.bool false)), none, 0, 1⟩]
def f33r1 : List AOper := [
  ⟨(some 13), .move (.t 2), none, 0, 0⟩,
  ⟨(some 14), .bin .rem (.t 13) (.c (.int .u32 32)), none, 0, 1⟩,
  ⟨(some 15), .conv .u64 (.t 14), none, 0, 3⟩,
  ⟨(some 8), .move (.t 15), none, 0, 7⟩]
def f33r2 : List AOper := [
  ⟨(some 16), .move (.t 0), none, 0, 0⟩]
def f33r3 : List AOper := [
  ⟨(some 18), .bin .eql (.t 16) (.c (.int .i64 1)), none, 0, 0⟩,
  ⟨(some 17), .move (.t 18), none, 0, 1⟩]
def f33r4 : List AOper := [
  ⟨(some 19), .move (.t 1), none, 0, 0⟩,
  ⟨(some 20), .move (.t 2), none, 0, 0⟩,
  ⟨(some 21), .bin .add (.t 19) (.t 20), none, 0, 3⟩,
  ⟨(some 6), .move (.t 21), none, 0, 7⟩,
  ⟨(some 7), .move (.c (.bool true)), none, 0, 15⟩]
def f33r5 : List AOper := [
  ⟨(some 23), .bin .eql (.t 16) (.c (.int .i64 2)), none, 0, 0⟩,
  ⟨(some 22), .move (.t 23), none, 0, 1⟩]
def f33r6 : List AOper := [
  ⟨(some 24), .move (.t 1), none, 0, 0⟩,
  ⟨(some 25), .move (.t 2), none, 0, 0⟩,
  ⟨(some 26), .bin .sub (.t 24) (.t 25), none, 0, 3⟩,
  ⟨(some 6), .move (.t 26), none, 0, 7⟩,
  ⟨(some 7), .move (.c (.bool true)), none, 0, 15⟩]
def f33r7 : List AOper := [
  ⟨(some 28), .bin .eql (.t 16) (.c (.int .i64 3)), none, 0, 0⟩,
  ⟨(some 27), .move (.t 28), none, 0, 1⟩]
def f33r8 : List AOper := [
  ⟨(some 29), .move (.t 1), none, 0, 0⟩,
  ⟨(some 30), .move (.t 2), none, 0, 0⟩,
  ⟨(some 31), .bin .mul (.t 29) (.t 30), none, 0, 3⟩,
  ⟨(some 6), .move (.t 31), none, 0, 7⟩,
  ⟨(some 7), .move (.c (.bool true)), none, 0, 15⟩]
def f33r9 : List AOper := [
  ⟨(some 33), .bin .eql (.t 16) (.c (.int .i64 4)), none, 0, 0⟩,
  ⟨(some 32), .move (.t 33), none, 0, 1⟩]
def f33r10 : List AOper := [
  ⟨(some 34), .bin .eql (.t 16) (.c (.int .i64 6)), none, 0, 0⟩,
  ⟨(some 32), .move (.t 34), none, 0, 1⟩]
def f33r11 : List AOper := [
  ⟨(some 35), .bin .eql (.t 16) (.c (.int .i64 5)), none, 0, 0⟩,
  ⟨(some 32), .move (.t 35), none, 0, 1⟩]
def f33r12 : List AOper := [
  ⟨(some 36), .bin .eql (.t 16) (.c (.int .i64 7)), none, 0, 0⟩,
  ⟨(some 32), .move (.t 36), none, 0, 1⟩]
def f33r13 : List AOper := [
  ⟨(some 37), .move (.t 2), none, 0, 0⟩,
  ⟨(some 38), .bin .eql (.t 37) (.c (.int .u32 0)), none, 0, 1⟩]
def f33r14 : List AOper := [
  ⟨(some 6), .move (.c (.int .u32 0)), none, 0, 0⟩,
  ⟨(some 7), .move (.c (.bool false)), none, 0, 1⟩]
def f33r15 : List AOper := [
  ⟨(some 39), .move (.t 1), none, 0, 0⟩,
  ⟨(some 40), .conv .i64 (.t 39), none, 0, 1⟩,
  ⟨(some 41), .move (.t 2), none, 0, 0⟩,
  ⟨(some 42), .conv .i64 (.t 41), none, 0, 4⟩,
  ⟨(some 9), .move (.t 40), none, 0, 3⟩,
  ⟨(some 10), .move (.t 42), none, 0, 31⟩]
def f33r16 : List AOper := [
  ⟨(some 43), .move (.t 0), none, 0, 0⟩,
  ⟨(some 44), .bin .eql (.t 43) (.c (.int .i64 4)), none, 0, 1⟩,
  ⟨(some 45), .move (.t 44), none, 0, 3⟩,
  ⟨(some 46), .move (.t 0), (some (45, false)), 0, 7⟩,
  ⟨(some 47), .bin .eql (.t 46) (.c (.int .i64 6)), (some (45, false)), 0, 15⟩,
  ⟨(some 48), .pick (.t 45) (.c (.bool true)) (.t 47), none, 0, 31⟩]
def f33r17 : List AOper := [
  ⟨(some 49), .move (.t 1), none, 0, 0⟩,
  ⟨(some 50), .call (.c (.fn 53 [] [])) [(.t 49)], none, 0, 1⟩,
  ⟨(some 51), .move (.t 2), none, 0, 0⟩,
  ⟨(some 52), .call (.c (.fn 53 [] [])) [(.t 51)], none, 0, 7⟩,
  ⟨(some 9), .move (.t 50), none, 0, 15⟩,
  ⟨(some 10), .move (.t 52), none, 0, 31⟩]
def f33r18 : List AOper := [
  ⟨(some 54), .move (.t 9), none, 0, 0⟩,
  ⟨(some 55), .move (.t 10), none, 0, 0⟩,
  ⟨(some 56), .call (.c (.fn 54 [] [])) [(.t 54), (.t 55)], none, 0, 3⟩,
  ⟨(some 53), .move (.t 56), none, 0, 7⟩,
  ⟨(some 57), .extract (.t 53) 0, none, 0, 15⟩,
  ⟨(some 58), .extract (.t 53) 1, none, 0, 15⟩,
  ⟨(some 11), .move (.t 57), none, 0, 31⟩,
  ⟨(some 12), .move (.t 58), none, 0, 127⟩]
def f33r19 : List AOper := [
  ⟨(some 59), .move (.t 0), none, 0, 0⟩,
  ⟨(some 60), .bin .eql (.t 59) (.c (.int .i64 4)), none, 0, 1⟩,
  ⟨(some 61), .move (.t 60), none, 0, 3⟩,
  ⟨(some 62), .move (.t 0), (some (61, false)), 0, 7⟩,
  ⟨(some 63), .bin .eql (.t 62) (.c (.int .i64 5)), (some (61, false)), 0, 15⟩,
  ⟨(some 64), .pick (.t 61) (.c (.bool true)) (.t 63), none, 0, 31⟩]
def f33r20 : List AOper := [
  ⟨(some 65), .move (.t 11), none, 0, 0⟩,
  ⟨(some 66), .call (.c (.fn 55 [] [])) [(.t 65)], none, 0, 1⟩,
  ⟨(some 6), .move (.t 66), none, 0, 3⟩,
  ⟨(some 7), .move (.c (.bool true)), none, 0, 7⟩]
def f33r21 : List AOper := [
  ⟨(some 67), .move (.t 12), none, 0, 0⟩,
  ⟨(some 68), .call (.c (.fn 55 [] [])) [(.t 67)], none, 0, 1⟩,
  ⟨(some 6), .move (.t 68), none, 0, 3⟩,
  ⟨(some 7), .move (.c (.bool true)), none, 0, 7⟩]
def f33r22 : List AOper := [
  ⟨(some 70), .bin .eql (.t 16) (.c (.int .i64 8)), none, 0, 0⟩,
  ⟨(some 69), .move (.t 70), none, 0, 1⟩]
def f33r23 : List AOper := [
  ⟨(some 71), .move (.t 1), none, 0, 0⟩,
  ⟨(some 72), .move (.t 2), none, 0, 0⟩,
  ⟨(some 73), .bin .and (.t 71) (.t 72), none, 0, 3⟩,
  ⟨(some 6), .move (.t 73), none, 0, 7⟩,
  ⟨(some 7), .move (.c (.bool true)), none, 0, 15⟩]
def f33r24 : List AOper := [
  ⟨(some 75), .bin .eql (.t 16) (.c (.int .i64 9)), none, 0, 0⟩,
  ⟨(some 74), .move (.t 75), none, 0, 1⟩]
def f33r25 : List AOper := [
  ⟨(some 76), .move (.t 1), none, 0, 0⟩,
  ⟨(some 77), .move (.t 2), none, 0, 0⟩,
  ⟨(some 78), .bin .or (.t 76) (.t 77), none, 0, 3⟩,
  ⟨(some 6), .move (.t 78), none, 0, 7⟩,
  ⟨(some 7), .move (.c (.bool true)), none, 0, 15⟩]
def f33r26 : List AOper := [
  ⟨(some 80), .bin .eql (.t 16) (.c (.int .i64 10)), none, 0, 0⟩,
  ⟨(some 79), .move (.t 80), none, 0, 1⟩]
def f33r27 : List AOper := [
  ⟨(some 81), .move (.t 1), none, 0, 0⟩,
  ⟨(some 82), .move (.t 2), none, 0, 0⟩,
  ⟨(some 83), .bin .xor (.t 81) (.t 82), none, 0, 3⟩,
  ⟨(some 6), .move (.t 83), none, 0, 7⟩,
  ⟨(some 7), .move (.c (.bool true)), none, 0, 15⟩]
def f33r28 : List AOper := [
  ⟨(some 85), .bin .eql (.t 16) (.c (.int .i64 11)), none, 0, 0⟩,
  ⟨(some 84), .move (.t 85), none, 0, 1⟩]
def f33r29 : List AOper := [
  ⟨(some 86), .move (.t 1), none, 0, 0⟩,
  ⟨(some 87), .move (.t 8), none, 0, 0⟩,
  ⟨(some 88), .bin .shl (.t 86) (.t 87), none, 0, 3⟩,
  ⟨(some 6), .move (.t 88), none, 0, 7⟩,
  ⟨(some 7), .move (.c (.bool true)), none, 0, 15⟩]
def f33r30 : List AOper := [
  ⟨(some 90), .bin .eql (.t 16) (.c (.int .i64 13)), none, 0, 0⟩,
  ⟨(some 89), .move (.t 90), none, 0, 1⟩]
def f33r31 : List AOper := [
  ⟨(some 91), .move (.t 1), none, 0, 0⟩,
  ⟨(some 92), .move (.t 8), none, 0, 0⟩,
  ⟨(some 93), .bin .shr (.t 91) (.t 92), none, 0, 3⟩,
  ⟨(some 6), .move (.t 93), none, 0, 7⟩,
  ⟨(some 7), .move (.c (.bool true)), none, 0, 15⟩]
def f33r32 : List AOper := [
  ⟨(some 95), .bin .eql (.t 16) (.c (.int .i64 12)), none, 0, 0⟩,
  ⟨(some 94), .move (.t 95), none, 0, 1⟩]
def f33r33 : List AOper := [
  ⟨(some 96), .move (.t 1), none, 0, 0⟩,
  ⟨(some 97), .call (.c (.fn 53 [] [])) [(.t 96)], none, 0, 1⟩,
  ⟨(some 98), .move (.t 8), none, 0, 0⟩,
  ⟨(some 99), .bin .shr (.t 97) (.t 98), none, 0, 7⟩,
  ⟨(some 100), .call (.c (.fn 55 [] [])) [(.t 99)], none, 0, 15⟩,
  ⟨(some 6), .move (.t 100), none, 0, 31⟩,
  ⟨(some 7), .move (.c (.bool true)), none, 0, 63⟩]
def f33r34 : List AOper := [
  ⟨(some 102), .bin .eql (.t 16) (.c (.int .i64 14)), none, 0, 0⟩,
  ⟨(some 101), .move (.t 102), none, 0, 1⟩]
def f33r35 : List AOper := [
  ⟨(some 103), .move (.t 1), none, 0, 0⟩,
  ⟨(some 104), .move (.t 2), none, 0, 0⟩,
  ⟨(some 105), .bin .eql (.t 103) (.t 104), none, 0, 3⟩,
  ⟨(some 106), .call (.c (.fn 56 [] [])) [(.t 105)], none, 0, 7⟩,
  ⟨(some 6), .move (.t 106), none, 0, 15⟩,
  ⟨(some 7), .move (.c (.bool true)), none, 0, 31⟩]
def f33r36 : List AOper := [
  ⟨(some 108), .bin .eql (.t 16) (.c (.int .i64 15)), none, 0, 0⟩,
  ⟨(some 107), .move (.t 108), none, 0, 1⟩]
def f33r37 : List AOper := [
  ⟨(some 109), .move (.t 1), none, 0, 0⟩,
  ⟨(some 110), .move (.t 2), none, 0, 0⟩,
  ⟨(some 111), .bin .neq (.t 109) (.t 110), none, 0, 3⟩,
  ⟨(some 112), .call (.c (.fn 56 [] [])) [(.t 111)], none, 0, 7⟩,
  ⟨(some 6), .move (.t 112), none, 0, 15⟩,
  ⟨(some 7), .move (.c (.bool true)), none, 0, 31⟩]
def f33r38 : List AOper := [
  ⟨(some 114), .bin .eql (.t 16) (.c (.int .i64 16)), none, 0, 0⟩,
  ⟨(some 113), .move (.t 114), none, 0, 1⟩]
def f33r39 : List AOper := [
  ⟨(some 115), .move (.t 1), none, 0, 0⟩,
  ⟨(some 116), .call (.c (.fn 53 [] [])) [(.t 115)], none, 0, 1⟩,
  ⟨(some 117), .move (.t 2), none, 0, 0⟩,
  ⟨(some 118), .call (.c (.fn 53 [] [])) [(.t 117)], none, 0, 7⟩,
  ⟨(some 119), .bin .lss (.t 116) (.t 118), none, 0, 15⟩,
  ⟨(some 120), .call (.c (.fn 56 [] [])) [(.t 119)], none, 0, 31⟩,
  ⟨(some 6), .move (.t 120), none, 0, 63⟩,
  ⟨(some 7), .move (.c (.bool true)), none, 0, 127⟩]
def f33r40 : List AOper := [
  ⟨(some 122), .bin .eql (.t 16) (.c (.int .i64 17)), none, 0, 0⟩,
  ⟨(some 121), .move (.t 122), none, 0, 1⟩]
def f33r41 : List AOper := [
  ⟨(some 123), .move (.t 1), none, 0, 0⟩,
  ⟨(some 124), .move (.t 2), none, 0, 0⟩,
  ⟨(some 125), .bin .lss (.t 123) (.t 124), none, 0, 3⟩,
  ⟨(some 126), .call (.c (.fn 56 [] [])) [(.t 125)], none, 0, 7⟩,
  ⟨(some 6), .move (.t 126), none, 0, 15⟩,
  ⟨(some 7), .move (.c (.bool true)), none, 0, 31⟩]
def f33r42 : List AOper := [
  ⟨(some 128), .bin .eql (.t 16) (.c (.int .i64 18)), none, 0, 0⟩,
  ⟨(some 127), .move (.t 128), none, 0, 1⟩]
def f33r43 : List AOper := [
  ⟨(some 129), .move (.t 1), none, 0, 0⟩,
  ⟨(some 130), .call (.c (.fn 53 [] [])) [(.t 129)], none, 0, 1⟩,
  ⟨(some 131), .move (.t 2), none, 0, 0⟩,
  ⟨(some 132), .call (.c (.fn 53 [] [])) [(.t 131)], none, 0, 7⟩,
  ⟨(some 133), .bin .leq (.t 130) (.t 132), none, 0, 15⟩,
  ⟨(some 134), .call (.c (.fn 56 [] [])) [(.t 133)], none, 0, 31⟩,
  ⟨(some 6), .move (.t 134), none, 0, 63⟩,
  ⟨(some 7), .move (.c (.bool true)), none, 0, 127⟩]
def f33r44 : List AOper := [
  ⟨(some 136), .bin .eql (.t 16) (.c (.int .i64 19)), none, 0, 0⟩,
  ⟨(some 135), .move (.t 136), none, 0, 1⟩]
def f33r45 : List AOper := [
  ⟨(some 137), .move (.t 1), none, 0, 0⟩,
  ⟨(some 138), .move (.t 2), none, 0, 0⟩,
  ⟨(some 139), .bin .leq (.t 137) (.t 138), none, 0, 3⟩,
  ⟨(some 140), .call (.c (.fn 56 [] [])) [(.t 139)], none, 0, 7⟩,
  ⟨(some 6), .move (.t 140), none, 0, 15⟩,
  ⟨(some 7), .move (.c (.bool true)), none, 0, 31⟩]
def f33r46 : List AOper := [
  ⟨(some 6), .move (.c (.int .u32 0)), none, 0, 0⟩,
  ⟨(some 7), .move (.c (.bool false)), none, 0, 1⟩]
def f33c : ACode :=
  .seq (.region false f33r0 [0, 1, 2] 0)
  (.seq (.region false f33r1 [0, 1, 2, 8] 0)
  (.seq (.seq (.region false f33r2 [0, 1, 2, 8, 16] 0)
  (.block 0 (.seq (.region false f33r3 [0, 1, 2, 8, 16, 17] 0)
    (.cond (.t 17)
      (.seq (.region false f33r4 [6, 7] 0)
      (.ret))
      (.seq (.region false f33r5 [0, 1, 2, 8, 16, 22] 0)
      (.cond (.t 22)
        (.seq (.region false f33r6 [6, 7] 0)
        (.ret))
        (.seq (.region false f33r7 [0, 1, 2, 8, 16, 27] 0)
        (.cond (.t 27)
          (.seq (.region false f33r8 [6, 7] 0)
          (.ret))
          (.seq (.seq (.region false f33r9 [0, 1, 2, 8, 16, 32] 0)
          (.cond (.t 32)
            (.skip)
            (.seq (.region false f33r10 [0, 1, 2, 8, 16, 32] 0)
            (.cond (.t 32)
              (.skip)
              (.seq (.region false f33r11 [0, 1, 2, 8, 16, 32] 0)
              (.cond (.t 32)
                (.skip)
                (.region false f33r12 [0, 1, 2, 8, 16, 32] 0)))))))
          (.cond (.t 32)
            (.seq (.seq (.region false f33r13 [0, 1, 2, 38] 0)
            (.cond (.t 38)
              (.seq (.region false f33r14 [6, 7] 0)
              (.ret))
              (.skip)))
            (.seq (.region false f33r15 [0, 1, 2, 9, 10] 0)
            (.seq (.seq (.region false f33r16 [0, 1, 2, 9, 10, 48] 0)
            (.cond (.t 48)
              (.region false f33r17 [0, 9, 10] 0)
              (.skip)))
            (.seq (.region false f33r18 [0, 11, 12] 0)
            (.seq (.seq (.region false f33r19 [11, 12, 64] 0)
            (.cond (.t 64)
              (.seq (.region false f33r20 [6, 7] 0)
              (.ret))
              (.skip)))
            (.seq (.region false f33r21 [6, 7] 0)
            (.ret)))))))
            (.seq (.region false f33r22 [1, 2, 8, 16, 69] 0)
            (.cond (.t 69)
              (.seq (.region false f33r23 [6, 7] 0)
              (.ret))
              (.seq (.region false f33r24 [1, 2, 8, 16, 74] 0)
              (.cond (.t 74)
                (.seq (.region false f33r25 [6, 7] 0)
                (.ret))
                (.seq (.region false f33r26 [1, 2, 8, 16, 79] 0)
                (.cond (.t 79)
                  (.seq (.region false f33r27 [6, 7] 0)
                  (.ret))
                  (.seq (.region false f33r28 [1, 2, 8, 16, 84] 0)
                  (.cond (.t 84)
                    (.seq (.region false f33r29 [6, 7] 0)
                    (.ret))
                    (.seq (.region false f33r30 [1, 2, 8, 16, 89] 0)
                    (.cond (.t 89)
                      (.seq (.region false f33r31 [6, 7] 0)
                      (.ret))
                      (.seq (.region false f33r32 [1, 2, 8, 16, 94] 0)
                      (.cond (.t 94)
                        (.seq (.region false f33r33 [6, 7] 0)
                        (.ret))
                        (.seq (.region false f33r34 [1, 2, 16, 101] 0)
                        (.cond (.t 101)
                          (.seq (.region false f33r35 [6, 7] 0)
                          (.ret))
                          (.seq (.region false f33r36 [1, 2, 16, 107] 0)
                          (.cond (.t 107)
                            (.seq (.region false f33r37 [6, 7] 0)
                            (.ret))
                            (.seq (.region false f33r38 [1, 2, 16, 113] 0)
                            (.cond (.t 113)
                              (.seq (.region false f33r39 [6, 7] 0)
                              (.ret))
                              (.seq (.region false f33r40 [1, 2, 16, 121] 0)
                              (.cond (.t 121)
                                (.seq (.region false f33r41 [6, 7] 0)
                                (.ret))
                                (.seq (.region false f33r42 [1, 2, 16, 127] 0)
                                (.cond (.t 127)
                                  (.seq (.region false f33r43 [6, 7] 0)
                                  (.ret))
                                  (.seq (.region false f33r44 [1, 2, 135] 0)
                                  (.cond (.t 135)
                                    (.seq (.region false f33r45 [6, 7] 0)
                                    (.ret))
                                    (.skip)))))))))))))))))))))))))))))))))))
  (.seq (.region false f33r46 [6, 7] 0)
  (.ret))))
def f33 : AFn := ⟨3, 141, [.tmp 6, .tmp 7], f33c, 1⟩
def f33k : List (Nat × List Nat) := [(0, [0, 1, 2]), (1, [0, 1, 2, 8]), (2, [0, 1, 2, 8, 16]), (3, [0, 1, 2, 8, 16, 17]), (5, [0, 1, 2, 8, 16, 22]), (7, [0, 1, 2, 8, 16, 27]), (9, [0, 1, 2, 8, 16, 32]), (10, [0, 1, 2, 8, 16, 32]), (11, [0, 1, 2, 8, 16, 32]), (12, [0, 1, 2, 8, 16, 32]), (22, [1, 2, 8, 16, 69]), (24, [1, 2, 8, 16, 74]), (26, [1, 2, 8, 16, 79]), (28, [1, 2, 8, 16, 84]), (30, [1, 2, 8, 16, 89]), (32, [1, 2, 8, 16, 94]), (34, [1, 2, 16, 101]), (36, [1, 2, 16, 107]), (38, [1, 2, 16, 113]), (40, [1, 2, 16, 121]), (42, [1, 2, 16, 127]), (44, [1, 2, 135]), (45, [6, 7]), (43, [6, 7]), (41, [6, 7]), (39, [6, 7]), (37, [6, 7]), (35, [6, 7]), (33, [6, 7]), (31, [6, 7]), (29, [6, 7]), (27, [6, 7]), (25, [6, 7]), (23, [6, 7]), (13, [0, 1, 2, 38]), (14, [6, 7]), (15, [0, 1, 2, 9, 10]), (16, [0, 1, 2, 9, 10, 48]), (17, [0, 9, 10]), (18, [0, 11, 12]), (19, [11, 12, 64]), (20, [6, 7]), (21, [6, 7]), (8, [6, 7]), (6, [6, 7]), (4, [6, 7]), (46, [6, 7])]
def f33v : List Nat := [42, 40, 15]

/-! 34: mortise/mortiseref01.Convert, parameters [23, 22], results [22] -/
def f34r0 : List AOper := [
  ⟨(some 4), .move (.c (.int .u32 0)), none, 0, 0⟩]
def f34r1 : List AOper := [
  ⟨(some 5), .move (.t 0), none, 0, 0⟩,
  ⟨(some 6), .bin .eql (.t 5) (.c (.int .i64 2)), none, 0, 1⟩]
def f34r2 : List AOper := [
  ⟨(some 7), .move (.t 1), none, 0, 0⟩,
  ⟨(some 8), .bin .eql (.t 7) (.c (.int .u32 0)), none, 0, 1⟩]
def f34r3 : List AOper := [
  ⟨(some 4), .move (.c (.int .u32 0)), none, 0, 0⟩]
def f34r4 : List AOper := [
  ⟨(some 4), .move (.c (.int .u32 1)), none, 0, 0⟩]
def f34r5 : List AOper := [
  ⟨(some 9), .move (.t 1), none, 0, 0⟩,
  ⟨(some 10), .move (.t 0), none, 0, 0⟩,
  ⟨(some 11), .call (.c (.fn 35 [] [])) [(.t 10)], none, 0, 2⟩,
  ⟨(some 12), .move (.t 0), none, 0, 0⟩,
  ⟨(some 13), .call (.c (.fn 58 [] [])) [(.t 12)], none, 0, 14⟩,
  ⟨(some 14), .call (.c (.fn 57 [] [])) [(.t 9), (.t 11), (.t 13)], none, 0, 31⟩,
  ⟨(some 4), .move (.t 14), none, 0, 63⟩]
def f34c : ACode :=
  .seq (.region false f34r0 [0, 1] 0)
  (.seq (.seq (.region false f34r1 [0, 1, 6] 0)
  (.cond (.t 6)
    (.seq (.seq (.region false f34r2 [8] 0)
    (.cond (.t 8)
      (.seq (.region false f34r3 [4] 0)
      (.ret))
      (.skip)))
    (.seq (.region false f34r4 [4] 0)
    (.ret)))
    (.skip)))
  (.seq (.region false f34r5 [4] 0)
  (.ret)))
def f34 : AFn := ⟨2, 15, [.tmp 4], f34c, 1⟩
def f34k : List (Nat × List Nat) := [(0, [0, 1]), (1, [0, 1, 6]), (2, [8]), (3, [4]), (4, [4]), (5, [4])]
def f34v : List Nat := []

/-! 35: mortise/mortiseref01.Width, parameters [23], results [3] -/
def f35r0 : List AOper := [
  ⟨(some 2), .move (.c (.int .i64 0)), none, 0, 0⟩]
def f35r1 : List AOper := [
  ⟨(some 3), .move (.t 0), none, 0, 0⟩]
def f35r2 : List AOper := [
  ⟨(some 5), .bin .eql (.t 3) (.c (.int .i64 2)), none, 0, 0⟩,
  ⟨(some 4), .move (.t 5), none, 0, 1⟩]
def f35r3 : List AOper := [
  ⟨(some 6), .bin .eql (.t 3) (.c (.int .i64 3)), none, 0, 0⟩,
  ⟨(some 4), .move (.t 6), none, 0, 1⟩]
def f35r4 : List AOper := [
  ⟨(some 7), .bin .eql (.t 3) (.c (.int .i64 4)), none, 0, 0⟩,
  ⟨(some 4), .move (.t 7), none, 0, 1⟩]
def f35r5 : List AOper := [
  ⟨(some 8), .bin .eql (.t 3) (.c (.int .i64 5)), none, 0, 0⟩,
  ⟨(some 4), .move (.t 8), none, 0, 1⟩]
def f35r6 : List AOper := [
  ⟨(some 2), .move (.c (.int .i64 1)), none, 0, 0⟩]
def f35r7 : List AOper := [
  ⟨(some 10), .bin .eql (.t 3) (.c (.int .i64 6)), none, 0, 0⟩,
  ⟨(some 9), .move (.t 10), none, 0, 1⟩]
def f35r8 : List AOper := [
  ⟨(some 11), .bin .eql (.t 3) (.c (.int .i64 7)), none, 0, 0⟩,
  ⟨(some 9), .move (.t 11), none, 0, 1⟩]
def f35r9 : List AOper := [
  ⟨(some 2), .move (.c (.int .i64 2)), none, 0, 0⟩]
def f35r10 : List AOper := [
  ⟨(some 13), .bin .eql (.t 3) (.c (.int .i64 8)), none, 0, 0⟩,
  ⟨(some 12), .move (.t 13), none, 0, 1⟩]
def f35r11 : List AOper := [
  ⟨(some 14), .bin .eql (.t 3) (.c (.int .i64 9)), none, 0, 0⟩,
  ⟨(some 12), .move (.t 14), none, 0, 1⟩]
def f35r12 : List AOper := [
  ⟨(some 15), .bin .eql (.t 3) (.c (.int .i64 10)), none, 0, 0⟩,
  ⟨(some 12), .move (.t 15), none, 0, 1⟩]
def f35r13 : List AOper := [
  ⟨(some 16), .bin .eql (.t 3) (.c (.int .i64 11)), none, 0, 0⟩,
  ⟨(some 12), .move (.t 16), none, 0, 1⟩]
def f35r14 : List AOper := [
  ⟨(some 17), .bin .eql (.t 3) (.c (.int .i64 12)), none, 0, 0⟩,
  ⟨(some 12), .move (.t 17), none, 0, 1⟩]
def f35r15 : List AOper := [
  ⟨(some 18), .bin .eql (.t 3) (.c (.int .i64 13)), none, 0, 0⟩,
  ⟨(some 12), .move (.t 18), none, 0, 1⟩]
def f35r16 : List AOper := [
  ⟨(some 2), .move (.c (.int .i64 4)), none, 0, 0⟩]
def f35r17 : List AOper := [
  ⟨(some 2), .move (.c (.int .i64 0)), none, 0, 0⟩]
def f35c : ACode :=
  .seq (.region false f35r0 [0] 0)
  (.seq (.seq (.region false f35r1 [3] 0)
  (.block 0 (.seq (.seq (.region false f35r2 [3, 4] 0)
    (.cond (.t 4)
      (.skip)
      (.seq (.region false f35r3 [3, 4] 0)
      (.cond (.t 4)
        (.skip)
        (.seq (.region false f35r4 [3, 4] 0)
        (.cond (.t 4)
          (.skip)
          (.region false f35r5 [3, 4] 0)))))))
    (.cond (.t 4)
      (.seq (.region false f35r6 [2] 0)
      (.ret))
      (.seq (.seq (.region false f35r7 [3, 9] 0)
      (.cond (.t 9)
        (.skip)
        (.region false f35r8 [3, 9] 0)))
      (.cond (.t 9)
        (.seq (.region false f35r9 [2] 0)
        (.ret))
        (.seq (.seq (.region false f35r10 [3, 12] 0)
        (.cond (.t 12)
          (.skip)
          (.seq (.region false f35r11 [3, 12] 0)
          (.cond (.t 12)
            (.skip)
            (.seq (.region false f35r12 [3, 12] 0)
            (.cond (.t 12)
              (.skip)
              (.seq (.region false f35r13 [3, 12] 0)
              (.cond (.t 12)
                (.skip)
                (.seq (.region false f35r14 [3, 12] 0)
                (.cond (.t 12)
                  (.skip)
                  (.region false f35r15 [12] 0)))))))))))
        (.cond (.t 12)
          (.seq (.region false f35r16 [2] 0)
          (.ret))
          (.skip)))))))))
  (.seq (.region false f35r17 [2] 0)
  (.ret)))
def f35 : AFn := ⟨1, 19, [.tmp 2], f35c, 1⟩
def f35k : List (Nat × List Nat) := [(0, [0]), (1, [3]), (2, [3, 4]), (3, [3, 4]), (4, [3, 4]), (5, [3, 4]), (7, [3, 9]), (8, [3, 9]), (10, [3, 12]), (11, [3, 12]), (12, [3, 12]), (13, [3, 12]), (14, [3, 12]), (15, [12]), (16, [2]), (9, [2]), (6, [2]), (17, [2])]
def f35v : List Nat := []

/-! 36: (*mortise/ctype.Table).alive, parameters [41], results [4] -/
def f36r0 : List AOper := [
  ⟨(some 2), .move (.c (.bool false)), none, 0, 0⟩]
def f36r1 : List AOper := [
  ⟨(some 3), .move (.t 0), none, 0, 0⟩,
  ⟨(some 4), .eq true .ptr (.t 3) (.c .nilp), none, 0, 1⟩,
  ⟨(some 5), .move (.t 4), none, 0, 3⟩,
  ⟨(some 6), .move (.t 0), (some (5, true)), 0, 7⟩,
  ⟨(some 7), .nilCheck (.t 6), (some (5, true)), 0, 15⟩,
  ⟨(some 8), .fieldAddr 1 (.t 7), (some (5, true)), 0, 31⟩,
  ⟨(some 9), .load false 1 (.t 8), (some (5, true)), 0, 63⟩,
  ⟨(some 10), .eq true .map (.t 9) (.c .nilm), (some (5, true)), 0, 127⟩,
  ⟨(some 11), .pick (.t 5) (.t 10) (.c (.bool false)), none, 0, 255⟩,
  ⟨(some 2), .move (.t 11), none, 0, 511⟩]
def f36c : ACode :=
  .seq (.region false f36r0 [0] 0)
  (.seq (.region false f36r1 [2] 0)
  (.ret))
def f36 : AFn := ⟨1, 12, [.tmp 2], f36c, 1⟩
def f36k : List (Nat × List Nat) := [(0, [0]), (1, [2])]
def f36v : List Nat := []

/-! 37: (*mortise/ctype.Table).has, parameters [41, 3], results [4] -/
def f37r0 : List AOper := [
  ⟨(some 4), .move (.c (.bool false)), none, 0, 0⟩]
def f37r1 : List AOper := [
  ⟨(some 5), .move (.t 0), none, 0, 0⟩,
  ⟨(some 6), .call (.c (.fn 36 [] [])) [(.t 5)], none, 0, 1⟩,
  ⟨(some 7), .move (.t 6), none, 0, 3⟩,
  ⟨(some 8), .move (.t 1), (some (7, true)), 0, 7⟩,
  ⟨(some 9), .bin .geq (.t 8) (.c (.int .i64 0)), (some (7, true)), 0, 15⟩,
  ⟨(some 10), .pick (.t 7) (.t 9) (.c (.bool false)), none, 0, 31⟩,
  ⟨(some 11), .move (.t 10), none, 0, 63⟩,
  ⟨(some 12), .move (.t 1), (some (11, true)), 0, 127⟩,
  ⟨(some 13), .move (.t 0), (some (11, true)), 0, 127⟩,
  ⟨(some 14), .nilCheck (.t 13), (some (11, true)), 0, 383⟩,
  ⟨(some 15), .fieldAddr 0 (.t 14), (some (11, true)), 0, 895⟩,
  ⟨(some 16), .load false 1 (.t 15), (some (11, true)), 0, 1919⟩,
  ⟨(some 17), .len 1 (.t 16), (some (11, true)), 0, 3967⟩,
  ⟨(some 18), .bin .lss (.t 12) (.t 17), (some (11, true)), 0, 8191⟩,
  ⟨(some 19), .pick (.t 11) (.t 18) (.c (.bool false)), none, 0, 16383⟩,
  ⟨(some 4), .move (.t 19), none, 0, 32767⟩]
def f37c : ACode :=
  .seq (.region false f37r0 [0, 1] 0)
  (.seq (.region false f37r1 [4] 0)
  (.ret))
def f37 : AFn := ⟨2, 20, [.tmp 4], f37c, 1⟩
def f37k : List (Nat × List Nat) := [(0, [0, 1]), (1, [4])]
def f37v : List Nat := []

/-! 38: (*mortise/ctype.Table).derived, parameters [41, 72], results [3, 24] -/
def f38r0 : List AOper := [
  ⟨(some 3), .box true (.t 1), none, 0, 0⟩,
  ⟨(some 4), .move (.c (.int .i64 0)), none, 0, 0⟩,
  ⟨(some 5), .move (.c (.int .i64 0)), none, 0, 2⟩]
def f38q1 : List AOper := [
  ⟨(some 11), .move (.t 0), none, 0, 0⟩,
  ⟨(some 12), .nilCheck (.t 11), none, 0, 1⟩,
  ⟨(some 13), .fieldAddr 1 (.t 12), none, 0, 3⟩,
  ⟨(some 14), .load false 1 (.t 13), none, 0, 7⟩,
  ⟨(some 15), .load true 3 (.t 3), none, 0, 0⟩,
  ⟨(some 16), .lookup true [.int .i64, .int .i64, .int .i64] (.int .i64 0) true (.t 14) (.t 15), none, 0, 31⟩,
  ⟨(some 10), .move (.t 16), none, 0, 63⟩,
  ⟨(some 17), .extract (.t 10) 0, none, 0, 127⟩,
  ⟨(some 18), .extract (.t 10) 1, none, 0, 127⟩,
  ⟨(some 6), .move (.t 17), none, 0, 255⟩,
  ⟨(some 7), .move (.t 18), none, 0, 1023⟩]
def f38r1 : List AOper := f38q1
def f38r2 : List AOper := [
  ⟨(some 19), .move (.t 7), none, 0, 0⟩]
def f38r3 : List AOper := [
  ⟨(some 20), .move (.t 6), none, 0, 0⟩,
  ⟨(some 4), .move (.t 20), none, 0, 1⟩,
  ⟨(some 5), .move (.c (.int .i64 0)), none, 0, 3⟩]
def f38r4 : List AOper := [
  ⟨(some 22), .move (.t 0), none, 0, 0⟩,
  ⟨(some 23), .fieldAddr 0 (.t 3), none, 0, 0⟩,
  ⟨(some 24), .load false 1 (.t 23), none, 0, 2⟩,
  ⟨(some 25), .fieldAddr 1 (.t 3), none, 0, 0⟩,
  ⟨(some 26), .load false 1 (.t 25), none, 0, 8⟩,
  ⟨(some 27), .fieldAddr 2 (.t 3), none, 0, 0⟩,
  ⟨(some 28), .load false 1 (.t 27), none, 0, 32⟩,
  ⟨(some 29), .build [(.int .i64 0), (.int .i64 0), (.int .i64 0), (.str []), (.is [] .nil), (.bool false)] [(0, 1, (.t 24)), (1, 1, (.t 26)), (2, 1, (.t 28))], none, 0, 126⟩,
  ⟨(some 30), .call (.c (.fn 59 [] [])) [(.t 22), (.t 29)], none, 0, 255⟩,
  ⟨(some 21), .move (.t 30), none, 0, 511⟩,
  ⟨(some 31), .extract (.t 21) 0, none, 0, 1023⟩,
  ⟨(some 32), .extract (.t 21) 1, none, 0, 1023⟩,
  ⟨(some 8), .move (.t 31), none, 0, 2047⟩,
  ⟨(some 9), .move (.t 32), none, 0, 8191⟩]
def f38r5 : List AOper := [
  ⟨(some 33), .move (.t 9), none, 0, 0⟩,
  ⟨(some 34), .bin .eql (.t 33) (.c (.int .i64 0)), none, 0, 1⟩]
def f38q6 : List AOper := [
  ⟨(some 35), .move (.t 0), none, 0, 0⟩,
  ⟨(some 36), .nilCheck (.t 35), none, 0, 1⟩,
  ⟨(some 37), .fieldAddr 1 (.t 36), none, 0, 3⟩,
  ⟨(some 38), .load false 1 (.t 37), none, 0, 7⟩,
  ⟨(some 39), .load true 3 (.t 3), none, 0, 0⟩,
  ⟨(some 40), .move (.t 8), none, 0, 0⟩,
  ⟨none, .mapUpdate true [.int .i64, .int .i64, .int .i64] (.t 38) (.t 39) (.t 40), none, 0, 63⟩]
def f38r6 : List AOper := f38q6
def f38r7 : List AOper := [
  ⟨(some 41), .move (.t 8), none, 0, 0⟩,
  ⟨(some 42), .move (.t 9), none, 0, 0⟩,
  ⟨(some 4), .move (.t 41), none, 0, 1⟩,
  ⟨(some 5), .move (.t 42), none, 0, 7⟩]
theorem f38r1_s : staticOK 0 f38r1 = true := by rfl
theorem f38r1_w {A : Tab} {nt : Nat} {keep : List Nat} {n : Nat} {e : Env} {h : Heap} (hr : (bkeep keep (stepsF nt (stepF A true) h.length f38r1 e (h ++ List.replicate n .free))).isSome = true) : Brun A nt (.region true f38r1 keep n) e h = bkeep keep (stepsF nt (stepF A true) h.length f38r1 e (h ++ List.replicate n .free)) := Brun_drawnS f38r1_s hr
theorem f38r1_u (nt base : Nat) (step : Nat → AOp → Env → Heap → Option (AV × Heap)) (e : Env) (h : Heap) : stepsF nt step base f38r1 e h = stepsF nt step base f38q1 e h := rfl
theorem f38r6_s : staticOK 0 f38r6 = true := by rfl
theorem f38r6_w {A : Tab} {nt : Nat} {keep : List Nat} {n : Nat} {e : Env} {h : Heap} (hr : (bkeep keep (stepsF nt (stepF A true) h.length f38r6 e (h ++ List.replicate n .free))).isSome = true) : Brun A nt (.region true f38r6 keep n) e h = bkeep keep (stepsF nt (stepF A true) h.length f38r6 e (h ++ List.replicate n .free)) := Brun_drawnS f38r6_s hr
theorem f38r6_u (nt base : Nat) (step : Nat → AOp → Env → Heap → Option (AV × Heap)) (e : Env) (h : Heap) : stepsF nt step base f38r6 e h = stepsF nt step base f38q6 e h := rfl
def f38c : ACode :=
  .seq (.region false f38r0 [0, 3] 0)
  (.seq (.seq (.region true f38r1 [0, 3, 6, 7] 0)
  (.seq (.region false f38r2 [0, 3, 6, 19] 0)
  (.cond (.t 19)
    (.seq (.region false f38r3 [4, 5] 0)
    (.ret))
    (.skip))))
  (.seq (.region false f38r4 [0, 3, 8, 9] 0)
  (.seq (.seq (.region false f38r5 [0, 3, 8, 9, 34] 0)
  (.cond (.t 34)
    (.region true f38r6 [8, 9] 0)
    (.skip)))
  (.seq (.region false f38r7 [4, 5] 0)
  (.ret)))))
def f38 : AFn := ⟨2, 43, [.tmp 4, .tmp 5], f38c, 1⟩
def f38k : List (Nat × List Nat) := [(0, [0, 3]), (1, [0, 3, 6, 7]), (2, [0, 3, 6, 19]), (3, [4, 5]), (4, [0, 3, 8, 9]), (5, [0, 3, 8, 9, 34]), (6, [8, 9]), (7, [4, 5])]
def f38v : List Nat := [3]

/-! 39: mortise/conv.look, parameters [41, 92], results [24] -/
def f39r0 : List AOper := [
  ⟨(some 4), .move (.c (.int .i64 0)), none, 0, 0⟩]
def f39r1 : List AOper := [
  ⟨(some 7), .move (.t 0), none, 0, 0⟩,
  ⟨(some 8), .call (.c (.fn 60 [] [])) [(.t 7)], none, 0, 1⟩,
  ⟨(some 9), .bin .eql (.t 8) (.c (.int .i64 0)), none, 0, 3⟩]
def f39r2 : List AOper := [
  ⟨(some 4), .move (.c (.int .i64 1)), none, 0, 0⟩]
def f39r3 : List AOper := [
  ⟨(some 10), .move (.t 1), none, 0, 0⟩,
  ⟨(some 11), .len 1 (.t 10), none, 0, 1⟩,
  ⟨(some 12), .move (.c (.int .i64 0)), none, 0, 0⟩]
def f39r4 : List AOper := [
  ⟨(some 13), .bin .lss (.t 12) (.t 11), none, 0, 0⟩]
def f39r5 : List AOper := [
  ⟨(some 14), .idxAddr 1 (.t 10) (.t 12), none, 0, 0⟩,
  ⟨(some 15), .load false 1 (.t 14), none, 0, 1⟩,
  ⟨(some 6), .move (.t 15), none, 0, 3⟩]
def f39r6 : List AOper := [
  ⟨(some 16), .move (.t 6), none, 0, 0⟩,
  ⟨(some 17), .bin .lss (.t 16) (.c (.int .i64 0)), none, 0, 1⟩,
  ⟨(some 18), .move (.t 17), none, 0, 3⟩,
  ⟨(some 19), .move (.t 6), (some (18, false)), 0, 7⟩,
  ⟨(some 20), .move (.t 0), (some (18, false)), 0, 7⟩,
  ⟨(some 21), .call (.c (.fn 60 [] [])) [(.t 20)], (some (18, false)), 0, 23⟩,
  ⟨(some 22), .bin .geq (.t 19) (.t 21), (some (18, false)), 0, 63⟩,
  ⟨(some 23), .pick (.t 18) (.c (.bool true)) (.t 22), none, 0, 127⟩]
def f39r7 : List AOper := [
  ⟨(some 4), .move (.c (.int .i64 30)), none, 0, 0⟩]
def f39r8 : List AOper := [
  ⟨(some 24), .bin .add (.t 12) (.c (.int .i64 1)), none, 0, 0⟩,
  ⟨(some 12), .move (.t 24), none, 0, 1⟩]
def f39l4 : ACode :=
  .seq (.region false f39r4 [0, 10, 11, 12, 13] 0)
  (.seq (.cond (.t 13)
    (.skip)
    (.exit 0))
  (.seq (.block 1 (.seq (.region false f39r5 [0, 6, 10, 11, 12] 0)
    (.seq (.region false f39r6 [0, 10, 11, 12, 23] 0)
    (.cond (.t 23)
      (.seq (.region false f39r7 [4] 0)
      (.ret))
      (.skip)))))
  (.region false f39r8 [0, 10, 11, 12] 0)))
def f39r9 : List AOper := [
  ⟨(some 4), .move (.c (.int .i64 0)), none, 0, 0⟩]
def f39c : ACode :=
  .seq (.region false f39r0 [0, 1] 0)
  (.seq (.seq (.region false f39r1 [0, 1, 9] 0)
  (.cond (.t 9)
    (.seq (.region false f39r2 [4] 0)
    (.ret))
    (.skip)))
  (.seq (.seq (.region false f39r3 [0, 10, 11, 12] 0)
  (.block 0 (.loop f39l4)))
  (.seq (.region false f39r9 [4] 0)
  (.ret))))
def f39 : AFn := ⟨2, 25, [.tmp 4], f39c, 1⟩
def f39k : List (Nat × List Nat) := [(0, [0, 1]), (1, [0, 1, 9]), (2, [4]), (3, [0, 10, 11, 12]), (4, [0, 10, 11, 12, 13]), (5, [0, 6, 10, 11, 12]), (6, [0, 10, 11, 12, 23]), (7, [4]), (8, [0, 10, 11, 12]), (9, [4])]
def f39v : List Nat := []

/-! 40: (mortise/conv.asker).integer, parameters [75, 3], results [4] -/
def f40r0 : List AOper := [
  ⟨(some 2), .box false (.t 0), none, 0, 0⟩,
  ⟨(some 4), .move (.c (.bool false)), none, 1, 0⟩]
def f40r1 : List AOper := [
  ⟨(some 5), .load true 1 (.t 2), none, 0, 0⟩,
  ⟨(some 6), .move (.t 1), none, 0, 0⟩,
  ⟨(some 7), .call (.c (.fn 42 [] [])) [(.t 5), (.t 6)], none, 0, 3⟩,
  ⟨(some 8), .call (.c (.fn 16 [] [])) [(.t 7)], none, 0, 7⟩,
  ⟨(some 4), .move (.t 8), none, 0, 15⟩]
def f40c : ACode :=
  .seq (.region false f40r0 [1, 2] 1)
  (.seq (.region false f40r1 [4] 0)
  (.ret))
def f40 : AFn := ⟨2, 9, [.tmp 4], f40c, 1⟩
def f40k : List (Nat × List Nat) := [(0, [1, 2]), (1, [4])]
def f40v : List Nat := []

/-! 41: mortise/conv.arithmetic, parameters [9, 23, 23], results [56, 24] -/
def f41r0 : List AOper := [
  ⟨(some 6), .alloc false (List.replicate 5 (.int .i64 0)), none, 0, 0⟩,
  ⟨(some 7), .move (.c (.int .i64 0)), none, 1, 0⟩]
def f41r1 : List AOper := [
  ⟨(some 16), .move (.t 1), none, 0, 0⟩,
  ⟨(some 17), .move (.t 2), none, 0, 0⟩,
  ⟨(some 18), .call (.c (.fn 10 [] [])) [(.t 16), (.t 17)], none, 0, 3⟩,
  ⟨(some 15), .move (.t 18), none, 0, 7⟩,
  ⟨(some 19), .extract (.t 15) 0, none, 0, 15⟩,
  ⟨(some 20), .extract (.t 15) 1, none, 0, 15⟩,
  ⟨(some 8), .move (.t 19), none, 0, 31⟩,
  ⟨(some 9), .move (.t 20), none, 0, 127⟩]
def f41r2 : List AOper := [
  ⟨(some 21), .move (.t 8), none, 0, 0⟩,
  ⟨(some 22), .call (.c (.fn 48 [] [])) [(.t 21)], none, 0, 1⟩,
  ⟨(some 10), .alloc false [(.int .i64 0)], none, 0, 0⟩,
  ⟨none, .store 1 (.t 10) (.t 22), none, 1, 7⟩]
def f41r3 : List AOper := [
  ⟨(some 23), .fn 61 [] [(.t 10)], none, 0, 0⟩,
  ⟨(some 11), .move (.t 23), none, 0, 1⟩]
def f41r4 : List AOper := [
  ⟨(some 24), .call (.c (.fn 48 [] [])) [(.c (.int .i64 8))], none, 0, 0⟩,
  ⟨(some 12), .move (.t 24), none, 0, 1⟩]
def f41r5 : List AOper := [
  ⟨(some 25), .move (.t 0), none, 0, 0⟩]
def f41r6 : List AOper := [
  ⟨(some 27), .bin .eql (.t 25) (.c (.str [43])), none, 0, 0⟩,
  ⟨(some 26), .move (.t 27), none, 0, 1⟩]
def f41r7 : List AOper := [
  ⟨(some 28), .move (.t 11), none, 0, 0⟩,
  ⟨(some 29), .load false 1 (.t 10), none, 0, 0⟩,
  ⟨(some 30), .call (.t 28) [(.c (.int .i64 1)), (.t 29)], none, 0, 3⟩,
  ⟨(some 31), .extract (.t 30) 0, none, 0, 7⟩,
  ⟨(some 32), .extract (.t 30) 1, none, 0, 7⟩,
  ⟨none, .store 5 (.t 6) (.t 31), none, 0, 31⟩,
  ⟨(some 7), .move (.t 32), none, 0, 63⟩]
def f41r8 : List AOper := [
  ⟨(some 34), .bin .eql (.t 25) (.c (.str [45])), none, 0, 0⟩,
  ⟨(some 33), .move (.t 34), none, 0, 1⟩]
def f41r9 : List AOper := [
  ⟨(some 35), .move (.t 11), none, 0, 0⟩,
  ⟨(some 36), .load false 1 (.t 10), none, 0, 0⟩,
  ⟨(some 37), .call (.t 35) [(.c (.int .i64 2)), (.t 36)], none, 0, 3⟩,
  ⟨(some 38), .extract (.t 37) 0, none, 0, 7⟩,
  ⟨(some 39), .extract (.t 37) 1, none, 0, 7⟩,
  ⟨none, .store 5 (.t 6) (.t 38), none, 0, 31⟩,
  ⟨(some 7), .move (.t 39), none, 0, 63⟩]
def f41r10 : List AOper := [
  ⟨(some 41), .bin .eql (.t 25) (.c (.str [42])), none, 0, 0⟩,
  ⟨(some 40), .move (.t 41), none, 0, 1⟩]
def f41r11 : List AOper := [
  ⟨(some 42), .move (.t 11), none, 0, 0⟩,
  ⟨(some 43), .load false 1 (.t 10), none, 0, 0⟩,
  ⟨(some 44), .call (.t 42) [(.c (.int .i64 3)), (.t 43)], none, 0, 3⟩,
  ⟨(some 45), .extract (.t 44) 0, none, 0, 7⟩,
  ⟨(some 46), .extract (.t 44) 1, none, 0, 7⟩,
  ⟨none, .store 5 (.t 6) (.t 45), none, 0, 31⟩,
  ⟨(some 7), .move (.t 46), none, 0, 63⟩]
def f41r12 : List AOper := [
  ⟨(some 48), .bin .eql (.t 25) (.c (.str [47])), none, 0, 0⟩,
  ⟨(some 47), .move (.t 48), none, 0, 1⟩]
def f41q13 : List AOper := [
  ⟨(some 49), .move (.t 11), none, 0, 0⟩,
  ⟨(some 50), .move (.t 8), none, 0, 0⟩,
  ⟨(some 51), .call (.c (.fn 62 [] [])) [(.t 50), (.c (.int .i64 4)), (.c (.int .i64 5))], none, 0, 2⟩,
  ⟨(some 52), .load false 1 (.t 10), none, 0, 0⟩,
  ⟨(some 53), .call (.t 49) [(.t 51), (.t 52)], none, 0, 15⟩,
  ⟨(some 54), .extract (.t 53) 0, none, 0, 31⟩,
  ⟨(some 55), .extract (.t 53) 1, none, 0, 31⟩,
  ⟨none, .store 5 (.t 6) (.t 54), none, 0, 127⟩,
  ⟨(some 7), .move (.t 55), none, 0, 255⟩]
def f41r13 : List AOper := f41q13
def f41r14 : List AOper := [
  ⟨(some 57), .bin .eql (.t 25) (.c (.str [37])), none, 0, 0⟩,
  ⟨(some 56), .move (.t 57), none, 0, 1⟩]
def f41q15 : List AOper := [
  ⟨(some 58), .move (.t 11), none, 0, 0⟩,
  ⟨(some 59), .move (.t 8), none, 0, 0⟩,
  ⟨(some 60), .call (.c (.fn 62 [] [])) [(.t 59), (.c (.int .i64 6)), (.c (.int .i64 7))], none, 0, 2⟩,
  ⟨(some 61), .load false 1 (.t 10), none, 0, 0⟩,
  ⟨(some 62), .call (.t 58) [(.t 60), (.t 61)], none, 0, 15⟩,
  ⟨(some 63), .extract (.t 62) 0, none, 0, 31⟩,
  ⟨(some 64), .extract (.t 62) 1, none, 0, 31⟩,
  ⟨none, .store 5 (.t 6) (.t 63), none, 0, 127⟩,
  ⟨(some 7), .move (.t 64), none, 0, 255⟩]
def f41r15 : List AOper := f41q15
def f41r16 : List AOper := [
  ⟨(some 66), .bin .eql (.t 25) (.c (.str [38])), none, 0, 0⟩,
  ⟨(some 65), .move (.t 66), none, 0, 1⟩]
def f41r17 : List AOper := [
  ⟨(some 67), .move (.t 11), none, 0, 0⟩,
  ⟨(some 68), .load false 1 (.t 10), none, 0, 0⟩,
  ⟨(some 69), .call (.t 67) [(.c (.int .i64 8)), (.t 68)], none, 0, 3⟩,
  ⟨(some 70), .extract (.t 69) 0, none, 0, 7⟩,
  ⟨(some 71), .extract (.t 69) 1, none, 0, 7⟩,
  ⟨none, .store 5 (.t 6) (.t 70), none, 0, 31⟩,
  ⟨(some 7), .move (.t 71), none, 0, 63⟩]
def f41r18 : List AOper := [
  ⟨(some 73), .bin .eql (.t 25) (.c (.str [124])), none, 0, 0⟩,
  ⟨(some 72), .move (.t 73), none, 0, 1⟩]
def f41r19 : List AOper := [
  ⟨(some 74), .move (.t 11), none, 0, 0⟩,
  ⟨(some 75), .load false 1 (.t 10), none, 0, 0⟩,
  ⟨(some 76), .call (.t 74) [(.c (.int .i64 9)), (.t 75)], none, 0, 3⟩,
  ⟨(some 77), .extract (.t 76) 0, none, 0, 7⟩,
  ⟨(some 78), .extract (.t 76) 1, none, 0, 7⟩,
  ⟨none, .store 5 (.t 6) (.t 77), none, 0, 31⟩,
  ⟨(some 7), .move (.t 78), none, 0, 63⟩]
def f41r20 : List AOper := [
  ⟨(some 80), .bin .eql (.t 25) (.c (.str [94])), none, 0, 0⟩,
  ⟨(some 79), .move (.t 80), none, 0, 1⟩]
def f41r21 : List AOper := [
  ⟨(some 81), .move (.t 11), none, 0, 0⟩,
  ⟨(some 82), .load false 1 (.t 10), none, 0, 0⟩,
  ⟨(some 83), .call (.t 81) [(.c (.int .i64 10)), (.t 82)], none, 0, 3⟩,
  ⟨(some 84), .extract (.t 83) 0, none, 0, 7⟩,
  ⟨(some 85), .extract (.t 83) 1, none, 0, 7⟩,
  ⟨none, .store 5 (.t 6) (.t 84), none, 0, 31⟩,
  ⟨(some 7), .move (.t 85), none, 0, 63⟩]
def f41r22 : List AOper := [
  ⟨(some 87), .bin .eql (.t 25) (.c (.str [61, 61])), none, 0, 0⟩,
  ⟨(some 86), .move (.t 87), none, 0, 1⟩]
def f41r23 : List AOper := [
  ⟨(some 88), .move (.t 11), none, 0, 0⟩,
  ⟨(some 89), .move (.t 12), none, 0, 0⟩,
  ⟨(some 90), .call (.t 88) [(.c (.int .i64 14)), (.t 89)], none, 0, 3⟩,
  ⟨(some 91), .extract (.t 90) 0, none, 0, 7⟩,
  ⟨(some 92), .extract (.t 90) 1, none, 0, 7⟩,
  ⟨none, .store 5 (.t 6) (.t 91), none, 0, 31⟩,
  ⟨(some 7), .move (.t 92), none, 0, 63⟩]
def f41r24 : List AOper := [
  ⟨(some 94), .bin .eql (.t 25) (.c (.str [33, 61])), none, 0, 0⟩,
  ⟨(some 93), .move (.t 94), none, 0, 1⟩]
def f41r25 : List AOper := [
  ⟨(some 95), .move (.t 11), none, 0, 0⟩,
  ⟨(some 96), .move (.t 12), none, 0, 0⟩,
  ⟨(some 97), .call (.t 95) [(.c (.int .i64 15)), (.t 96)], none, 0, 3⟩,
  ⟨(some 98), .extract (.t 97) 0, none, 0, 7⟩,
  ⟨(some 99), .extract (.t 97) 1, none, 0, 7⟩,
  ⟨none, .store 5 (.t 6) (.t 98), none, 0, 31⟩,
  ⟨(some 7), .move (.t 99), none, 0, 63⟩]
def f41r26 : List AOper := [
  ⟨(some 101), .bin .eql (.t 25) (.c (.str [60])), none, 0, 0⟩,
  ⟨(some 100), .move (.t 101), none, 0, 1⟩]
def f41r27 : List AOper := [
  ⟨(some 102), .bin .eql (.t 25) (.c (.str [62])), none, 0, 0⟩,
  ⟨(some 100), .move (.t 102), none, 0, 1⟩]
def f41r28 : List AOper := [
  ⟨(some 103), .move (.t 11), none, 0, 0⟩,
  ⟨(some 104), .move (.t 8), none, 0, 0⟩,
  ⟨(some 105), .call (.c (.fn 62 [] [])) [(.t 104), (.c (.int .i64 16)), (.c (.int .i64 17))], none, 0, 2⟩,
  ⟨(some 106), .move (.t 12), none, 0, 0⟩,
  ⟨(some 107), .call (.t 103) [(.t 105), (.t 106)], none, 0, 15⟩,
  ⟨(some 108), .extract (.t 107) 0, none, 0, 31⟩,
  ⟨(some 109), .extract (.t 107) 1, none, 0, 31⟩,
  ⟨none, .store 5 (.t 6) (.t 108), none, 0, 127⟩,
  ⟨(some 7), .move (.t 109), none, 0, 255⟩]
def f41r29 : List AOper := [
  ⟨(some 111), .bin .eql (.t 25) (.c (.str [60, 61])), none, 0, 0⟩,
  ⟨(some 110), .move (.t 111), none, 0, 1⟩]
def f41r30 : List AOper := [
  ⟨(some 112), .bin .eql (.t 25) (.c (.str [62, 61])), none, 0, 0⟩,
  ⟨(some 110), .move (.t 112), none, 0, 1⟩]
def f41r31 : List AOper := [
  ⟨(some 113), .move (.t 11), none, 0, 0⟩,
  ⟨(some 114), .move (.t 8), none, 0, 0⟩,
  ⟨(some 115), .call (.c (.fn 62 [] [])) [(.t 114), (.c (.int .i64 18)), (.c (.int .i64 19))], none, 0, 2⟩,
  ⟨(some 116), .move (.t 12), none, 0, 0⟩,
  ⟨(some 117), .call (.t 113) [(.t 115), (.t 116)], none, 0, 15⟩,
  ⟨(some 118), .extract (.t 117) 0, none, 0, 31⟩,
  ⟨(some 119), .extract (.t 117) 1, none, 0, 31⟩,
  ⟨none, .store 5 (.t 6) (.t 118), none, 0, 127⟩,
  ⟨(some 7), .move (.t 119), none, 0, 255⟩]
def f41r32 : List AOper := [
  ⟨(some 121), .bin .eql (.t 25) (.c (.str [60, 60])), none, 0, 0⟩,
  ⟨(some 120), .move (.t 121), none, 0, 1⟩]
def f41r33 : List AOper := [
  ⟨(some 122), .bin .eql (.t 25) (.c (.str [62, 62])), none, 0, 0⟩,
  ⟨(some 120), .move (.t 122), none, 0, 1⟩]
def f41r34 : List AOper := [
  ⟨(some 123), .move (.t 1), none, 0, 0⟩,
  ⟨(some 124), .call (.c (.fn 13 [] [])) [(.t 123), (.c (.int .i64 (-1)))], none, 0, 1⟩,
  ⟨(some 13), .move (.t 124), none, 0, 3⟩]
def f41r35 : List AOper := [
  ⟨(some 14), .move (.c (.int .i64 11)), none, 0, 0⟩]
def f41r36 : List AOper := [
  ⟨(some 125), .move (.t 0), none, 0, 0⟩,
  ⟨(some 126), .bin .eql (.t 125) (.c (.str [62, 62])), none, 0, 1⟩]
def f41r37 : List AOper := [
  ⟨(some 127), .move (.t 13), none, 0, 0⟩,
  ⟨(some 128), .call (.c (.fn 62 [] [])) [(.t 127), (.c (.int .i64 12)), (.c (.int .i64 13))], none, 0, 1⟩,
  ⟨(some 14), .move (.t 128), none, 0, 3⟩]
def f41r38 : List AOper := [
  ⟨(some 129), .move (.t 14), none, 0, 0⟩,
  ⟨(some 130), .move (.t 13), none, 0, 0⟩,
  ⟨(some 131), .call (.c (.fn 48 [] [])) [(.t 130)], none, 0, 2⟩,
  ⟨(some 132), .move (.t 12), none, 0, 0⟩,
  ⟨(some 133), .move (.t 13), none, 0, 0⟩,
  ⟨(some 134), .call (.c (.fn 48 [] [])) [(.t 133)], none, 0, 22⟩,
  ⟨(some 135), .build (List.replicate 5 (.int .i64 0)) [(0, 1, (.t 129)), (1, 1, (.t 131)), (2, 1, (.t 132)), (3, 1, (.t 134))], none, 0, 63⟩,
  ⟨none, .store 5 (.t 6) (.t 135), none, 0, 127⟩,
  ⟨(some 7), .move (.c (.int .i64 0)), none, 0, 255⟩]
def f41r39 : List AOper := [
  ⟨(some 136), .build (List.replicate 5 (.int .i64 0)) [], none, 0, 0⟩,
  ⟨none, .store 5 (.t 6) (.t 136), none, 0, 1⟩,
  ⟨(some 7), .move (.c (.int .i64 70)), none, 0, 3⟩]
theorem f41r13_s : staticOK 0 f41r13 = true := by rfl
theorem f41r13_w {A : Tab} {nt : Nat} {keep : List Nat} {n : Nat} {e : Env} {h : Heap} (hr : (bkeep keep (stepsF nt (stepF A true) h.length f41r13 e (h ++ List.replicate n .free))).isSome = true) : Brun A nt (.region true f41r13 keep n) e h = bkeep keep (stepsF nt (stepF A true) h.length f41r13 e (h ++ List.replicate n .free)) := Brun_drawnS f41r13_s hr
theorem f41r13_u (nt base : Nat) (step : Nat → AOp → Env → Heap → Option (AV × Heap)) (e : Env) (h : Heap) : stepsF nt step base f41r13 e h = stepsF nt step base f41q13 e h := rfl
theorem f41r15_s : staticOK 0 f41r15 = true := by rfl
theorem f41r15_w {A : Tab} {nt : Nat} {keep : List Nat} {n : Nat} {e : Env} {h : Heap} (hr : (bkeep keep (stepsF nt (stepF A true) h.length f41r15 e (h ++ List.replicate n .free))).isSome = true) : Brun A nt (.region true f41r15 keep n) e h = bkeep keep (stepsF nt (stepF A true) h.length f41r15 e (h ++ List.replicate n .free)) := Brun_drawnS f41r15_s hr
theorem f41r15_u (nt base : Nat) (step : Nat → AOp → Env → Heap → Option (AV × Heap)) (e : Env) (h : Heap) : stepsF nt step base f41r15 e h = stepsF nt step base f41q15 e h := rfl
def f41c : ACode :=
  .seq (.region false f41r0 [0, 1, 2, 6] 1)
  (.seq (.region false f41r1 [0, 1, 6, 8] 0)
  (.seq (.region false f41r2 [0, 1, 6, 8, 10] 1)
  (.seq (.region false f41r3 [0, 1, 6, 8, 10, 11] 0)
  (.seq (.region false f41r4 [0, 1, 6, 8, 10, 11, 12] 0)
  (.seq (.seq (.region false f41r5 [0, 1, 6, 8, 10, 11, 12, 25] 0)
  (.block 0 (.seq (.region false f41r6 [0, 1, 6, 8, 10, 11, 12, 25, 26] 0)
    (.cond (.t 26)
      (.seq (.region false f41r7 [6, 7] 0)
      (.ret))
      (.seq (.region false f41r8 [0, 1, 6, 8, 10, 11, 12, 25, 33] 0)
      (.cond (.t 33)
        (.seq (.region false f41r9 [6, 7] 0)
        (.ret))
        (.seq (.region false f41r10 [0, 1, 6, 8, 10, 11, 12, 25, 40] 0)
        (.cond (.t 40)
          (.seq (.region false f41r11 [6, 7] 0)
          (.ret))
          (.seq (.region false f41r12 [0, 1, 6, 8, 10, 11, 12, 25, 47] 0)
          (.cond (.t 47)
            (.seq (.region true f41r13 [6, 7] 0)
            (.ret))
            (.seq (.region false f41r14 [0, 1, 6, 8, 10, 11, 12, 25, 56] 0)
            (.cond (.t 56)
              (.seq (.region true f41r15 [6, 7] 0)
              (.ret))
              (.seq (.region false f41r16 [0, 1, 6, 8, 10, 11, 12, 25, 65] 0)
              (.cond (.t 65)
                (.seq (.region false f41r17 [6, 7] 0)
                (.ret))
                (.seq (.region false f41r18 [0, 1, 6, 8, 10, 11, 12, 25, 72] 0)
                (.cond (.t 72)
                  (.seq (.region false f41r19 [6, 7] 0)
                  (.ret))
                  (.seq (.region false f41r20 [0, 1, 6, 8, 10, 11, 12, 25, 79] 0)
                  (.cond (.t 79)
                    (.seq (.region false f41r21 [6, 7] 0)
                    (.ret))
                    (.seq (.region false f41r22 [0, 1, 6, 8, 11, 12, 25, 86] 0)
                    (.cond (.t 86)
                      (.seq (.region false f41r23 [6, 7] 0)
                      (.ret))
                      (.seq (.region false f41r24 [0, 1, 6, 8, 11, 12, 25, 93] 0)
                      (.cond (.t 93)
                        (.seq (.region false f41r25 [6, 7] 0)
                        (.ret))
                        (.seq (.seq (.region false f41r26 [0, 1, 6, 8, 11, 12, 25, 100] 0)
                        (.cond (.t 100)
                          (.skip)
                          (.region false f41r27 [0, 1, 6, 8, 11, 12, 25, 100] 0)))
                        (.cond (.t 100)
                          (.seq (.region false f41r28 [6, 7] 0)
                          (.ret))
                          (.seq (.seq (.region false f41r29 [0, 1, 6, 8, 11, 12, 25, 110] 0)
                          (.cond (.t 110)
                            (.skip)
                            (.region false f41r30 [0, 1, 6, 8, 11, 12, 25, 110] 0)))
                          (.cond (.t 110)
                            (.seq (.region false f41r31 [6, 7] 0)
                            (.ret))
                            (.seq (.seq (.region false f41r32 [0, 1, 6, 12, 25, 120] 0)
                            (.cond (.t 120)
                              (.skip)
                              (.region false f41r33 [0, 1, 6, 12, 120] 0)))
                            (.cond (.t 120)
                              (.seq (.region false f41r34 [0, 6, 12, 13] 0)
                              (.seq (.region false f41r35 [0, 6, 12, 13, 14] 0)
                              (.seq (.seq (.region false f41r36 [6, 12, 13, 14, 126] 0)
                              (.cond (.t 126)
                                (.region false f41r37 [6, 12, 13, 14] 0)
                                (.skip)))
                              (.seq (.region false f41r38 [6, 7] 0)
                              (.ret)))))
                              (.skip)))))))))))))))))))))))))))))
  (.seq (.region false f41r39 [6, 7] 0)
  (.ret)))))))
def f41 : AFn := ⟨3, 137, [.cell 6 true 5, .tmp 7], f41c, 1⟩
def f41k : List (Nat × List Nat) := [(0, [0, 1, 2, 6]), (1, [0, 1, 6, 8]), (2, [0, 1, 6, 8, 10]), (3, [0, 1, 6, 8, 10, 11]), (4, [0, 1, 6, 8, 10, 11, 12]), (5, [0, 1, 6, 8, 10, 11, 12, 25]), (6, [0, 1, 6, 8, 10, 11, 12, 25, 26]), (8, [0, 1, 6, 8, 10, 11, 12, 25, 33]), (10, [0, 1, 6, 8, 10, 11, 12, 25, 40]), (12, [0, 1, 6, 8, 10, 11, 12, 25, 47]), (14, [0, 1, 6, 8, 10, 11, 12, 25, 56]), (16, [0, 1, 6, 8, 10, 11, 12, 25, 65]), (18, [0, 1, 6, 8, 10, 11, 12, 25, 72]), (20, [0, 1, 6, 8, 10, 11, 12, 25, 79]), (22, [0, 1, 6, 8, 11, 12, 25, 86]), (24, [0, 1, 6, 8, 11, 12, 25, 93]), (26, [0, 1, 6, 8, 11, 12, 25, 100]), (27, [0, 1, 6, 8, 11, 12, 25, 100]), (29, [0, 1, 6, 8, 11, 12, 25, 110]), (30, [0, 1, 6, 8, 11, 12, 25, 110]), (32, [0, 1, 6, 12, 25, 120]), (33, [0, 1, 6, 12, 120]), (34, [0, 6, 12, 13]), (35, [0, 6, 12, 13, 14]), (36, [6, 12, 13, 14, 126]), (37, [6, 12, 13, 14]), (38, [6, 7]), (31, [6, 7]), (28, [6, 7]), (25, [6, 7]), (23, [6, 7]), (21, [6, 7]), (19, [6, 7]), (17, [6, 7]), (15, [6, 7]), (13, [6, 7]), (11, [6, 7]), (9, [6, 7]), (7, [6, 7]), (39, [6, 7])]
def f41v : List Nat := []

/-! 42: (mortise/conv.asker).kind, parameters [75, 3], results [23] -/
def f42r0 : List AOper := [
  ⟨(some 2), .box false (.t 0), none, 0, 0⟩,
  ⟨(some 4), .move (.c (.int .i64 0)), none, 1, 0⟩]
def f42r1 : List AOper := [
  ⟨(some 5), .load true 1 (.t 2), none, 0, 0⟩,
  ⟨(some 6), .move (.t 1), none, 0, 0⟩,
  ⟨(some 7), .call (.c (.fn 50 [] [])) [(.t 5), (.t 6)], none, 0, 3⟩,
  ⟨(some 8), .field false 0 1 (.t 7), none, 0, 7⟩,
  ⟨(some 4), .move (.t 8), none, 0, 15⟩]
def f42c : ACode :=
  .seq (.region false f42r0 [1, 2] 1)
  (.seq (.region false f42r1 [4] 0)
  (.ret))
def f42 : AFn := ⟨2, 9, [.tmp 4], f42c, 1⟩
def f42k : List (Nat × List Nat) := [(0, [1, 2]), (1, [4])]
def f42v : List Nat := []

/-! 43: (mortise/conv.asker).pointer, parameters [75, 3], results [4] -/
def f43r0 : List AOper := [
  ⟨(some 2), .box false (.t 0), none, 0, 0⟩,
  ⟨(some 4), .move (.c (.bool false)), none, 1, 0⟩]
def f43r1 : List AOper := [
  ⟨(some 5), .load true 1 (.t 2), none, 0, 0⟩,
  ⟨(some 6), .move (.t 1), none, 0, 0⟩,
  ⟨(some 7), .call (.c (.fn 42 [] [])) [(.t 5), (.t 6)], none, 0, 3⟩,
  ⟨(some 8), .bin .eql (.t 7) (.c (.int .i64 13)), none, 0, 7⟩,
  ⟨(some 4), .move (.t 8), none, 0, 15⟩]
def f43c : ACode :=
  .seq (.region false f43r0 [1, 2] 1)
  (.seq (.region false f43r1 [4] 0)
  (.ret))
def f43 : AFn := ⟨2, 9, [.tmp 4], f43c, 1⟩
def f43k : List (Nat × List Nat) := [(0, [1, 2]), (1, [4])]
def f43v : List Nat := []

/-! 44: (mortise/conv.asker).pointers, parameters [75, 9, 3, 3], results [56, 24] -/
def f44r0 : List AOper := [
  ⟨(some 4), .box false (.t 0), none, 0, 0⟩,
  ⟨(some 8), .alloc false (List.replicate 5 (.int .i64 0)), none, 1, 0⟩,
  ⟨(some 9), .move (.c (.int .i64 0)), none, 2, 0⟩]
def f44r1 : List AOper := [
  ⟨(some 14), .move (.t 2), none, 0, 0⟩,
  ⟨(some 15), .move (.t 2), none, 0, 0⟩,
  ⟨(some 16), .call (.c (.fn 48 [] [])) [(.c (.int .i64 8))], none, 0, 0⟩,
  ⟨(some 17), .build (List.replicate 5 (.int .i64 0)) [(1, 1, (.t 14)), (2, 1, (.t 15)), (3, 1, (.t 16))], none, 0, 7⟩,
  ⟨(some 10), .alloc false (List.replicate 5 (.int .i64 0)), none, 0, 0⟩,
  ⟨none, .store 5 (.t 10) (.t 17), none, 1, 31⟩]
def f44r2 : List AOper := [
  ⟨(some 18), .move (.t 2), none, 0, 0⟩,
  ⟨(some 19), .move (.t 3), none, 0, 0⟩,
  ⟨(some 20), .bin .eql (.t 18) (.t 19), none, 0, 3⟩,
  ⟨(some 11), .move (.t 20), none, 0, 7⟩]
def f44r3 : List AOper := [
  ⟨(some 21), .move (.t 1), none, 0, 0⟩]
def f44r4 : List AOper := [
  ⟨(some 23), .bin .eql (.t 21) (.c (.str [45])), none, 0, 0⟩,
  ⟨(some 22), .move (.t 23), none, 0, 1⟩]
def f44r5 : List AOper := [
  ⟨(some 24), .move (.t 11), none, 0, 0⟩,
  ⟨(some 25), .un .not (.t 24), none, 0, 1⟩]
def f44q6 : List AOper := [
  ⟨(some 27), .fieldAddr 0 (.t 4), none, 0, 0⟩,
  ⟨(some 28), .load false 1 (.t 27), none, 0, 1⟩,
  ⟨(some 29), .load true 1 (.t 4), none, 0, 0⟩,
  ⟨(some 30), .move (.t 2), none, 0, 0⟩,
  ⟨(some 31), .call (.c (.fn 50 [] [])) [(.t 29), (.t 30)], none, 0, 12⟩,
  ⟨(some 32), .field false 1 1 (.t 31), none, 0, 28⟩,
  ⟨(some 33), .call (.c (.fn 63 [] [])) [(.t 28), (.t 32)], none, 0, 63⟩,
  ⟨(some 26), .move (.t 33), none, 0, 127⟩,
  ⟨(some 34), .extract (.t 26) 0, none, 0, 255⟩,
  ⟨(some 35), .extract (.t 26) 1, none, 0, 255⟩,
  ⟨(some 12), .move (.t 34), none, 0, 511⟩,
  ⟨(some 13), .move (.t 35), none, 0, 2047⟩]
def f44r6 : List AOper := f44q6
def f44r7 : List AOper := [
  ⟨(some 36), .move (.t 13), none, 0, 0⟩,
  ⟨(some 37), .bin .neq (.t 36) (.c (.int .i64 0)), none, 0, 1⟩]
def f44r8 : List AOper := [
  ⟨(some 38), .build (List.replicate 5 (.int .i64 0)) [], none, 0, 0⟩,
  ⟨(some 39), .move (.t 13), none, 0, 0⟩,
  ⟨none, .store 5 (.t 8) (.t 38), none, 0, 1⟩,
  ⟨(some 9), .move (.t 39), none, 0, 7⟩]
def f44r9 : List AOper := [
  ⟨(some 40), .move (.t 12), none, 0, 0⟩,
  ⟨(some 41), .fieldAddr 0 (.t 10), none, 0, 0⟩,
  ⟨none, .store 1 (.t 41) (.c (.int .i64 2)), none, 0, 2⟩,
  ⟨(some 42), .fieldAddr 4 (.t 10), none, 0, 7⟩,
  ⟨none, .store 1 (.t 42) (.t 40), none, 0, 15⟩]
def f44r10 : List AOper := [
  ⟨(some 43), .load true 5 (.t 10), none, 0, 0⟩,
  ⟨none, .store 5 (.t 8) (.t 43), none, 0, 1⟩,
  ⟨(some 9), .move (.c (.int .i64 0)), none, 0, 3⟩]
def f44r11 : List AOper := [
  ⟨(some 45), .bin .eql (.t 21) (.c (.str [61, 61])), none, 0, 0⟩,
  ⟨(some 44), .move (.t 45), none, 0, 1⟩]
def f44r12 : List AOper := [
  ⟨(some 46), .bin .eql (.t 21) (.c (.str [33, 61])), none, 0, 0⟩,
  ⟨(some 44), .move (.t 46), none, 0, 1⟩]
def f44r13 : List AOper := [
  ⟨(some 47), .move (.t 11), none, 0, 0⟩,
  ⟨(some 48), .un .not (.t 47), none, 0, 1⟩,
  ⟨(some 49), .move (.t 48), none, 0, 3⟩,
  ⟨(some 50), .load true 1 (.t 4), (some (49, true)), 0, 7⟩,
  ⟨(some 51), .move (.t 2), (some (49, true)), 0, 7⟩,
  ⟨(some 52), .call (.c (.fn 49 [] [])) [(.t 50), (.t 51)], (some (49, true)), 0, 31⟩,
  ⟨(some 53), .un .not (.t 52), (some (49, true)), 0, 63⟩,
  ⟨(some 54), .pick (.t 49) (.t 53) (.c (.bool false)), none, 0, 127⟩,
  ⟨(some 55), .move (.t 54), none, 0, 255⟩,
  ⟨(some 56), .load true 1 (.t 4), (some (55, true)), 0, 511⟩,
  ⟨(some 57), .move (.t 3), (some (55, true)), 0, 511⟩,
  ⟨(some 58), .call (.c (.fn 49 [] [])) [(.t 56), (.t 57)], (some (55, true)), 0, 2047⟩,
  ⟨(some 59), .un .not (.t 58), (some (55, true)), 0, 4095⟩,
  ⟨(some 60), .pick (.t 55) (.t 59) (.c (.bool false)), none, 0, 8191⟩]
def f44r14 : List AOper := [
  ⟨(some 61), .fieldAddr 0 (.t 10), none, 0, 0⟩,
  ⟨none, .store 1 (.t 61) (.c (.int .i64 14)), none, 0, 1⟩]
def f44r15 : List AOper := [
  ⟨(some 62), .move (.t 1), none, 0, 0⟩,
  ⟨(some 63), .bin .eql (.t 62) (.c (.str [33, 61])), none, 0, 1⟩]
def f44r16 : List AOper := [
  ⟨(some 64), .fieldAddr 0 (.t 10), none, 0, 0⟩,
  ⟨none, .store 1 (.t 64) (.c (.int .i64 15)), none, 0, 1⟩]
def f44r17 : List AOper := [
  ⟨(some 65), .load true 5 (.t 10), none, 0, 0⟩,
  ⟨none, .store 5 (.t 8) (.t 65), none, 0, 1⟩,
  ⟨(some 9), .move (.c (.int .i64 0)), none, 0, 3⟩]
def f44r18 : List AOper := [
  ⟨(some 67), .bin .eql (.t 21) (.c (.str [60])), none, 0, 0⟩,
  ⟨(some 66), .move (.t 67), none, 0, 1⟩]
def f44r19 : List AOper := [
  ⟨(some 68), .bin .eql (.t 21) (.c (.str [62])), none, 0, 0⟩,
  ⟨(some 66), .move (.t 68), none, 0, 1⟩]
def f44r20 : List AOper := [
  ⟨(some 69), .fieldAddr 0 (.t 10), none, 0, 0⟩,
  ⟨none, .store 1 (.t 69) (.c (.int .i64 17)), none, 0, 1⟩]
def f44r21 : List AOper := [
  ⟨(some 71), .bin .eql (.t 21) (.c (.str [60, 61])), none, 0, 0⟩,
  ⟨(some 70), .move (.t 71), none, 0, 1⟩]
def f44r22 : List AOper := [
  ⟨(some 72), .bin .eql (.t 21) (.c (.str [62, 61])), none, 0, 0⟩,
  ⟨(some 70), .move (.t 72), none, 0, 1⟩]
def f44r23 : List AOper := [
  ⟨(some 73), .fieldAddr 0 (.t 10), none, 0, 0⟩,
  ⟨none, .store 1 (.t 73) (.c (.int .i64 19)), none, 0, 1⟩]
def f44r24 : List AOper := [
  ⟨(some 74), .fieldAddr 0 (.t 10), none, 0, 0⟩,
  ⟨(some 75), .load false 1 (.t 74), none, 0, 1⟩,
  ⟨(some 76), .bin .eql (.t 75) (.c (.int .i64 0)), none, 0, 3⟩,
  ⟨(some 77), .move (.t 76), none, 0, 7⟩,
  ⟨(some 78), .move (.t 11), (some (77, false)), 0, 15⟩,
  ⟨(some 79), .un .not (.t 78), (some (77, false)), 0, 31⟩,
  ⟨(some 80), .pick (.t 77) (.c (.bool true)) (.t 79), none, 0, 63⟩]
def f44r25 : List AOper := [
  ⟨(some 81), .build (List.replicate 5 (.int .i64 0)) [], none, 0, 0⟩,
  ⟨none, .store 5 (.t 8) (.t 81), none, 0, 1⟩,
  ⟨(some 9), .move (.c (.int .i64 70)), none, 0, 3⟩]
def f44r26 : List AOper := [
  ⟨(some 82), .load true 5 (.t 10), none, 0, 0⟩,
  ⟨none, .store 5 (.t 8) (.t 82), none, 0, 1⟩,
  ⟨(some 9), .move (.c (.int .i64 0)), none, 0, 3⟩]
theorem f44r6_s : staticOK 0 f44r6 = true := by rfl
theorem f44r6_w {A : Tab} {nt : Nat} {keep : List Nat} {n : Nat} {e : Env} {h : Heap} (hr : (bkeep keep (stepsF nt (stepF A true) h.length f44r6 e (h ++ List.replicate n .free))).isSome = true) : Brun A nt (.region true f44r6 keep n) e h = bkeep keep (stepsF nt (stepF A true) h.length f44r6 e (h ++ List.replicate n .free)) := Brun_drawnS f44r6_s hr
theorem f44r6_u (nt base : Nat) (step : Nat → AOp → Env → Heap → Option (AV × Heap)) (e : Env) (h : Heap) : stepsF nt step base f44r6 e h = stepsF nt step base f44q6 e h := rfl
def f44c : ACode :=
  .seq (.region false f44r0 [1, 2, 3, 4, 8] 2)
  (.seq (.region false f44r1 [1, 2, 3, 4, 8, 10] 1)
  (.seq (.region false f44r2 [1, 2, 3, 4, 8, 10, 11] 0)
  (.seq (.seq (.region false f44r3 [1, 2, 3, 4, 8, 10, 11, 21] 0)
  (.block 0 (.seq (.region false f44r4 [1, 2, 3, 4, 8, 10, 11, 21, 22] 0)
    (.cond (.t 22)
      (.seq (.seq (.region false f44r5 [2, 4, 8, 10, 11, 25] 0)
      (.cond (.t 25)
        (.exit 0)
        (.skip)))
      (.seq (.region true f44r6 [8, 10, 12, 13] 0)
      (.seq (.seq (.region false f44r7 [8, 10, 12, 13, 37] 0)
      (.cond (.t 37)
        (.seq (.region false f44r8 [8, 9] 0)
        (.ret))
        (.skip)))
      (.seq (.region false f44r9 [8, 10] 0)
      (.seq (.region false f44r10 [8, 9] 0)
      (.ret))))))
      (.seq (.seq (.region false f44r11 [1, 2, 3, 4, 8, 10, 11, 21, 44] 0)
      (.cond (.t 44)
        (.skip)
        (.region false f44r12 [1, 2, 3, 4, 8, 10, 11, 21, 44] 0)))
      (.cond (.t 44)
        (.seq (.seq (.region false f44r13 [1, 8, 10, 11, 60] 0)
        (.cond (.t 60)
          (.exit 0)
          (.skip)))
        (.seq (.region false f44r14 [1, 8, 10] 0)
        (.seq (.seq (.region false f44r15 [8, 10, 63] 0)
        (.cond (.t 63)
          (.region false f44r16 [8, 10] 0)
          (.skip)))
        (.seq (.region false f44r17 [8, 9] 0)
        (.ret)))))
        (.seq (.seq (.region false f44r18 [8, 10, 11, 21, 66] 0)
        (.cond (.t 66)
          (.skip)
          (.region false f44r19 [8, 10, 11, 21, 66] 0)))
        (.cond (.t 66)
          (.region false f44r20 [8, 10, 11] 0)
          (.seq (.seq (.region false f44r21 [8, 10, 11, 21, 70] 0)
          (.cond (.t 70)
            (.skip)
            (.region false f44r22 [8, 10, 11, 70] 0)))
          (.cond (.t 70)
            (.region false f44r23 [8, 10, 11] 0)
            (.skip)))))))))))
  (.seq (.seq (.region false f44r24 [8, 10, 80] 0)
  (.cond (.t 80)
    (.seq (.region false f44r25 [8, 9] 0)
    (.ret))
    (.skip)))
  (.seq (.region false f44r26 [8, 9] 0)
  (.ret))))))
def f44 : AFn := ⟨4, 83, [.cell 8 true 5, .tmp 9], f44c, 1⟩
def f44k : List (Nat × List Nat) := [(0, [1, 2, 3, 4, 8]), (1, [1, 2, 3, 4, 8, 10]), (2, [1, 2, 3, 4, 8, 10, 11]), (3, [1, 2, 3, 4, 8, 10, 11, 21]), (4, [1, 2, 3, 4, 8, 10, 11, 21, 22]), (11, [1, 2, 3, 4, 8, 10, 11, 21, 44]), (12, [1, 2, 3, 4, 8, 10, 11, 21, 44]), (18, [8, 10, 11, 21, 66]), (19, [8, 10, 11, 21, 66]), (21, [8, 10, 11, 21, 70]), (22, [8, 10, 11, 70]), (23, [8, 10, 11]), (20, [8, 10, 11]), (13, [1, 8, 10, 11, 60]), (14, [1, 8, 10]), (15, [8, 10, 63]), (16, [8, 10]), (17, [8, 9]), (5, [2, 4, 8, 10, 11, 25]), (6, [8, 10, 12, 13]), (7, [8, 10, 12, 13, 37]), (8, [8, 9]), (9, [8, 10]), (10, [8, 9]), (24, [8, 10, 80]), (25, [8, 9]), (26, [8, 9])]
def f44v : List Nat := []

/-! 45: (mortise/conv.asker).moved, parameters [75, 56, 3], results [56, 24] -/
def f45r0 : List AOper := [
  ⟨(some 3), .box false (.t 0), none, 0, 0⟩,
  ⟨(some 4), .box false (.t 1), none, 1, 0⟩,
  ⟨(some 6), .alloc false (List.replicate 5 (.int .i64 0)), none, 2, 0⟩,
  ⟨(some 7), .move (.c (.int .i64 0)), none, 3, 0⟩]
def f45q1 : List AOper := [
  ⟨(some 11), .fieldAddr 0 (.t 3), none, 0, 0⟩,
  ⟨(some 12), .load false 1 (.t 11), none, 0, 1⟩,
  ⟨(some 13), .load true 1 (.t 3), none, 0, 0⟩,
  ⟨(some 14), .move (.t 2), none, 0, 0⟩,
  ⟨(some 15), .call (.c (.fn 50 [] [])) [(.t 13), (.t 14)], none, 0, 12⟩,
  ⟨(some 16), .field false 1 1 (.t 15), none, 0, 28⟩,
  ⟨(some 17), .call (.c (.fn 63 [] [])) [(.t 12), (.t 16)], none, 0, 63⟩,
  ⟨(some 10), .move (.t 17), none, 0, 127⟩,
  ⟨(some 18), .extract (.t 10) 0, none, 0, 255⟩,
  ⟨(some 19), .extract (.t 10) 1, none, 0, 255⟩,
  ⟨(some 8), .move (.t 18), none, 0, 511⟩,
  ⟨(some 9), .move (.t 19), none, 0, 2047⟩]
def f45r1 : List AOper := f45q1
def f45r2 : List AOper := [
  ⟨(some 20), .move (.t 9), none, 0, 0⟩,
  ⟨(some 21), .bin .neq (.t 20) (.c (.int .i64 0)), none, 0, 1⟩]
def f45r3 : List AOper := [
  ⟨(some 22), .build (List.replicate 5 (.int .i64 0)) [], none, 0, 0⟩,
  ⟨(some 23), .move (.t 9), none, 0, 0⟩,
  ⟨none, .store 5 (.t 6) (.t 22), none, 0, 1⟩,
  ⟨(some 7), .move (.t 23), none, 0, 7⟩]
def f45r4 : List AOper := [
  ⟨(some 24), .move (.t 2), none, 0, 0⟩,
  ⟨(some 25), .move (.t 8), none, 0, 0⟩,
  ⟨(some 26), .fieldAddr 3 (.t 4), none, 0, 1⟩,
  ⟨none, .store 1 (.t 26) (.t 24), none, 0, 5⟩,
  ⟨(some 27), .fieldAddr 4 (.t 4), none, 0, 15⟩,
  ⟨none, .store 1 (.t 27) (.t 25), none, 0, 31⟩]
def f45r5 : List AOper := [
  ⟨(some 28), .load true 5 (.t 4), none, 0, 0⟩,
  ⟨none, .store 5 (.t 6) (.t 28), none, 0, 1⟩,
  ⟨(some 7), .move (.c (.int .i64 0)), none, 0, 3⟩]
theorem f45r1_s : staticOK 0 f45r1 = true := by rfl
theorem f45r1_w {A : Tab} {nt : Nat} {keep : List Nat} {n : Nat} {e : Env} {h : Heap} (hr : (bkeep keep (stepsF nt (stepF A true) h.length f45r1 e (h ++ List.replicate n .free))).isSome = true) : Brun A nt (.region true f45r1 keep n) e h = bkeep keep (stepsF nt (stepF A true) h.length f45r1 e (h ++ List.replicate n .free)) := Brun_drawnS f45r1_s hr
theorem f45r1_u (nt base : Nat) (step : Nat → AOp → Env → Heap → Option (AV × Heap)) (e : Env) (h : Heap) : stepsF nt step base f45r1 e h = stepsF nt step base f45q1 e h := rfl
def f45c : ACode :=
  .seq (.region false f45r0 [2, 3, 4, 6] 3)
  (.seq (.region true f45r1 [2, 4, 6, 8, 9] 0)
  (.seq (.seq (.region false f45r2 [2, 4, 6, 8, 9, 21] 0)
  (.cond (.t 21)
    (.seq (.region false f45r3 [6, 7] 0)
    (.ret))
    (.skip)))
  (.seq (.region false f45r4 [4, 6] 0)
  (.seq (.region false f45r5 [6, 7] 0)
  (.ret)))))
def f45 : AFn := ⟨3, 29, [.cell 6 true 5, .tmp 7], f45c, 1⟩
def f45k : List (Nat × List Nat) := [(0, [2, 3, 4, 6]), (1, [2, 4, 6, 8, 9]), (2, [2, 4, 6, 8, 9, 21]), (3, [6, 7]), (4, [4, 6]), (5, [6, 7])]
def f45v : List Nat := []

/-! 46: mortise/conv.whole, parameters [], results [3] -/
def f46r0 : List AOper := [
  ⟨(some 0), .move (.c (.int .i64 0)), none, 0, 0⟩]
def f46r1 : List AOper := [
  ⟨(some 1), .call (.c (.fn 48 [] [])) [(.c (.int .i64 8))], none, 0, 0⟩,
  ⟨(some 0), .move (.t 1), none, 0, 1⟩]
def f46c : ACode :=
  .seq (.region false f46r0 [] 0)
  (.seq (.region false f46r1 [0] 0)
  (.ret))
def f46 : AFn := ⟨0, 2, [.tmp 0], f46c, 1⟩
def f46k : List (Nat × List Nat) := [(0, []), (1, [0])]
def f46v : List Nat := []

/-! 47: (*mortise/ctype.Table).Scalar, parameters [41, 3], results [4] -/
def f47r0 : List AOper := [
  ⟨(some 4), .move (.c (.bool false)), none, 0, 0⟩]
def f47r1 : List AOper := [
  ⟨(some 6), .move (.t 0), none, 0, 0⟩,
  ⟨(some 7), .move (.t 1), none, 0, 0⟩,
  ⟨(some 8), .call (.c (.fn 64 [] [])) [(.t 6), (.t 7)], none, 0, 3⟩,
  ⟨(some 5), .move (.t 8), none, 0, 7⟩]
def f47r2 : List AOper := [
  ⟨(some 9), .move (.t 5), none, 0, 0⟩,
  ⟨(some 10), .bin .geq (.t 9) (.c (.int .i64 2)), none, 0, 1⟩,
  ⟨(some 11), .move (.t 10), none, 0, 3⟩,
  ⟨(some 12), .move (.t 5), (some (11, true)), 0, 7⟩,
  ⟨(some 13), .bin .leq (.t 12) (.c (.int .i64 13)), (some (11, true)), 0, 15⟩,
  ⟨(some 14), .pick (.t 11) (.t 13) (.c (.bool false)), none, 0, 31⟩,
  ⟨(some 4), .move (.t 14), none, 0, 63⟩]
def f47c : ACode :=
  .seq (.region false f47r0 [0, 1] 0)
  (.seq (.region false f47r1 [5] 0)
  (.seq (.region false f47r2 [4] 0)
  (.ret)))
def f47 : AFn := ⟨2, 15, [.tmp 4], f47c, 1⟩
def f47k : List (Nat × List Nat) := [(0, [0, 1]), (1, [5]), (2, [4])]
def f47v : List Nat := []

/-! 48: mortise/conv.row, parameters [23], results [3] -/
def f48r0 : List AOper := [
  ⟨(some 2), .move (.c (.int .i64 0)), none, 0, 0⟩]
def f48r1 : List AOper := [
  ⟨(some 3), .move (.t 0), none, 0, 0⟩,
  ⟨(some 4), .bin .sub (.t 3) (.c (.int .i64 1)), none, 0, 1⟩,
  ⟨(some 2), .move (.t 4), none, 0, 3⟩]
def f48c : ACode :=
  .seq (.region false f48r0 [0] 0)
  (.seq (.region false f48r1 [2] 0)
  (.ret))
def f48 : AFn := ⟨1, 5, [.tmp 2], f48c, 1⟩
def f48k : List (Nat × List Nat) := [(0, [0]), (1, [2])]
def f48v : List Nat := []

/-! 49: (mortise/conv.asker).anything, parameters [75, 3], results [4] -/
def f49r0 : List AOper := [
  ⟨(some 2), .box false (.t 0), none, 0, 0⟩,
  ⟨(some 4), .move (.c (.bool false)), none, 1, 0⟩]
def f49r1 : List AOper := [
  ⟨(some 5), .load true 1 (.t 2), none, 0, 0⟩,
  ⟨(some 6), .move (.t 1), none, 0, 0⟩,
  ⟨(some 7), .call (.c (.fn 43 [] [])) [(.t 5), (.t 6)], none, 0, 3⟩,
  ⟨(some 8), .move (.t 7), none, 0, 7⟩,
  ⟨(some 9), .load true 1 (.t 2), (some (8, true)), 0, 15⟩,
  ⟨(some 10), .move (.t 1), (some (8, true)), 0, 15⟩,
  ⟨(some 11), .call (.c (.fn 50 [] [])) [(.t 9), (.t 10)], (some (8, true)), 0, 63⟩,
  ⟨(some 12), .field false 1 1 (.t 11), (some (8, true)), 0, 127⟩,
  ⟨(some 13), .call (.c (.fn 48 [] [])) [(.c (.int .i64 1))], (some (8, true)), 0, 127⟩,
  ⟨(some 14), .bin .eql (.t 12) (.t 13), (some (8, true)), 0, 511⟩,
  ⟨(some 15), .pick (.t 8) (.t 14) (.c (.bool false)), none, 0, 1023⟩,
  ⟨(some 4), .move (.t 15), none, 0, 2047⟩]
def f49c : ACode :=
  .seq (.region false f49r0 [1, 2] 1)
  (.seq (.region false f49r1 [4] 0)
  (.ret))
def f49 : AFn := ⟨2, 16, [.tmp 4], f49c, 1⟩
def f49k : List (Nat × List Nat) := [(0, [1, 2]), (1, [4])]
def f49v : List Nat := []

/-! 50: (mortise/conv.asker).row, parameters [75, 3], results [68] -/
def f50r0 : List AOper := [
  ⟨(some 2), .box false (.t 0), none, 0, 0⟩,
  ⟨(some 4), .alloc false [(.int .i64 0), (.int .i64 0), (.int .i64 0), (.str []), (.is [] .nil), (.bool false)], none, 1, 0⟩]
def f50r1 : List AOper := [
  ⟨(some 8), .fieldAddr 0 (.t 2), none, 0, 0⟩,
  ⟨(some 9), .load false 1 (.t 8), none, 0, 1⟩,
  ⟨(some 10), .move (.t 1), none, 0, 0⟩,
  ⟨(some 11), .call (.c (.fn 65 [] [])) [(.t 9), (.t 10)], none, 0, 7⟩,
  ⟨(some 7), .move (.t 11), none, 0, 15⟩,
  ⟨(some 12), .extract (.t 7) 0, none, 0, 31⟩,
  ⟨(some 13), .extract (.t 7) 1, none, 0, 31⟩,
  ⟨(some 5), .alloc false [(.int .i64 0), (.int .i64 0), (.int .i64 0), (.str []), (.is [] .nil), (.bool false)], none, 0, 0⟩,
  ⟨none, .store 6 (.t 5) (.t 12), none, 1, 191⟩,
  ⟨(some 6), .move (.t 13), none, 1, 511⟩]
def f50r2 : List AOper := [
  ⟨(some 14), .load true 6 (.t 5), none, 0, 0⟩,
  ⟨none, .store 6 (.t 4) (.t 14), none, 0, 1⟩]
def f50c : ACode :=
  .seq (.region false f50r0 [1, 2, 4] 2)
  (.seq (.region false f50r1 [4, 5] 1)
  (.seq (.region false f50r2 [4] 0)
  (.ret)))
def f50 : AFn := ⟨2, 15, [.cell 4 true 6], f50c, 1⟩
def f50k : List (Nat × List Nat) := [(0, [1, 2, 4]), (1, [4, 5]), (2, [4])]
def f50v : List Nat := []

/-! 51: (mortise/conv.asker).alike, parameters [75, 3, 3], results [4] -/
def f51r0 : List AOper := [
  ⟨(some 3), .box false (.t 0), none, 0, 0⟩,
  ⟨(some 6), .move (.c (.bool false)), none, 1, 0⟩]
def f51r1 : List AOper := [
  ⟨(some 7), .load true 1 (.t 3), none, 0, 0⟩,
  ⟨(some 8), .move (.t 1), none, 0, 0⟩,
  ⟨(some 9), .call (.c (.fn 43 [] [])) [(.t 7), (.t 8)], none, 0, 3⟩,
  ⟨(some 10), .move (.t 9), none, 0, 7⟩,
  ⟨(some 11), .load true 1 (.t 3), (some (10, true)), 0, 15⟩,
  ⟨(some 12), .move (.t 2), (some (10, true)), 0, 15⟩,
  ⟨(some 13), .call (.c (.fn 43 [] [])) [(.t 11), (.t 12)], (some (10, true)), 0, 63⟩,
  ⟨(some 14), .pick (.t 10) (.t 13) (.c (.bool false)), none, 0, 127⟩,
  ⟨(some 15), .move (.t 14), none, 0, 255⟩,
  ⟨(some 16), .move (.t 1), (some (15, true)), 0, 511⟩,
  ⟨(some 17), .move (.t 2), (some (15, true)), 0, 511⟩,
  ⟨(some 18), .bin .eql (.t 16) (.t 17), (some (15, true)), 0, 2047⟩,
  ⟨(some 19), .move (.t 18), (some (15, true)), 0, 4095⟩,
  ⟨(some 20), .load true 1 (.t 3), (some (19, false)), 0, 8191⟩,
  ⟨(some 21), .move (.t 1), (some (19, false)), 0, 8191⟩,
  ⟨(some 22), .call (.c (.fn 49 [] [])) [(.t 20), (.t 21)], (some (19, false)), 0, 32767⟩,
  ⟨(some 23), .pick (.t 19) (.c (.bool true)) (.t 22), (some (15, true)), 0, 65535⟩,
  ⟨(some 24), .move (.t 23), (some (15, true)), 0, 131071⟩,
  ⟨(some 25), .load true 1 (.t 3), (some (24, false)), 0, 262143⟩,
  ⟨(some 26), .move (.t 2), (some (24, false)), 0, 262143⟩,
  ⟨(some 27), .call (.c (.fn 49 [] [])) [(.t 25), (.t 26)], (some (24, false)), 0, 1048575⟩,
  ⟨(some 28), .pick (.t 24) (.c (.bool true)) (.t 27), (some (15, true)), 0, 2097151⟩,
  ⟨(some 29), .pick (.t 15) (.t 28) (.c (.bool false)), none, 0, 4194303⟩,
  ⟨(some 6), .move (.t 29), none, 0, 8388607⟩]
def f51c : ACode :=
  .seq (.region false f51r0 [1, 2, 3] 1)
  (.seq (.region false f51r1 [6] 0)
  (.ret))
def f51 : AFn := ⟨3, 30, [.tmp 6], f51c, 1⟩
def f51k : List (Nat × List Nat) := [(0, [1, 2, 3]), (1, [6])]
def f51v : List Nat := []

/-! 52: mortise/mortiseref01.Names, parameters [], results [83] -/
def f52r0 : List AOper := [
  ⟨(some 0), .move (.c (.is [] .nil)), none, 0, 0⟩]
def f52r1 : List AOper := [
  ⟨(some 1), .buildSlice true 1 19 (List.replicate 19 (.str [])) [(0, 1, (.c (.str [97, 100, 100]))), (1, 1, (.c (.str [115, 117, 98]))), (2, 1, (.c (.str [109, 117, 108]))), (3, 1, (.c (.str [100, 105, 118, 115]))), (4, 1, (.c (.str [100, 105, 118, 117]))), (5, 1, (.c (.str [114, 101, 109, 115]))), (6, 1, (.c (.str [114, 101, 109, 117]))), (7, 1, (.c (.str [97, 110, 100]))), (8, 1, (.c (.str [111, 114]))), (9, 1, (.c (.str [120, 111, 114]))), (10, 1, (.c (.str [115, 104, 108]))), (11, 1, (.c (.str [115, 104, 114, 115]))), (12, 1, (.c (.str [115, 104, 114, 117]))), (13, 1, (.c (.str [101, 113]))), (14, 1, (.c (.str [110, 101]))), (15, 1, (.c (.str [108, 116, 115]))), (16, 1, (.c (.str [108, 116, 117]))), (17, 1, (.c (.str [108, 101, 115]))), (18, 1, (.c (.str [108, 101, 117])))], none, 0, 0⟩,
  ⟨(some 0), .move (.t 1), none, 0, 1⟩]
def f52c : ACode :=
  .seq (.region false f52r0 [] 0)
  (.seq (.region false f52r1 [0] 0)
  (.ret))
def f52 : AFn := ⟨0, 2, [.tmp 0], f52c, 1⟩
def f52k : List (Nat × List Nat) := [(0, []), (1, [0])]
def f52v : List Nat := [1]

/-! 53: mortise/mortiseref01.Int, parameters [22], results [3] -/
def f53r0 : List AOper := [
  ⟨(some 2), .move (.c (.int .i64 0)), none, 0, 0⟩]
def f53r1 : List AOper := [
  ⟨(some 3), .move (.t 0), none, 0, 0⟩,
  ⟨(some 4), .bin .geq (.t 3) (.c (.int .u32 2147483648)), none, 0, 1⟩]
def f53r2 : List AOper := [
  ⟨(some 5), .move (.t 0), none, 0, 0⟩,
  ⟨(some 6), .conv .i64 (.t 5), none, 0, 1⟩,
  ⟨(some 7), .bin .sub (.t 6) (.c (.int .i64 4294967296)), none, 0, 3⟩,
  ⟨(some 2), .move (.t 7), none, 0, 7⟩]
def f53r3 : List AOper := [
  ⟨(some 8), .move (.t 0), none, 0, 0⟩,
  ⟨(some 9), .conv .i64 (.t 8), none, 0, 1⟩,
  ⟨(some 2), .move (.t 9), none, 0, 3⟩]
def f53c : ACode :=
  .seq (.region false f53r0 [0] 0)
  (.seq (.seq (.region false f53r1 [0, 4] 0)
  (.cond (.t 4)
    (.seq (.region false f53r2 [2] 0)
    (.ret))
    (.skip)))
  (.seq (.region false f53r3 [2] 0)
  (.ret)))
def f53 : AFn := ⟨1, 10, [.tmp 2], f53c, 1⟩
def f53k : List (Nat × List Nat) := [(0, [0]), (1, [0, 4]), (2, [2]), (3, [2])]
def f53v : List Nat := [9, 6]

/-! 54: mortise/mortiseref01.quotient, parameters [3, 3], results [3, 3] -/
def f54r0 : List AOper := [
  ⟨(some 4), .move (.c (.int .i64 0)), none, 0, 0⟩,
  ⟨(some 5), .move (.c (.int .i64 0)), none, 0, 1⟩]
def f54q1 : List AOper := [
  ⟨(some 6), .move (.t 0), none, 0, 0⟩,
  ⟨(some 7), .move (.t 1), none, 0, 0⟩,
  ⟨(some 8), .bin .quo (.t 6) (.t 7), none, 0, 3⟩,
  ⟨(some 9), .move (.t 0), none, 0, 0⟩,
  ⟨(some 10), .move (.t 1), none, 0, 0⟩,
  ⟨(some 11), .bin .rem (.t 9) (.t 10), none, 0, 24⟩,
  ⟨(some 4), .move (.t 8), none, 0, 7⟩,
  ⟨(some 5), .move (.t 11), none, 0, 127⟩]
def f54r1 : List AOper := f54q1
theorem f54r1_s : staticOK 0 f54r1 = true := by rfl
theorem f54r1_w {A : Tab} {nt : Nat} {keep : List Nat} {n : Nat} {e : Env} {h : Heap} (hr : (bkeep keep (stepsF nt (stepF A true) h.length f54r1 e (h ++ List.replicate n .free))).isSome = true) : Brun A nt (.region true f54r1 keep n) e h = bkeep keep (stepsF nt (stepF A true) h.length f54r1 e (h ++ List.replicate n .free)) := Brun_drawnS f54r1_s hr
theorem f54r1_u (nt base : Nat) (step : Nat → AOp → Env → Heap → Option (AV × Heap)) (e : Env) (h : Heap) : stepsF nt step base f54r1 e h = stepsF nt step base f54q1 e h := rfl
def f54c : ACode :=
  .seq (.region false f54r0 [0, 1] 0)
  (.seq (.region true f54r1 [4, 5] 0)
  (.ret))
def f54 : AFn := ⟨2, 12, [.tmp 4, .tmp 5], f54c, 1⟩
def f54k : List (Nat × List Nat) := [(0, [0, 1]), (1, [4, 5])]
def f54v : List Nat := []

/-! 55: mortise/mortiseref01.Of, parameters [3], results [22] -/
def f55r0 : List AOper := [
  ⟨(some 2), .move (.c (.int .u32 0)), none, 0, 0⟩]
def f55r1 : List AOper := [
  ⟨(some 3), .move (.t 0), none, 0, 0⟩,
  ⟨(some 4), .conv .u64 (.t 3), none, 0, 1⟩,
  ⟨(some 5), .bin .and (.t 4) (.c (.int .u64 4294967295)), none, 0, 3⟩,
  ⟨(some 6), .conv .u32 (.t 5), none, 0, 7⟩,
  ⟨(some 2), .move (.t 6), none, 0, 15⟩]
def f55c : ACode :=
  .seq (.region false f55r0 [0] 0)
  (.seq (.region false f55r1 [2] 0)
  (.ret))
def f55 : AFn := ⟨1, 7, [.tmp 2], f55c, 1⟩
def f55k : List (Nat × List Nat) := [(0, [0]), (1, [2])]
def f55v : List Nat := [6, 4]

/-! 56: mortise/mortiseref01.flag, parameters [4], results [22] -/
def f56r0 : List AOper := [
  ⟨(some 2), .move (.c (.int .u32 0)), none, 0, 0⟩]
def f56r1 : List AOper := [
  ⟨(some 3), .move (.t 0), none, 0, 0⟩]
def f56r2 : List AOper := [
  ⟨(some 2), .move (.c (.int .u32 1)), none, 0, 0⟩]
def f56r3 : List AOper := [
  ⟨(some 2), .move (.c (.int .u32 0)), none, 0, 0⟩]
def f56c : ACode :=
  .seq (.region false f56r0 [0] 0)
  (.seq (.seq (.region false f56r1 [3] 0)
  (.cond (.t 3)
    (.seq (.region false f56r2 [2] 0)
    (.ret))
    (.skip)))
  (.seq (.region false f56r3 [2] 0)
  (.ret)))
def f56 : AFn := ⟨1, 4, [.tmp 2], f56c, 1⟩
def f56k : List (Nat × List Nat) := [(0, [0]), (1, [3]), (2, [2]), (3, [2])]
def f56v : List Nat := []

/-! 57: mortise/mortiseref01.extended, parameters [22, 3, 4], results [22] -/
def f57r0 : List AOper := [
  ⟨(some 6), .move (.c (.int .u32 0)), none, 0, 0⟩]
def f57r1 : List AOper := [
  ⟨(some 9), .move (.t 1), none, 0, 0⟩,
  ⟨(some 10), .bin .neq (.t 9) (.c (.int .i64 1)), none, 0, 1⟩,
  ⟨(some 11), .move (.t 10), none, 0, 3⟩,
  ⟨(some 12), .move (.t 1), (some (11, true)), 0, 7⟩,
  ⟨(some 13), .bin .neq (.t 12) (.c (.int .i64 2)), (some (11, true)), 0, 15⟩,
  ⟨(some 14), .pick (.t 11) (.t 13) (.c (.bool false)), none, 0, 31⟩]
def f57r2 : List AOper := [
  ⟨(some 15), .move (.t 0), none, 0, 0⟩,
  ⟨(some 6), .move (.t 15), none, 0, 1⟩]
def f57r3 : List AOper := [
  ⟨(some 16), .move (.t 1), none, 0, 0⟩,
  ⟨(some 17), .bin .mul (.c (.int .i64 8)) (.t 16), none, 0, 1⟩,
  ⟨(some 18), .conv .u64 (.t 17), none, 0, 3⟩,
  ⟨(some 7), .move (.t 18), none, 0, 7⟩]
def f57r4 : List AOper := [
  ⟨(some 19), .move (.t 0), none, 0, 0⟩,
  ⟨(some 20), .move (.t 7), none, 0, 0⟩,
  ⟨(some 21), .bin .shl (.c (.int .u32 1)) (.t 20), none, 0, 2⟩,
  ⟨(some 22), .bin .sub (.t 21) (.c (.int .u32 1)), none, 0, 6⟩,
  ⟨(some 23), .bin .and (.t 19) (.t 22), none, 0, 15⟩,
  ⟨(some 8), .move (.t 23), none, 0, 31⟩]
def f57r5 : List AOper := [
  ⟨(some 24), .move (.t 2), none, 0, 0⟩,
  ⟨(some 25), .move (.t 24), none, 0, 1⟩,
  ⟨(some 26), .move (.t 8), (some (25, true)), 0, 3⟩,
  ⟨(some 27), .move (.t 7), (some (25, true)), 0, 3⟩,
  ⟨(some 28), .bin .sub (.t 27) (.c (.int .u64 1)), (some (25, true)), 0, 11⟩,
  ⟨(some 29), .bin .shr (.t 26) (.t 28), (some (25, true)), 0, 31⟩,
  ⟨(some 30), .bin .eql (.t 29) (.c (.int .u32 1)), (some (25, true)), 0, 63⟩,
  ⟨(some 31), .pick (.t 25) (.t 30) (.c (.bool false)), none, 0, 127⟩]
def f57r6 : List AOper := [
  ⟨(some 32), .move (.t 8), none, 0, 0⟩,
  ⟨(some 33), .move (.t 7), none, 0, 0⟩,
  ⟨(some 34), .bin .shl (.c (.int .u32 4294967295)) (.t 33), none, 0, 2⟩,
  ⟨(some 35), .bin .or (.t 32) (.t 34), none, 0, 7⟩,
  ⟨(some 6), .move (.t 35), none, 0, 15⟩]
def f57r7 : List AOper := [
  ⟨(some 36), .move (.t 8), none, 0, 0⟩,
  ⟨(some 6), .move (.t 36), none, 0, 1⟩]
def f57c : ACode :=
  .seq (.region false f57r0 [0, 1, 2] 0)
  (.seq (.seq (.region false f57r1 [0, 1, 2, 14] 0)
  (.cond (.t 14)
    (.seq (.region false f57r2 [6] 0)
    (.ret))
    (.skip)))
  (.seq (.region false f57r3 [0, 2, 7] 0)
  (.seq (.region false f57r4 [2, 7, 8] 0)
  (.seq (.seq (.region false f57r5 [7, 8, 31] 0)
  (.cond (.t 31)
    (.seq (.region false f57r6 [6] 0)
    (.ret))
    (.skip)))
  (.seq (.region false f57r7 [6] 0)
  (.ret))))))
def f57 : AFn := ⟨3, 37, [.tmp 6], f57c, 1⟩
def f57k : List (Nat × List Nat) := [(0, [0, 1, 2]), (1, [0, 1, 2, 14]), (2, [6]), (3, [0, 2, 7]), (4, [2, 7, 8]), (5, [7, 8, 31]), (6, [6]), (7, [6])]
def f57v : List Nat := [18]

/-! 58: mortise/mortiseref01.Signed, parameters [23], results [4] -/
def f58r0 : List AOper := [
  ⟨(some 2), .move (.c (.bool false)), none, 0, 0⟩]
def f58r1 : List AOper := [
  ⟨(some 3), .move (.t 0), none, 0, 0⟩,
  ⟨(some 4), .bin .eql (.t 3) (.c (.int .i64 3)), none, 0, 1⟩,
  ⟨(some 5), .move (.t 4), none, 0, 3⟩,
  ⟨(some 6), .move (.t 0), (some (5, false)), 0, 7⟩,
  ⟨(some 7), .bin .eql (.t 6) (.c (.int .i64 4)), (some (5, false)), 0, 15⟩,
  ⟨(some 8), .pick (.t 5) (.c (.bool true)) (.t 7), none, 0, 31⟩,
  ⟨(some 9), .move (.t 8), none, 0, 63⟩,
  ⟨(some 10), .move (.t 0), (some (9, false)), 0, 127⟩,
  ⟨(some 11), .bin .eql (.t 10) (.c (.int .i64 6)), (some (9, false)), 0, 255⟩,
  ⟨(some 12), .pick (.t 9) (.c (.bool true)) (.t 11), none, 0, 511⟩,
  ⟨(some 13), .move (.t 12), none, 0, 1023⟩,
  ⟨(some 14), .move (.t 0), (some (13, false)), 0, 2047⟩,
  ⟨(some 15), .bin .eql (.t 14) (.c (.int .i64 8)), (some (13, false)), 0, 4095⟩,
  ⟨(some 16), .pick (.t 13) (.c (.bool true)) (.t 15), none, 0, 8191⟩,
  ⟨(some 17), .move (.t 16), none, 0, 16383⟩,
  ⟨(some 18), .move (.t 0), (some (17, false)), 0, 32767⟩,
  ⟨(some 19), .bin .eql (.t 18) (.c (.int .i64 10)), (some (17, false)), 0, 65535⟩,
  ⟨(some 20), .pick (.t 17) (.c (.bool true)) (.t 19), none, 0, 131071⟩,
  ⟨(some 21), .move (.t 20), none, 0, 262143⟩,
  ⟨(some 22), .move (.t 0), (some (21, false)), 0, 524287⟩,
  ⟨(some 23), .bin .eql (.t 22) (.c (.int .i64 12)), (some (21, false)), 0, 1048575⟩,
  ⟨(some 24), .pick (.t 21) (.c (.bool true)) (.t 23), none, 0, 2097151⟩,
  ⟨(some 2), .move (.t 24), none, 0, 4194303⟩]
def f58c : ACode :=
  .seq (.region false f58r0 [0] 0)
  (.seq (.region false f58r1 [2] 0)
  (.ret))
def f58 : AFn := ⟨1, 25, [.tmp 2], f58c, 1⟩
def f58k : List (Nat × List Nat) := [(0, [0]), (1, [2])]
def f58v : List Nat := []

/-! 59: (*mortise/ctype.Table).add, parameters [41, 68], results [3, 24] -/
def f59r0 : List AOper := [
  ⟨(some 3), .box true (.t 1), none, 0, 0⟩,
  ⟨(some 4), .move (.c (.int .i64 0)), none, 0, 0⟩,
  ⟨(some 5), .move (.c (.int .i64 0)), none, 0, 2⟩]
def f59r1 : List AOper := [
  ⟨(some 6), .move (.t 0), none, 0, 0⟩,
  ⟨(some 7), .nilCheck (.t 6), none, 0, 1⟩,
  ⟨(some 8), .fieldAddr 0 (.t 7), none, 0, 3⟩,
  ⟨(some 9), .load false 1 (.t 8), none, 0, 7⟩,
  ⟨(some 10), .len 1 (.t 9), none, 0, 15⟩,
  ⟨(some 11), .bin .geq (.t 10) (.c (.int .i64 512)), none, 0, 31⟩]
def f59r2 : List AOper := [
  ⟨(some 4), .move (.c (.int .i64 0)), none, 0, 0⟩,
  ⟨(some 5), .move (.c (.int .i64 32)), none, 0, 1⟩]
def f59r3 : List AOper := [
  ⟨(some 12), .move (.t 0), none, 0, 0⟩,
  ⟨(some 13), .move (.t 0), none, 0, 0⟩,
  ⟨(some 14), .nilCheck (.t 13), none, 0, 2⟩,
  ⟨(some 15), .fieldAddr 0 (.t 14), none, 0, 6⟩,
  ⟨(some 16), .load false 1 (.t 15), none, 0, 14⟩,
  ⟨(some 17), .load true 6 (.t 3), none, 0, 0⟩,
  ⟨(some 18), .buildSlice true 6 1 [(.int .i64 0), (.int .i64 0), (.int .i64 0), (.str []), (.is [] .nil), (.bool false)] [(0, 6, (.t 17))], none, 0, 32⟩,
  ⟨(some 19), .append true 6 72 (.t 16) (.t 18), none, 0, 126⟩,
  ⟨(some 20), .nilCheck (.t 12), none, 1, 255⟩,
  ⟨(some 21), .fieldAddr 0 (.t 20), none, 1, 511⟩,
  ⟨none, .store 1 (.t 21) (.t 19), none, 1, 1023⟩]
def f59r4 : List AOper := [
  ⟨(some 22), .move (.t 0), none, 0, 0⟩,
  ⟨(some 23), .nilCheck (.t 22), none, 0, 1⟩,
  ⟨(some 24), .fieldAddr 0 (.t 23), none, 0, 3⟩,
  ⟨(some 25), .load false 1 (.t 24), none, 0, 7⟩,
  ⟨(some 26), .len 1 (.t 25), none, 0, 15⟩,
  ⟨(some 27), .bin .sub (.t 26) (.c (.int .i64 1)), none, 0, 31⟩,
  ⟨(some 4), .move (.t 27), none, 0, 63⟩,
  ⟨(some 5), .move (.c (.int .i64 0)), none, 0, 127⟩]
def f59c : ACode :=
  .seq (.region false f59r0 [0, 3] 0)
  (.seq (.seq (.region false f59r1 [0, 3, 11] 0)
  (.cond (.t 11)
    (.seq (.region false f59r2 [4, 5] 0)
    (.ret))
    (.skip)))
  (.seq (.region true f59r3 [0] 1)
  (.seq (.region false f59r4 [4, 5] 0)
  (.ret))))
def f59 : AFn := ⟨2, 28, [.tmp 4, .tmp 5], f59c, 1⟩
def f59k : List (Nat × List Nat) := [(0, [0, 3]), (1, [0, 3, 11]), (2, [4, 5]), (3, [0]), (4, [4, 5])]
def f59v : List Nat := [3, 19, 18]

/-! 60: (*mortise/ctype.Table).Len, parameters [41], results [3] -/
def f60r0 : List AOper := [
  ⟨(some 2), .move (.c (.int .i64 0)), none, 0, 0⟩]
def f60r1 : List AOper := [
  ⟨(some 3), .move (.t 0), none, 0, 0⟩,
  ⟨(some 4), .call (.c (.fn 36 [] [])) [(.t 3)], none, 0, 1⟩,
  ⟨(some 5), .un .not (.t 4), none, 0, 3⟩]
def f60r2 : List AOper := [
  ⟨(some 2), .move (.c (.int .i64 0)), none, 0, 0⟩]
def f60r3 : List AOper := [
  ⟨(some 6), .move (.t 0), none, 0, 0⟩,
  ⟨(some 7), .nilCheck (.t 6), none, 0, 1⟩,
  ⟨(some 8), .fieldAddr 0 (.t 7), none, 0, 3⟩,
  ⟨(some 9), .load false 1 (.t 8), none, 0, 7⟩,
  ⟨(some 10), .len 1 (.t 9), none, 0, 15⟩,
  ⟨(some 2), .move (.t 10), none, 0, 31⟩]
def f60c : ACode :=
  .seq (.region false f60r0 [0] 0)
  (.seq (.seq (.region false f60r1 [0, 5] 0)
  (.cond (.t 5)
    (.seq (.region false f60r2 [2] 0)
    (.ret))
    (.skip)))
  (.seq (.region false f60r3 [2] 0)
  (.ret)))
def f60 : AFn := ⟨1, 11, [.tmp 2], f60c, 1⟩
def f60k : List (Nat × List Nat) := [(0, [0]), (1, [0, 5]), (2, [2]), (3, [2])]
def f60v : List Nat := []

/-! 61: mortise/conv.arithmetic$1, parameters [27, 3], results [56, 24] -/
def f61r0 : List AOper := [
  ⟨(some 5), .alloc false (List.replicate 5 (.int .i64 0)), none, 0, 0⟩,
  ⟨(some 6), .move (.c (.int .i64 0)), none, 1, 0⟩]
def f61r1 : List AOper := [
  ⟨(some 7), .move (.t 0), none, 0, 0⟩,
  ⟨(some 8), .load false 1 (.t 2), none, 0, 0⟩,
  ⟨(some 9), .load false 1 (.t 2), none, 0, 0⟩,
  ⟨(some 10), .move (.t 1), none, 0, 0⟩,
  ⟨(some 11), .build (List.replicate 5 (.int .i64 0)) [(0, 1, (.t 7)), (1, 1, (.t 8)), (2, 1, (.t 9)), (3, 1, (.t 10))], none, 0, 15⟩,
  ⟨none, .store 5 (.t 5) (.t 11), none, 0, 31⟩,
  ⟨(some 6), .move (.c (.int .i64 0)), none, 0, 63⟩]
def f61c : ACode :=
  .seq (.region false f61r0 [0, 1, 2, 5] 1)
  (.seq (.region false f61r1 [5, 6] 0)
  (.ret))
def f61 : AFn := ⟨3, 12, [.cell 5 true 5, .tmp 6], f61c, 1⟩
def f61k : List (Nat × List Nat) := [(0, [0, 1, 2, 5]), (1, [5, 6])]
def f61v : List Nat := []

/-! 62: mortise/conv.signs, parameters [23, 27, 27], results [27] -/
def f62r0 : List AOper := [
  ⟨(some 6), .move (.c (.int .i64 0)), none, 0, 0⟩]
def f62r1 : List AOper := [
  ⟨(some 7), .move (.t 0), none, 0, 0⟩,
  ⟨(some 8), .call (.c (.fn 29 [] [])) [(.t 7)], none, 0, 1⟩]
def f62r2 : List AOper := [
  ⟨(some 9), .move (.t 1), none, 0, 0⟩,
  ⟨(some 6), .move (.t 9), none, 0, 1⟩]
def f62r3 : List AOper := [
  ⟨(some 10), .move (.t 2), none, 0, 0⟩,
  ⟨(some 6), .move (.t 10), none, 0, 1⟩]
def f62c : ACode :=
  .seq (.region false f62r0 [0, 1, 2] 0)
  (.seq (.seq (.region false f62r1 [1, 2, 8] 0)
  (.cond (.t 8)
    (.seq (.region false f62r2 [6] 0)
    (.ret))
    (.skip)))
  (.seq (.region false f62r3 [6] 0)
  (.ret)))
def f62 : AFn := ⟨3, 11, [.tmp 6], f62c, 1⟩
def f62k : List (Nat × List Nat) := [(0, [0, 1, 2]), (1, [1, 2, 8]), (2, [6]), (3, [6])]
def f62v : List Nat := []

/-! 63: mortise/layout.Size, parameters [41, 3], results [3, 24] -/
def f63r0 : List AOper := [
  ⟨(some 4), .move (.c (.int .i64 0)), none, 0, 0⟩,
  ⟨(some 5), .move (.c (.int .i64 0)), none, 0, 1⟩]
def f63r1 : List AOper := [
  ⟨(some 10), .move (.t 0), none, 0, 0⟩,
  ⟨(some 11), .move (.t 1), none, 0, 0⟩,
  ⟨(some 12), .call (.c (.fn 66 [] [])) [(.t 10), (.t 11)], none, 0, 3⟩,
  ⟨(some 9), .move (.t 12), none, 0, 7⟩,
  ⟨(some 13), .extract (.t 9) 0, none, 0, 15⟩,
  ⟨(some 14), .extract (.t 9) 1, none, 0, 15⟩,
  ⟨(some 15), .extract (.t 9) 2, none, 0, 15⟩,
  ⟨(some 7), .alloc false [(.int .i64 0), (.int .i64 0), (.is [] .nil)], none, 0, 0⟩,
  ⟨(some 6), .move (.t 13), none, 1, 159⟩,
  ⟨none, .store 3 (.t 7) (.t 14), none, 1, 447⟩,
  ⟨(some 8), .move (.t 15), none, 1, 1023⟩]
def f63r2 : List AOper := [
  ⟨(some 16), .fieldAddr 0 (.t 7), none, 0, 0⟩,
  ⟨(some 17), .load false 1 (.t 16), none, 0, 1⟩,
  ⟨(some 18), .move (.t 8), none, 0, 0⟩,
  ⟨(some 4), .move (.t 17), none, 0, 3⟩,
  ⟨(some 5), .move (.t 18), none, 0, 15⟩]
def f63c : ACode :=
  .seq (.region false f63r0 [0, 1] 0)
  (.seq (.region false f63r1 [7, 8] 1)
  (.seq (.region false f63r2 [4, 5] 0)
  (.ret)))
def f63 : AFn := ⟨2, 19, [.tmp 4, .tmp 5], f63c, 1⟩
def f63k : List (Nat × List Nat) := [(0, [0, 1]), (1, [7, 8]), (2, [4, 5])]
def f63v : List Nat := []

/-! 64: (*mortise/ctype.Table).kind, parameters [41, 3], results [23] -/
def f64r0 : List AOper := [
  ⟨(some 4), .move (.c (.int .i64 0)), none, 0, 0⟩]
def f64r1 : List AOper := [
  ⟨(some 5), .move (.t 0), none, 0, 0⟩,
  ⟨(some 6), .move (.t 1), none, 0, 0⟩,
  ⟨(some 7), .call (.c (.fn 37 [] [])) [(.t 5), (.t 6)], none, 0, 3⟩,
  ⟨(some 8), .un .not (.t 7), none, 0, 7⟩]
def f64r2 : List AOper := [
  ⟨(some 4), .move (.c (.int .i64 0)), none, 0, 0⟩]
def f64r3 : List AOper := [
  ⟨(some 9), .move (.t 0), none, 0, 0⟩,
  ⟨(some 10), .nilCheck (.t 9), none, 0, 1⟩,
  ⟨(some 11), .fieldAddr 0 (.t 10), none, 0, 3⟩,
  ⟨(some 12), .load false 1 (.t 11), none, 0, 7⟩,
  ⟨(some 13), .move (.t 1), none, 0, 0⟩,
  ⟨(some 14), .idxAddr 6 (.t 12) (.t 13), none, 0, 31⟩,
  ⟨(some 15), .fieldAddr 0 (.t 14), none, 0, 63⟩,
  ⟨(some 16), .load false 1 (.t 15), none, 0, 127⟩,
  ⟨(some 4), .move (.t 16), none, 0, 255⟩]
def f64c : ACode :=
  .seq (.region false f64r0 [0, 1] 0)
  (.seq (.seq (.region false f64r1 [0, 1, 8] 0)
  (.cond (.t 8)
    (.seq (.region false f64r2 [4] 0)
    (.ret))
    (.skip)))
  (.seq (.region false f64r3 [4] 0)
  (.ret)))
def f64 : AFn := ⟨2, 17, [.tmp 4], f64c, 1⟩
def f64k : List (Nat × List Nat) := [(0, [0, 1]), (1, [0, 1, 8]), (2, [4]), (3, [4])]
def f64v : List Nat := []

/-! 65: (*mortise/ctype.Table).Row, parameters [41, 3], results [68, 4] -/
def f65r0 : List AOper := [
  ⟨(some 4), .alloc false [(.int .i64 0), (.int .i64 0), (.int .i64 0), (.str []), (.is [] .nil), (.bool false)], none, 0, 0⟩,
  ⟨(some 5), .move (.c (.bool false)), none, 1, 0⟩]
def f65r1 : List AOper := [
  ⟨(some 6), .move (.t 0), none, 0, 0⟩,
  ⟨(some 7), .move (.t 1), none, 0, 0⟩,
  ⟨(some 8), .call (.c (.fn 37 [] [])) [(.t 6), (.t 7)], none, 0, 3⟩,
  ⟨(some 9), .un .not (.t 8), none, 0, 7⟩]
def f65r2 : List AOper := [
  ⟨(some 10), .build [(.int .i64 0), (.int .i64 0), (.int .i64 0), (.str []), (.is [] .nil), (.bool false)] [], none, 0, 0⟩,
  ⟨none, .store 6 (.t 4) (.t 10), none, 0, 1⟩,
  ⟨(some 5), .move (.c (.bool false)), none, 0, 3⟩]
def f65r3 : List AOper := [
  ⟨(some 11), .move (.t 0), none, 0, 0⟩,
  ⟨(some 12), .nilCheck (.t 11), none, 0, 1⟩,
  ⟨(some 13), .fieldAddr 0 (.t 12), none, 0, 3⟩,
  ⟨(some 14), .load false 1 (.t 13), none, 0, 7⟩,
  ⟨(some 15), .move (.t 1), none, 0, 0⟩,
  ⟨(some 16), .idxAddr 6 (.t 14) (.t 15), none, 0, 31⟩,
  ⟨(some 17), .load true 6 (.t 16), none, 0, 63⟩,
  ⟨(some 18), .call (.c (.fn 67 [] [])) [(.t 17)], none, 0, 127⟩,
  ⟨none, .store 6 (.t 4) (.t 18), none, 0, 255⟩,
  ⟨(some 5), .move (.c (.bool true)), none, 0, 511⟩]
def f65c : ACode :=
  .seq (.region false f65r0 [0, 1, 4] 1)
  (.seq (.seq (.region false f65r1 [0, 1, 4, 9] 0)
  (.cond (.t 9)
    (.seq (.region false f65r2 [4, 5] 0)
    (.ret))
    (.skip)))
  (.seq (.region false f65r3 [4, 5] 0)
  (.ret)))
def f65 : AFn := ⟨2, 19, [.cell 4 true 6, .tmp 5], f65c, 1⟩
def f65k : List (Nat × List Nat) := [(0, [0, 1, 4]), (1, [0, 1, 4, 9]), (2, [4, 5]), (3, [4, 5])]
def f65v : List Nat := []

/-! 66: mortise/layout.begin, parameters [41, 3], results [99, 102, 24] -/
def f66r0 : List AOper := [
  ⟨(some 4), .move (.c .nilp), none, 0, 0⟩,
  ⟨(some 5), .alloc false [(.int .i64 0), (.int .i64 0), (.is [] .nil)], none, 0, 0⟩,
  ⟨(some 6), .move (.c (.int .i64 0)), none, 1, 1⟩]
def f66r1 : List AOper := [
  ⟨(some 10), .move (.t 0), none, 0, 0⟩,
  ⟨(some 11), .call (.c (.fn 60 [] [])) [(.t 10)], none, 0, 1⟩,
  ⟨(some 12), .bin .eql (.t 11) (.c (.int .i64 0)), none, 0, 3⟩,
  ⟨(some 9), .move (.t 12), none, 0, 7⟩]
def f66r2 : List AOper := [
  ⟨(some 13), .build [(.int .i64 0), (.int .i64 0), (.is [] .nil)] [], none, 0, 0⟩,
  ⟨(some 4), .move (.c .nilp), none, 0, 0⟩,
  ⟨none, .store 3 (.t 5) (.t 13), none, 0, 3⟩,
  ⟨(some 6), .move (.c (.int .i64 1)), none, 0, 7⟩]
def f66r3 : List AOper := [
  ⟨(some 15), .move (.t 1), none, 0, 0⟩,
  ⟨(some 16), .bin .lss (.t 15) (.c (.int .i64 0)), none, 0, 1⟩,
  ⟨(some 17), .move (.t 16), none, 0, 3⟩,
  ⟨(some 18), .move (.t 1), (some (17, false)), 0, 7⟩,
  ⟨(some 19), .move (.t 0), (some (17, false)), 0, 7⟩,
  ⟨(some 20), .call (.c (.fn 60 [] [])) [(.t 19)], (some (17, false)), 0, 23⟩,
  ⟨(some 21), .bin .geq (.t 18) (.t 20), (some (17, false)), 0, 63⟩,
  ⟨(some 22), .pick (.t 17) (.c (.bool true)) (.t 21), none, 0, 127⟩,
  ⟨(some 14), .move (.t 22), none, 0, 255⟩]
def f66r4 : List AOper := [
  ⟨(some 23), .build [(.int .i64 0), (.int .i64 0), (.is [] .nil)] [], none, 0, 0⟩,
  ⟨(some 4), .move (.c .nilp), none, 0, 0⟩,
  ⟨none, .store 3 (.t 5) (.t 23), none, 0, 3⟩,
  ⟨(some 6), .move (.c (.int .i64 30)), none, 0, 7⟩]
def f66r5 : List AOper := [
  ⟨(some 25), .move (.t 0), none, 0, 0⟩,
  ⟨(some 26), .move (.t 1), none, 0, 0⟩,
  ⟨(some 27), .call (.c (.fn 68 [] [])) [(.t 25), (.t 26)], none, 0, 3⟩,
  ⟨(some 28), .un .not (.t 27), none, 0, 7⟩,
  ⟨(some 24), .move (.t 28), none, 0, 15⟩]
def f66r6 : List AOper := [
  ⟨(some 29), .build [(.int .i64 0), (.int .i64 0), (.is [] .nil)] [], none, 0, 0⟩,
  ⟨(some 4), .move (.c .nilp), none, 0, 0⟩,
  ⟨none, .store 3 (.t 5) (.t 29), none, 0, 3⟩,
  ⟨(some 6), .move (.c (.int .i64 50)), none, 0, 7⟩]
def f66r7 : List AOper := [
  ⟨(some 30), .move (.t 0), none, 0, 0⟩,
  ⟨(some 31), .mkMap, none, 0, 0⟩,
  ⟨(some 32), .build [.nilp, .nilm, (.bool false)] [(0, 1, (.t 30)), (1, 1, (.t 31))], none, 1, 3⟩,
  ⟨(some 33), .box false (.t 32), none, 1, 7⟩,
  ⟨(some 7), .move (.t 33), none, 2, 15⟩]
def f66r8 : List AOper := [
  ⟨(some 34), .move (.t 7), none, 0, 0⟩,
  ⟨(some 35), .move (.t 1), none, 0, 0⟩,
  ⟨(some 36), .call (.c (.fn 69 [] [])) [(.t 34), (.t 35)], none, 0, 3⟩,
  ⟨(some 8), .alloc false [(.int .i64 0), (.int .i64 0), (.is [] .nil)], none, 0, 0⟩,
  ⟨none, .store 3 (.t 8) (.t 36), none, 1, 15⟩]
def f66r9 : List AOper := [
  ⟨(some 37), .move (.t 7), none, 0, 0⟩,
  ⟨(some 38), .nilCheck (.t 37), none, 0, 1⟩,
  ⟨(some 39), .fieldAddr 2 (.t 38), none, 0, 3⟩,
  ⟨(some 40), .load false 1 (.t 39), none, 0, 7⟩]
def f66r10 : List AOper := [
  ⟨(some 41), .build [(.int .i64 0), (.int .i64 0), (.is [] .nil)] [], none, 0, 0⟩,
  ⟨(some 4), .move (.c .nilp), none, 0, 0⟩,
  ⟨none, .store 3 (.t 5) (.t 41), none, 0, 3⟩,
  ⟨(some 6), .move (.c (.int .i64 51)), none, 0, 7⟩]
def f66q11 : List AOper := [
  ⟨(some 42), .move (.t 7), none, 0, 0⟩,
  ⟨(some 43), .load true 3 (.t 8), none, 0, 0⟩,
  ⟨(some 4), .move (.t 42), none, 0, 1⟩,
  ⟨none, .store 3 (.t 5) (.t 43), none, 0, 7⟩,
  ⟨(some 6), .move (.c (.int .i64 0)), none, 0, 15⟩]
def f66r11 : List AOper := f66q11
theorem f66r11_s : staticOK 0 f66r11 = true := by rfl
theorem f66r11_w {A : Tab} {nt : Nat} {keep : List Nat} {n : Nat} {e : Env} {h : Heap} (hr : (bkeep keep (stepsF nt (stepF A true) h.length f66r11 e (h ++ List.replicate n .free))).isSome = true) : Brun A nt (.region true f66r11 keep n) e h = bkeep keep (stepsF nt (stepF A true) h.length f66r11 e (h ++ List.replicate n .free)) := Brun_drawnS f66r11_s hr
theorem f66r11_u (nt base : Nat) (step : Nat → AOp → Env → Heap → Option (AV × Heap)) (e : Env) (h : Heap) : stepsF nt step base f66r11 e h = stepsF nt step base f66q11 e h := rfl
def f66c : ACode :=
  .seq (.region false f66r0 [0, 1, 5] 1)
  (.seq (.block 0 (.seq (.region false f66r1 [0, 1, 5, 9] 0)
    (.cond (.t 9)
      (.seq (.region false f66r2 [4, 5, 6] 0)
      (.ret))
      (.seq (.region false f66r3 [0, 1, 5, 14] 0)
      (.cond (.t 14)
        (.seq (.region false f66r4 [4, 5, 6] 0)
        (.ret))
        (.seq (.region false f66r5 [0, 1, 5, 24] 0)
        (.cond (.t 24)
          (.seq (.region false f66r6 [4, 5, 6] 0)
          (.ret))
          (.skip))))))))
  (.seq (.region false f66r7 [1, 5, 7] 2)
  (.seq (.region false f66r8 [5, 7, 8] 1)
  (.seq (.seq (.region false f66r9 [5, 7, 8, 40] 0)
  (.cond (.t 40)
    (.seq (.region false f66r10 [4, 5, 6] 0)
    (.ret))
    (.skip)))
  (.seq (.region true f66r11 [4, 5, 6] 0)
  (.ret))))))
def f66 : AFn := ⟨2, 44, [.tmp 4, .cell 5 true 3, .tmp 6], f66c, 0⟩
def f66k : List (Nat × List Nat) := [(0, [0, 1, 5]), (1, [0, 1, 5, 9]), (3, [0, 1, 5, 14]), (5, [0, 1, 5, 24]), (6, [4, 5, 6]), (4, [4, 5, 6]), (2, [4, 5, 6]), (7, [1, 5, 7]), (8, [5, 7, 8]), (9, [5, 7, 8, 40]), (10, [4, 5, 6]), (11, [4, 5, 6])]
def f66v : List Nat := []

/-! 67: mortise/ctype.twin, parameters [68], results [68] -/
def f67r0 : List AOper := [
  ⟨(some 1), .box false (.t 0), none, 0, 0⟩,
  ⟨(some 2), .alloc false [(.int .i64 0), (.int .i64 0), (.int .i64 0), (.str []), (.is [] .nil), (.bool false)], none, 1, 0⟩]
def f67r1 : List AOper := [
  ⟨(some 3), .fieldAddr 4 (.t 1), none, 0, 0⟩,
  ⟨(some 4), .load false 1 (.t 3), none, 0, 1⟩,
  ⟨(some 5), .call (.c (.fn 70 [] [])) [(.t 4)], none, 0, 3⟩,
  ⟨(some 6), .fieldAddr 4 (.t 1), none, 0, 7⟩,
  ⟨none, .store 1 (.t 6) (.t 5), none, 0, 15⟩]
def f67r2 : List AOper := [
  ⟨(some 7), .load true 6 (.t 1), none, 0, 0⟩,
  ⟨none, .store 6 (.t 2) (.t 7), none, 0, 1⟩]
def f67c : ACode :=
  .seq (.region false f67r0 [1, 2] 2)
  (.seq (.region false f67r1 [1, 2] 0)
  (.seq (.region false f67r2 [2] 0)
  (.ret)))
def f67 : AFn := ⟨1, 8, [.cell 2 true 6], f67c, 1⟩
def f67k : List (Nat × List Nat) := [(0, [1, 2]), (1, [1, 2]), (2, [2])]
def f67v : List Nat := []

/-! 68: (*mortise/ctype.Table).Whole, parameters [41, 3], results [4] -/
def f68r0 : List AOper := [
  ⟨(some 4), .move (.c (.bool false)), none, 0, 0⟩]
def f68r1 : List AOper := [
  ⟨(some 6), .move (.t 0), none, 0, 0⟩,
  ⟨(some 7), .move (.t 1), none, 0, 0⟩,
  ⟨(some 8), .call (.c (.fn 64 [] [])) [(.t 6), (.t 7)], none, 0, 3⟩,
  ⟨(some 5), .move (.t 8), none, 0, 7⟩]
def f68r2 : List AOper := [
  ⟨(some 9), .move (.t 5), none, 0, 0⟩]
def f68r3 : List AOper := [
  ⟨(some 11), .bin .eql (.t 9) (.c (.int .i64 0)), none, 0, 0⟩,
  ⟨(some 10), .move (.t 11), none, 0, 1⟩]
def f68r4 : List AOper := [
  ⟨(some 12), .bin .eql (.t 9) (.c (.int .i64 1)), none, 0, 0⟩,
  ⟨(some 10), .move (.t 12), none, 0, 1⟩]
def f68r5 : List AOper := [
  ⟨(some 4), .move (.c (.bool false)), none, 0, 0⟩]
def f68r6 : List AOper := [
  ⟨(some 14), .bin .eql (.t 9) (.c (.int .i64 14)), none, 0, 0⟩,
  ⟨(some 13), .move (.t 14), none, 0, 1⟩]
def f68r7 : List AOper := [
  ⟨(some 15), .move (.t 0), none, 0, 0⟩,
  ⟨(some 16), .nilCheck (.t 15), none, 0, 1⟩,
  ⟨(some 17), .fieldAddr 0 (.t 16), none, 0, 3⟩,
  ⟨(some 18), .load false 1 (.t 17), none, 0, 7⟩,
  ⟨(some 19), .move (.t 1), none, 0, 0⟩,
  ⟨(some 20), .idxAddr 6 (.t 18) (.t 19), none, 0, 31⟩,
  ⟨(some 21), .fieldAddr 2 (.t 20), none, 0, 63⟩,
  ⟨(some 22), .load false 1 (.t 21), none, 0, 127⟩,
  ⟨(some 23), .bin .geq (.t 22) (.c (.int .i64 0)), none, 0, 255⟩,
  ⟨(some 4), .move (.t 23), none, 0, 511⟩]
def f68r8 : List AOper := [
  ⟨(some 25), .bin .eql (.t 9) (.c (.int .i64 15)), none, 0, 0⟩,
  ⟨(some 24), .move (.t 25), none, 0, 1⟩]
def f68r9 : List AOper := [
  ⟨(some 26), .bin .eql (.t 9) (.c (.int .i64 16)), none, 0, 0⟩,
  ⟨(some 24), .move (.t 26), none, 0, 1⟩]
def f68r10 : List AOper := [
  ⟨(some 27), .move (.t 0), none, 0, 0⟩,
  ⟨(some 28), .nilCheck (.t 27), none, 0, 1⟩,
  ⟨(some 29), .fieldAddr 0 (.t 28), none, 0, 3⟩,
  ⟨(some 30), .load false 1 (.t 29), none, 0, 7⟩,
  ⟨(some 31), .move (.t 1), none, 0, 0⟩,
  ⟨(some 32), .idxAddr 6 (.t 30) (.t 31), none, 0, 31⟩,
  ⟨(some 33), .fieldAddr 5 (.t 32), none, 0, 63⟩,
  ⟨(some 34), .load false 1 (.t 33), none, 0, 127⟩,
  ⟨(some 4), .move (.t 34), none, 0, 255⟩]
def f68r11 : List AOper := [
  ⟨(some 4), .move (.c (.bool true)), none, 0, 0⟩]
def f68c : ACode :=
  .seq (.region false f68r0 [0, 1] 0)
  (.seq (.seq (.region false f68r1 [0, 1, 5] 0)
  (.seq (.region false f68r2 [0, 1, 9] 0)
  (.block 0 (.seq (.seq (.region false f68r3 [0, 1, 9, 10] 0)
    (.cond (.t 10)
      (.skip)
      (.region false f68r4 [0, 1, 9, 10] 0)))
    (.cond (.t 10)
      (.seq (.region false f68r5 [4] 0)
      (.ret))
      (.seq (.region false f68r6 [0, 1, 9, 13] 0)
      (.cond (.t 13)
        (.seq (.region false f68r7 [4] 0)
        (.ret))
        (.seq (.seq (.region false f68r8 [0, 1, 9, 24] 0)
        (.cond (.t 24)
          (.skip)
          (.region false f68r9 [0, 1, 24] 0)))
        (.cond (.t 24)
          (.seq (.region false f68r10 [4] 0)
          (.ret))
          (.skip))))))))))
  (.seq (.region false f68r11 [4] 0)
  (.ret)))
def f68 : AFn := ⟨2, 35, [.tmp 4], f68c, 1⟩
def f68k : List (Nat × List Nat) := [(0, [0, 1]), (1, [0, 1, 5]), (2, [0, 1, 9]), (3, [0, 1, 9, 10]), (4, [0, 1, 9, 10]), (6, [0, 1, 9, 13]), (8, [0, 1, 9, 24]), (9, [0, 1, 24]), (10, [4]), (7, [4]), (5, [4]), (11, [4])]
def f68v : List Nat := []

/-! 69: (*mortise/layout.looker).look, parameters [99, 3], results [102] -/
def f69r0 : List AOper := [
  ⟨(some 4), .alloc false [(.int .i64 0), (.int .i64 0), (.is [] .nil)], none, 0, 0⟩]
def f69r1 : List AOper := [
  ⟨(some 13), .move (.t 0), none, 0, 0⟩,
  ⟨(some 14), .nilCheck (.t 13), none, 0, 1⟩,
  ⟨(some 15), .fieldAddr 1 (.t 14), none, 0, 3⟩,
  ⟨(some 16), .load false 1 (.t 15), none, 0, 7⟩,
  ⟨(some 17), .move (.t 1), none, 0, 0⟩,
  ⟨(some 18), .lookup false [.int .i64] (.agg [(.int .i64 0), (.int .i64 0), (.is [] .nil)]) true (.t 16) (.t 17), none, 0, 31⟩,
  ⟨(some 12), .move (.t 18), none, 0, 63⟩,
  ⟨(some 19), .extract (.t 12) 0, none, 0, 127⟩,
  ⟨(some 20), .extract (.t 12) 1, none, 0, 127⟩,
  ⟨(some 5), .alloc false [(.int .i64 0), (.int .i64 0), (.is [] .nil)], none, 0, 0⟩,
  ⟨none, .store 3 (.t 5) (.t 19), none, 1, 767⟩,
  ⟨(some 6), .move (.t 20), none, 1, 2047⟩]
def f69r2 : List AOper := [
  ⟨(some 21), .move (.t 6), none, 0, 0⟩]
def f69r3 : List AOper := [
  ⟨(some 22), .load true 3 (.t 5), none, 0, 0⟩,
  ⟨none, .store 3 (.t 4) (.t 22), none, 0, 1⟩]
def f69r4 : List AOper := [
  ⟨(some 24), .move (.t 0), none, 0, 0⟩,
  ⟨(some 25), .nilCheck (.t 24), none, 0, 1⟩,
  ⟨(some 26), .fieldAddr 0 (.t 25), none, 0, 3⟩,
  ⟨(some 27), .load false 1 (.t 26), none, 0, 7⟩,
  ⟨(some 28), .move (.t 1), none, 0, 0⟩,
  ⟨(some 29), .call (.c (.fn 65 [] [])) [(.t 27), (.t 28)], none, 0, 31⟩,
  ⟨(some 23), .move (.t 29), none, 0, 63⟩,
  ⟨(some 30), .extract (.t 23) 0, none, 0, 127⟩,
  ⟨(some 31), .extract (.t 23) 1, none, 0, 127⟩,
  ⟨(some 7), .alloc false [(.int .i64 0), (.int .i64 0), (.int .i64 0), (.str []), (.is [] .nil), (.bool false)], none, 0, 0⟩,
  ⟨none, .store 6 (.t 7) (.t 30), none, 1, 767⟩,
  ⟨(some 8), .move (.t 31), none, 1, 2047⟩]
def f69r5 : List AOper := [
  ⟨(some 9), .alloc false [(.int .i64 0), (.int .i64 0), (.is [] .nil)], none, 0, 0⟩]
def f69r6 : List AOper := [
  ⟨(some 32), .fieldAddr 0 (.t 7), none, 0, 0⟩,
  ⟨(some 33), .load false 1 (.t 32), none, 0, 1⟩]
def f69r7 : List AOper := [
  ⟨(some 41), .bin .eql (.t 33) (.c (.int .i64 14)), none, 0, 0⟩,
  ⟨(some 40), .move (.t 41), none, 0, 1⟩]
def f69r8 : List AOper := [
  ⟨(some 42), .move (.t 0), none, 0, 0⟩,
  ⟨(some 43), .fieldAddr 1 (.t 7), none, 0, 0⟩,
  ⟨(some 44), .load false 1 (.t 43), none, 0, 2⟩,
  ⟨(some 45), .call (.c (.fn 69 [] [])) [(.t 42), (.t 44)], none, 0, 7⟩,
  ⟨(some 10), .alloc false [(.int .i64 0), (.int .i64 0), (.is [] .nil)], none, 0, 0⟩,
  ⟨none, .store 3 (.t 10) (.t 45), none, 1, 31⟩]
def f69r9 : List AOper := [
  ⟨(some 46), .fieldAddr 2 (.t 7), none, 0, 0⟩,
  ⟨(some 47), .load false 1 (.t 46), none, 0, 1⟩,
  ⟨(some 48), .fieldAddr 0 (.t 10), none, 0, 0⟩,
  ⟨(some 49), .load false 1 (.t 48), none, 0, 4⟩,
  ⟨(some 50), .bin .mul (.t 47) (.t 49), none, 0, 15⟩,
  ⟨(some 51), .fieldAddr 1 (.t 10), none, 0, 0⟩,
  ⟨(some 52), .load false 1 (.t 51), none, 0, 32⟩,
  ⟨(some 53), .build [(.int .i64 0), (.int .i64 0), (.is [] .nil)] [(0, 1, (.t 50)), (1, 1, (.t 52))], none, 0, 127⟩,
  ⟨none, .store 3 (.t 9) (.t 53), none, 0, 255⟩]
def f69r10 : List AOper := [
  ⟨(some 55), .bin .eql (.t 33) (.c (.int .i64 15)), none, 0, 0⟩,
  ⟨(some 54), .move (.t 55), none, 0, 1⟩]
def f69r11 : List AOper := [
  ⟨(some 56), .move (.t 0), none, 0, 0⟩,
  ⟨(some 57), .load true 6 (.t 7), none, 0, 0⟩,
  ⟨(some 58), .call (.c (.fn 71 [] [])) [(.t 56), (.t 57)], none, 0, 3⟩,
  ⟨none, .store 3 (.t 9) (.t 58), none, 0, 7⟩]
def f69r12 : List AOper := [
  ⟨(some 60), .bin .eql (.t 33) (.c (.int .i64 16)), none, 0, 0⟩,
  ⟨(some 59), .move (.t 60), none, 0, 1⟩]
def f69r13 : List AOper := [
  ⟨(some 61), .move (.t 0), none, 0, 0⟩,
  ⟨(some 62), .load true 6 (.t 7), none, 0, 0⟩,
  ⟨(some 63), .call (.c (.fn 72 [] [])) [(.t 61), (.t 62)], none, 0, 3⟩,
  ⟨none, .store 3 (.t 9) (.t 63), none, 0, 7⟩]
def f69r14 : List AOper := [
  ⟨(some 34), .fieldAddr 0 (.t 7), none, 0, 0⟩,
  ⟨(some 35), .load false 1 (.t 34), none, 0, 1⟩,
  ⟨(some 36), .call (.c (.fn 27 [] [])) [(.t 35)], none, 0, 3⟩,
  ⟨(some 11), .move (.t 36), none, 0, 7⟩]
def f69r15 : List AOper := [
  ⟨(some 37), .move (.t 11), none, 0, 0⟩,
  ⟨(some 38), .move (.t 11), none, 0, 0⟩,
  ⟨(some 39), .build [(.int .i64 0), (.int .i64 0), (.is [] .nil)] [(0, 1, (.t 37)), (1, 1, (.t 38))], none, 0, 3⟩,
  ⟨none, .store 3 (.t 9) (.t 39), none, 0, 7⟩]
def f69r16 : List AOper := [
  ⟨(some 64), .fieldAddr 0 (.t 9), none, 0, 0⟩,
  ⟨(some 65), .load false 1 (.t 64), none, 0, 1⟩,
  ⟨(some 66), .bin .gtr (.t 65) (.c (.int .i64 16384)), none, 0, 3⟩]
def f69r17 : List AOper := [
  ⟨(some 67), .move (.t 0), none, 0, 0⟩,
  ⟨(some 68), .nilCheck (.t 67), none, 0, 1⟩,
  ⟨(some 69), .fieldAddr 2 (.t 68), none, 0, 3⟩,
  ⟨none, .store 1 (.t 69) (.c (.bool true)), none, 0, 7⟩]
def f69r18 : List AOper := [
  ⟨(some 70), .fieldAddr 0 (.t 9), none, 0, 0⟩,
  ⟨none, .store 1 (.t 70) (.c (.int .i64 16385)), none, 0, 1⟩]
def f69q19 : List AOper := [
  ⟨(some 71), .move (.t 0), none, 0, 0⟩,
  ⟨(some 72), .nilCheck (.t 71), none, 0, 1⟩,
  ⟨(some 73), .fieldAddr 1 (.t 72), none, 0, 3⟩,
  ⟨(some 74), .load false 1 (.t 73), none, 0, 7⟩,
  ⟨(some 75), .move (.t 1), none, 0, 0⟩,
  ⟨(some 76), .load true 3 (.t 9), none, 0, 0⟩,
  ⟨none, .mapUpdate false [.int .i64] (.t 74) (.t 75) (.t 76), none, 0, 63⟩]
def f69r19 : List AOper := f69q19
def f69r20 : List AOper := [
  ⟨(some 77), .load true 3 (.t 9), none, 0, 0⟩,
  ⟨none, .store 3 (.t 4) (.t 77), none, 0, 1⟩]
theorem f69r19_s : staticOK 0 f69r19 = true := by rfl
theorem f69r19_w {A : Tab} {nt : Nat} {keep : List Nat} {n : Nat} {e : Env} {h : Heap} (hr : (bkeep keep (stepsF nt (stepF A true) h.length f69r19 e (h ++ List.replicate n .free))).isSome = true) : Brun A nt (.region true f69r19 keep n) e h = bkeep keep (stepsF nt (stepF A true) h.length f69r19 e (h ++ List.replicate n .free)) := Brun_drawnS f69r19_s hr
theorem f69r19_u (nt base : Nat) (step : Nat → AOp → Env → Heap → Option (AV × Heap)) (e : Env) (h : Heap) : stepsF nt step base f69r19 e h = stepsF nt step base f69q19 e h := rfl
def f69c : ACode :=
  .seq (.region false f69r0 [0, 1, 4] 1)
  (.seq (.seq (.region false f69r1 [0, 1, 4, 5, 6] 1)
  (.seq (.region false f69r2 [0, 1, 4, 5, 21] 0)
  (.cond (.t 21)
    (.seq (.region false f69r3 [4] 0)
    (.ret))
    (.skip))))
  (.seq (.region false f69r4 [0, 1, 4, 7] 1)
  (.seq (.region false f69r5 [0, 1, 4, 7, 9] 1)
  (.seq (.seq (.region false f69r6 [0, 1, 4, 7, 9, 33] 0)
  (.block 0 (.seq (.region false f69r7 [0, 1, 4, 7, 9, 33, 40] 0)
    (.cond (.t 40)
      (.seq (.region false f69r8 [0, 1, 4, 7, 9, 10] 1)
      (.region false f69r9 [0, 1, 4, 9] 0))
      (.seq (.region false f69r10 [0, 1, 4, 7, 9, 33, 54] 0)
      (.cond (.t 54)
        (.region false f69r11 [0, 1, 4, 9] 0)
        (.seq (.region false f69r12 [0, 1, 4, 7, 9, 59] 0)
        (.cond (.t 59)
          (.region false f69r13 [0, 1, 4, 9] 0)
          (.seq (.region false f69r14 [0, 1, 4, 9, 11] 0)
          (.region false f69r15 [0, 1, 4, 9] 0))))))))))
  (.seq (.seq (.region false f69r16 [0, 1, 4, 9, 66] 0)
  (.cond (.t 66)
    (.seq (.region false f69r17 [0, 1, 4, 9] 0)
    (.region false f69r18 [0, 1, 4, 9] 0))
    (.skip)))
  (.seq (.region true f69r19 [4, 9] 0)
  (.seq (.region false f69r20 [4] 0)
  (.ret))))))))
def f69 : AFn := ⟨2, 78, [.cell 4 true 3], f69c, 1⟩
def f69k : List (Nat × List Nat) := [(0, [0, 1, 4]), (1, [0, 1, 4, 5, 6]), (2, [0, 1, 4, 5, 21]), (3, [4]), (4, [0, 1, 4, 7]), (5, [0, 1, 4, 7, 9]), (6, [0, 1, 4, 7, 9, 33]), (9, [0, 1, 4, 7, 9, 33, 40]), (12, [0, 1, 4, 7, 9, 33, 54]), (14, [0, 1, 4, 7, 9, 59]), (7, [0, 1, 4, 9, 11]), (8, [0, 1, 4, 9]), (15, [0, 1, 4, 9]), (13, [0, 1, 4, 9]), (10, [0, 1, 4, 7, 9, 10]), (11, [0, 1, 4, 9]), (16, [0, 1, 4, 9, 66]), (17, [0, 1, 4, 9]), (18, [0, 1, 4, 9]), (19, [4, 9]), (20, [4])]
def f69v : List Nat := []

/-! 70: slices.Clone[[]mortise/api.Member,mortise/api.Member], parameters [66], results [66] -/
def f70r0 : List AOper := [
  ⟨(some 2), .move (.c (.is [] .nil)), none, 0, 0⟩]
def f70r1 : List AOper := [
  ⟨(some 3), .move (.t 0), none, 0, 0⟩,
  ⟨(some 4), .eq false .slice (.t 3) (.c (.is [] .nil)), none, 0, 1⟩]
def f70r2 : List AOper := [
  ⟨(some 2), .move (.c (.is [] .nil)), none, 0, 0⟩]
def f70r3 : List AOper := [
  ⟨(some 5), .buildSlice true 3 0 [] [], none, 0, 0⟩,
  ⟨(some 6), .move (.t 0), none, 0, 0⟩,
  ⟨(some 7), .append true 3 32 (.t 5) (.t 6), none, 0, 3⟩,
  ⟨(some 2), .move (.t 7), none, 1, 7⟩]
def f70c : ACode :=
  .seq (.region false f70r0 [0] 0)
  (.seq (.seq (.region false f70r1 [0, 4] 0)
  (.cond (.t 4)
    (.seq (.region false f70r2 [2] 0)
    (.ret))
    (.skip)))
  (.seq (.region false f70r3 [2] 1)
  (.ret)))
def f70 : AFn := ⟨1, 8, [.tmp 2], f70c, 3⟩
def f70k : List (Nat × List Nat) := [(0, [0]), (1, [0, 4]), (2, [2]), (3, [2])]
def f70v : List Nat := [7, 5]

/-! 71: (*mortise/layout.looker).rows, parameters [99, 68], results [102] -/
def f71r0 : List AOper := [
  ⟨(some 3), .box true (.t 1), none, 0, 0⟩,
  ⟨(some 4), .alloc false [(.int .i64 0), (.int .i64 0), (.is [] .nil)], none, 0, 0⟩]
def f71r1 : List AOper := [
  ⟨(some 12), .build [(.int .i64 0), (.int .i64 0), (.is [] .nil)] [(1, 1, (.c (.int .i64 1)))], none, 0, 0⟩,
  ⟨(some 5), .alloc false [(.int .i64 0), (.int .i64 0), (.is [] .nil)], none, 0, 0⟩,
  ⟨none, .store 3 (.t 5) (.t 12), none, 1, 3⟩]
def f71r2 : List AOper := [
  ⟨(some 6), .move (.c (.int .i64 0)), none, 0, 0⟩]
def f71r3 : List AOper := [
  ⟨(some 13), .fn 73 [] [(.t 5)], none, 0, 0⟩,
  ⟨(some 7), .move (.t 13), none, 0, 1⟩]
def f71r4 : List AOper := [
  ⟨(some 14), .fieldAddr 4 (.t 3), none, 0, 0⟩,
  ⟨(some 15), .load false 1 (.t 14), none, 0, 1⟩,
  ⟨(some 16), .len 1 (.t 15), none, 0, 3⟩,
  ⟨(some 17), .move (.c (.int .i64 0)), none, 0, 0⟩]
def f71r5 : List AOper := [
  ⟨(some 18), .bin .lss (.t 17) (.t 16), none, 0, 0⟩]
def f71r6 : List AOper := [
  ⟨(some 19), .move (.t 17), none, 0, 0⟩,
  ⟨(some 20), .idxAddr 3 (.t 15) (.t 17), none, 0, 0⟩,
  ⟨(some 21), .load true 3 (.t 20), none, 0, 2⟩,
  ⟨(some 9), .alloc false [(.str []), (.int .i64 0), (.int .i64 0)], none, 0, 0⟩,
  ⟨(some 8), .move (.t 19), none, 1, 15⟩,
  ⟨none, .store 3 (.t 9) (.t 21), none, 1, 31⟩]
def f71r7 : List AOper := [
  ⟨(some 22), .move (.t 0), none, 0, 0⟩,
  ⟨(some 23), .fieldAddr 1 (.t 9), none, 0, 0⟩,
  ⟨(some 24), .load false 1 (.t 23), none, 0, 2⟩,
  ⟨(some 25), .call (.c (.fn 69 [] [])) [(.t 22), (.t 24)], none, 0, 7⟩,
  ⟨(some 10), .alloc false [(.int .i64 0), (.int .i64 0), (.is [] .nil)], none, 0, 0⟩,
  ⟨none, .store 3 (.t 10) (.t 25), none, 1, 31⟩]
def f71r8 : List AOper := [
  ⟨(some 26), .fieldAddr 0 (.t 10), none, 0, 0⟩,
  ⟨(some 27), .load false 1 (.t 26), none, 0, 1⟩,
  ⟨(some 28), .bin .mul (.c (.int .i64 8)) (.t 27), none, 0, 3⟩,
  ⟨(some 11), .move (.t 28), none, 0, 7⟩]
def f71r9 : List AOper := [
  ⟨(some 74), .fieldAddr 2 (.t 9), none, 0, 0⟩,
  ⟨(some 75), .load false 1 (.t 74), none, 0, 1⟩,
  ⟨(some 76), .bin .lss (.t 75) (.c (.int .i64 0)), none, 0, 3⟩,
  ⟨(some 73), .move (.t 76), none, 0, 7⟩]
def f71r10 : List AOper := [
  ⟨(some 77), .move (.t 6), none, 0, 0⟩,
  ⟨(some 78), .fieldAddr 1 (.t 10), none, 0, 0⟩,
  ⟨(some 79), .load false 1 (.t 78), none, 0, 2⟩,
  ⟨(some 80), .bin .mul (.c (.int .i64 8)) (.t 79), none, 0, 6⟩,
  ⟨(some 81), .call (.c (.fn 74 [] [])) [(.t 77), (.t 80)], none, 0, 15⟩,
  ⟨(some 6), .move (.t 81), none, 0, 31⟩]
def f71r11 : List AOper := [
  ⟨(some 82), .move (.t 7), none, 0, 0⟩,
  ⟨(some 83), .move (.t 8), none, 0, 0⟩,
  ⟨(some 84), .fieldAddr 1 (.t 9), none, 0, 0⟩,
  ⟨(some 85), .load false 1 (.t 84), none, 0, 4⟩,
  ⟨(some 86), .move (.t 6), none, 0, 0⟩,
  ⟨(some 87), .bin .quo (.t 86) (.c (.int .i64 8)), none, 0, 16⟩,
  ⟨(some 88), .build (List.replicate 5 (.int .i64 0)) [(0, 1, (.t 83)), (1, 1, (.t 85)), (2, 1, (.t 87))], none, 0, 62⟩,
  ⟨(some 89), .call (.t 82) [(.t 88)], none, 0, 127⟩]
def f71r12 : List AOper := [
  ⟨(some 90), .move (.t 6), none, 0, 0⟩,
  ⟨(some 91), .move (.t 11), none, 0, 0⟩,
  ⟨(some 92), .bin .add (.t 90) (.t 91), none, 0, 3⟩,
  ⟨(some 6), .move (.t 92), none, 0, 7⟩]
def f71r13 : List AOper := [
  ⟨(some 93), .fieldAddr 1 (.t 5), none, 0, 0⟩,
  ⟨(some 94), .load false 1 (.t 93), none, 0, 1⟩,
  ⟨(some 95), .fieldAddr 1 (.t 10), none, 0, 0⟩,
  ⟨(some 96), .load false 1 (.t 95), none, 0, 4⟩,
  ⟨(some 97), .max (.t 94) (.t 96), none, 0, 15⟩,
  ⟨(some 98), .fieldAddr 1 (.t 5), none, 0, 31⟩,
  ⟨none, .store 1 (.t 98) (.t 97), none, 0, 63⟩]
def f71r14 : List AOper := [
  ⟨(some 100), .fieldAddr 2 (.t 9), none, 0, 0⟩,
  ⟨(some 101), .load false 1 (.t 100), none, 0, 1⟩,
  ⟨(some 102), .bin .eql (.t 101) (.c (.int .i64 0)), none, 0, 3⟩,
  ⟨(some 99), .move (.t 102), none, 0, 7⟩]
def f71r15 : List AOper := [
  ⟨(some 103), .move (.t 6), none, 0, 0⟩,
  ⟨(some 104), .move (.t 11), none, 0, 0⟩,
  ⟨(some 105), .call (.c (.fn 74 [] [])) [(.t 103), (.t 104)], none, 0, 3⟩,
  ⟨(some 6), .move (.t 105), none, 0, 7⟩]
def f71q16 : List AOper := [
  ⟨(some 29), .move (.t 6), none, 0, 0⟩,
  ⟨(some 30), .move (.t 11), none, 0, 0⟩,
  ⟨(some 31), .bin .quo (.t 29) (.t 30), none, 0, 3⟩,
  ⟨(some 32), .move (.t 6), none, 0, 0⟩,
  ⟨(some 33), .fieldAddr 2 (.t 9), none, 0, 0⟩,
  ⟨(some 34), .load false 1 (.t 33), none, 0, 16⟩,
  ⟨(some 35), .bin .add (.t 32) (.t 34), none, 0, 56⟩,
  ⟨(some 36), .bin .sub (.t 35) (.c (.int .i64 1)), none, 0, 120⟩,
  ⟨(some 37), .move (.t 11), none, 0, 0⟩,
  ⟨(some 38), .bin .quo (.t 36) (.t 37), none, 0, 504⟩,
  ⟨(some 39), .bin .neq (.t 31) (.t 38), none, 0, 1023⟩]
def f71r16 : List AOper := f71q16
def f71r17 : List AOper := [
  ⟨(some 40), .move (.t 6), none, 0, 0⟩,
  ⟨(some 41), .move (.t 11), none, 0, 0⟩,
  ⟨(some 42), .call (.c (.fn 74 [] [])) [(.t 40), (.t 41)], none, 0, 3⟩,
  ⟨(some 6), .move (.t 42), none, 0, 7⟩]
def f71q18 : List AOper := [
  ⟨(some 43), .move (.t 7), none, 0, 0⟩,
  ⟨(some 44), .move (.t 8), none, 0, 0⟩,
  ⟨(some 45), .fieldAddr 1 (.t 9), none, 0, 0⟩,
  ⟨(some 46), .load false 1 (.t 45), none, 0, 4⟩,
  ⟨(some 47), .fieldAddr 0 (.t 10), none, 0, 0⟩,
  ⟨(some 48), .load false 1 (.t 47), none, 0, 16⟩,
  ⟨(some 49), .move (.t 6), none, 0, 0⟩,
  ⟨(some 50), .move (.t 11), none, 0, 0⟩,
  ⟨(some 51), .bin .quo (.t 49) (.t 50), none, 0, 192⟩,
  ⟨(some 52), .bin .mul (.t 48) (.t 51), none, 0, 496⟩,
  ⟨(some 53), .move (.t 6), none, 0, 0⟩,
  ⟨(some 54), .move (.t 11), none, 0, 0⟩,
  ⟨(some 55), .bin .rem (.t 53) (.t 54), none, 0, 3072⟩,
  ⟨(some 56), .fieldAddr 2 (.t 9), none, 0, 0⟩,
  ⟨(some 57), .load false 1 (.t 56), none, 0, 8192⟩,
  ⟨(some 58), .build (List.replicate 5 (.int .i64 0)) [(0, 1, (.t 44)), (1, 1, (.t 46)), (2, 1, (.t 52)), (3, 1, (.t 55)), (4, 1, (.t 57))], none, 0, 32766⟩,
  ⟨(some 59), .call (.t 43) [(.t 58)], none, 0, 65535⟩]
def f71r18 : List AOper := f71q18
def f71r19 : List AOper := [
  ⟨(some 60), .move (.t 6), none, 0, 0⟩,
  ⟨(some 61), .fieldAddr 2 (.t 9), none, 0, 0⟩,
  ⟨(some 62), .load false 1 (.t 61), none, 0, 2⟩,
  ⟨(some 63), .bin .add (.t 60) (.t 62), none, 0, 7⟩,
  ⟨(some 6), .move (.t 63), none, 0, 15⟩]
def f71r20 : List AOper := [
  ⟨(some 64), .fieldAddr 0 (.t 9), none, 0, 0⟩,
  ⟨(some 65), .load false 1 (.t 64), none, 0, 1⟩,
  ⟨(some 66), .bin .neq (.t 65) (.c (.str [])), none, 0, 3⟩]
def f71r21 : List AOper := [
  ⟨(some 67), .fieldAddr 1 (.t 5), none, 0, 0⟩,
  ⟨(some 68), .load false 1 (.t 67), none, 0, 1⟩,
  ⟨(some 69), .fieldAddr 0 (.t 10), none, 0, 0⟩,
  ⟨(some 70), .load false 1 (.t 69), none, 0, 4⟩,
  ⟨(some 71), .max (.t 68) (.t 70), none, 0, 15⟩,
  ⟨(some 72), .fieldAddr 1 (.t 5), none, 0, 31⟩,
  ⟨none, .store 1 (.t 72) (.t 71), none, 0, 63⟩]
def f71r22 : List AOper := [
  ⟨(some 106), .bin .add (.t 17) (.c (.int .i64 1)), none, 0, 0⟩,
  ⟨(some 17), .move (.t 106), none, 0, 1⟩]
def f71l5 : ACode :=
  .seq (.region false f71r5 [0, 4, 5, 6, 7, 15, 16, 17, 18] 0)
  (.seq (.cond (.t 18)
    (.skip)
    (.exit 0))
  (.seq (.block 1 (.seq (.region false f71r6 [0, 4, 5, 6, 7, 8, 9, 15, 16, 17] 1)
    (.seq (.region false f71r7 [0, 4, 5, 6, 7, 8, 9, 10, 15, 16, 17] 1)
    (.seq (.region false f71r8 [0, 4, 5, 6, 7, 8, 9, 10, 11, 15, 16, 17] 0)
    (.block 2 (.seq (.region false f71r9 [0, 4, 5, 6, 7, 8, 9, 10, 11, 15, 16, 17, 73] 0)
      (.cond (.t 73)
        (.seq (.region false f71r10 [0, 4, 5, 6, 7, 8, 9, 10, 11, 15, 16, 17] 0)
        (.seq (.region false f71r11 [0, 4, 5, 6, 7, 10, 11, 15, 16, 17] 0)
        (.seq (.region false f71r12 [0, 4, 5, 6, 7, 10, 15, 16, 17] 0)
        (.region false f71r13 [0, 4, 5, 6, 7, 15, 16, 17] 0))))
        (.seq (.region false f71r14 [0, 4, 5, 6, 7, 8, 9, 10, 11, 15, 16, 17, 99] 0)
        (.cond (.t 99)
          (.region false f71r15 [0, 4, 5, 6, 7, 15, 16, 17] 0)
          (.seq (.seq (.region true f71r16 [0, 4, 5, 6, 7, 8, 9, 10, 11, 15, 16, 17, 39] 0)
          (.cond (.t 39)
            (.region false f71r17 [0, 4, 5, 6, 7, 8, 9, 10, 11, 15, 16, 17] 0)
            (.skip)))
          (.seq (.region true f71r18 [0, 4, 5, 6, 7, 9, 10, 15, 16, 17] 0)
          (.seq (.region false f71r19 [0, 4, 5, 6, 7, 9, 10, 15, 16, 17] 0)
          (.seq (.region false f71r20 [0, 4, 5, 6, 7, 10, 15, 16, 17, 66] 0)
          (.cond (.t 66)
            (.region false f71r21 [0, 4, 5, 6, 7, 15, 16, 17] 0)
            (.skip)))))))))))))))
  (.region false f71r22 [0, 4, 5, 6, 7, 15, 16, 17] 0)))
def f71q23 : List AOper := [
  ⟨(some 107), .move (.t 6), none, 0, 0⟩,
  ⟨(some 108), .call (.c (.fn 74 [] [])) [(.t 107), (.c (.int .i64 8))], none, 0, 1⟩,
  ⟨(some 109), .bin .quo (.t 108) (.c (.int .i64 8)), none, 0, 3⟩,
  ⟨(some 110), .max (.c (.int .i64 1)) (.t 109), none, 0, 7⟩,
  ⟨(some 111), .fieldAddr 1 (.t 5), none, 0, 0⟩,
  ⟨(some 112), .load false 1 (.t 111), none, 0, 16⟩,
  ⟨(some 113), .call (.c (.fn 74 [] [])) [(.t 110), (.t 112)], none, 0, 63⟩,
  ⟨(some 114), .fieldAddr 0 (.t 5), none, 0, 127⟩,
  ⟨none, .store 1 (.t 114) (.t 113), none, 0, 255⟩]
def f71r23 : List AOper := f71q23
def f71r24 : List AOper := [
  ⟨(some 115), .load true 3 (.t 5), none, 0, 0⟩,
  ⟨none, .store 3 (.t 4) (.t 115), none, 0, 1⟩]
theorem f71r16_s : staticOK 0 f71r16 = true := by rfl
theorem f71r16_w {A : Tab} {nt : Nat} {keep : List Nat} {n : Nat} {e : Env} {h : Heap} (hr : (bkeep keep (stepsF nt (stepF A true) h.length f71r16 e (h ++ List.replicate n .free))).isSome = true) : Brun A nt (.region true f71r16 keep n) e h = bkeep keep (stepsF nt (stepF A true) h.length f71r16 e (h ++ List.replicate n .free)) := Brun_drawnS f71r16_s hr
theorem f71r16_u (nt base : Nat) (step : Nat → AOp → Env → Heap → Option (AV × Heap)) (e : Env) (h : Heap) : stepsF nt step base f71r16 e h = stepsF nt step base f71q16 e h := rfl
theorem f71r18_s : staticOK 0 f71r18 = true := by rfl
theorem f71r18_w {A : Tab} {nt : Nat} {keep : List Nat} {n : Nat} {e : Env} {h : Heap} (hr : (bkeep keep (stepsF nt (stepF A true) h.length f71r18 e (h ++ List.replicate n .free))).isSome = true) : Brun A nt (.region true f71r18 keep n) e h = bkeep keep (stepsF nt (stepF A true) h.length f71r18 e (h ++ List.replicate n .free)) := Brun_drawnS f71r18_s hr
theorem f71r18_u (nt base : Nat) (step : Nat → AOp → Env → Heap → Option (AV × Heap)) (e : Env) (h : Heap) : stepsF nt step base f71r18 e h = stepsF nt step base f71q18 e h := rfl
theorem f71r23_s : staticOK 0 f71r23 = true := by rfl
theorem f71r23_w {A : Tab} {nt : Nat} {keep : List Nat} {n : Nat} {e : Env} {h : Heap} (hr : (bkeep keep (stepsF nt (stepF A true) h.length f71r23 e (h ++ List.replicate n .free))).isSome = true) : Brun A nt (.region true f71r23 keep n) e h = bkeep keep (stepsF nt (stepF A true) h.length f71r23 e (h ++ List.replicate n .free)) := Brun_drawnS f71r23_s hr
theorem f71r23_u (nt base : Nat) (step : Nat → AOp → Env → Heap → Option (AV × Heap)) (e : Env) (h : Heap) : stepsF nt step base f71r23 e h = stepsF nt step base f71q23 e h := rfl
def f71c : ACode :=
  .seq (.region false f71r0 [0, 3, 4] 1)
  (.seq (.region false f71r1 [0, 3, 4, 5] 1)
  (.seq (.region false f71r2 [0, 3, 4, 5, 6] 0)
  (.seq (.region false f71r3 [0, 3, 4, 5, 6, 7] 0)
  (.seq (.seq (.region false f71r4 [0, 4, 5, 6, 7, 15, 16, 17] 0)
  (.block 0 (.loop f71l5)))
  (.seq (.region true f71r23 [4, 5] 0)
  (.seq (.region false f71r24 [4] 0)
  (.ret)))))))
def f71 : AFn := ⟨2, 116, [.cell 4 true 3], f71c, 1⟩
def f71k : List (Nat × List Nat) := [(0, [0, 3, 4]), (1, [0, 3, 4, 5]), (2, [0, 3, 4, 5, 6]), (3, [0, 3, 4, 5, 6, 7]), (4, [0, 4, 5, 6, 7, 15, 16, 17]), (5, [0, 4, 5, 6, 7, 15, 16, 17, 18]), (6, [0, 4, 5, 6, 7, 8, 9, 15, 16, 17]), (7, [0, 4, 5, 6, 7, 8, 9, 10, 15, 16, 17]), (8, [0, 4, 5, 6, 7, 8, 9, 10, 11, 15, 16, 17]), (15, [0, 4, 5, 6, 7, 8, 9, 10, 11, 15, 16, 17, 73]), (20, [0, 4, 5, 6, 7, 8, 9, 10, 11, 15, 16, 17, 99]), (9, [0, 4, 5, 6, 7, 8, 9, 10, 11, 15, 16, 17, 39]), (10, [0, 4, 5, 6, 7, 8, 9, 10, 11, 15, 16, 17]), (11, [0, 4, 5, 6, 7, 9, 10, 15, 16, 17]), (12, [0, 4, 5, 6, 7, 9, 10, 15, 16, 17]), (13, [0, 4, 5, 6, 7, 10, 15, 16, 17, 66]), (14, [0, 4, 5, 6, 7, 15, 16, 17]), (21, [0, 4, 5, 6, 7, 15, 16, 17]), (16, [0, 4, 5, 6, 7, 8, 9, 10, 11, 15, 16, 17]), (17, [0, 4, 5, 6, 7, 10, 11, 15, 16, 17]), (18, [0, 4, 5, 6, 7, 10, 15, 16, 17]), (19, [0, 4, 5, 6, 7, 15, 16, 17]), (22, [0, 4, 5, 6, 7, 15, 16, 17]), (23, [4, 5]), (24, [4])]
def f71v : List Nat := [3]

/-! 72: (*mortise/layout.looker).union, parameters [99, 68], results [102] -/
def f72r0 : List AOper := [
  ⟨(some 3), .box true (.t 1), none, 0, 0⟩,
  ⟨(some 4), .alloc false [(.int .i64 0), (.int .i64 0), (.is [] .nil)], none, 0, 0⟩]
def f72r1 : List AOper := [
  ⟨(some 9), .build [(.int .i64 0), (.int .i64 0), (.is [] .nil)] [(0, 1, (.c (.int .i64 1))), (1, 1, (.c (.int .i64 1)))], none, 0, 0⟩,
  ⟨(some 5), .alloc false [(.int .i64 0), (.int .i64 0), (.is [] .nil)], none, 0, 0⟩,
  ⟨none, .store 3 (.t 5) (.t 9), none, 1, 3⟩]
def f72r2 : List AOper := [
  ⟨(some 10), .fieldAddr 4 (.t 3), none, 0, 0⟩,
  ⟨(some 11), .load false 1 (.t 10), none, 0, 1⟩,
  ⟨(some 12), .len 1 (.t 11), none, 0, 3⟩,
  ⟨(some 13), .move (.c (.int .i64 0)), none, 0, 0⟩]
def f72r3 : List AOper := [
  ⟨(some 14), .bin .lss (.t 13) (.t 12), none, 0, 0⟩]
def f72r4 : List AOper := [
  ⟨(some 15), .move (.t 13), none, 0, 0⟩,
  ⟨(some 16), .idxAddr 3 (.t 11) (.t 13), none, 0, 0⟩,
  ⟨(some 17), .load true 3 (.t 16), none, 0, 2⟩,
  ⟨(some 7), .alloc false [(.str []), (.int .i64 0), (.int .i64 0)], none, 0, 0⟩,
  ⟨(some 6), .move (.t 15), none, 1, 15⟩,
  ⟨none, .store 3 (.t 7) (.t 17), none, 1, 31⟩]
def f72r5 : List AOper := [
  ⟨(some 18), .move (.t 0), none, 0, 0⟩,
  ⟨(some 19), .fieldAddr 1 (.t 7), none, 0, 0⟩,
  ⟨(some 20), .load false 1 (.t 19), none, 0, 2⟩,
  ⟨(some 21), .call (.c (.fn 69 [] [])) [(.t 18), (.t 20)], none, 0, 7⟩,
  ⟨(some 8), .alloc false [(.int .i64 0), (.int .i64 0), (.is [] .nil)], none, 0, 0⟩,
  ⟨none, .store 3 (.t 8) (.t 21), none, 1, 31⟩]
def f72r6 : List AOper := [
  ⟨(some 23), .fieldAddr 2 (.t 7), none, 0, 0⟩,
  ⟨(some 24), .load false 1 (.t 23), none, 0, 1⟩,
  ⟨(some 25), .bin .lss (.t 24) (.c (.int .i64 0)), none, 0, 3⟩,
  ⟨(some 22), .move (.t 25), none, 0, 7⟩]
def f72r7 : List AOper := [
  ⟨(some 26), .fieldAddr 2 (.t 5), none, 0, 0⟩,
  ⟨(some 27), .load false 1 (.t 26), none, 0, 1⟩,
  ⟨(some 28), .move (.t 6), none, 0, 0⟩,
  ⟨(some 29), .fieldAddr 1 (.t 7), none, 0, 0⟩,
  ⟨(some 30), .load false 1 (.t 29), none, 0, 8⟩,
  ⟨(some 31), .build (List.replicate 5 (.int .i64 0)) [(0, 1, (.t 28)), (1, 1, (.t 30))], none, 0, 28⟩,
  ⟨(some 32), .buildSlice true 5 1 (List.replicate 5 (.int .i64 0)) [(0, 5, (.t 31))], none, 0, 60⟩,
  ⟨(some 33), .append true 5 40 (.t 27) (.t 32), none, 0, 127⟩,
  ⟨(some 34), .fieldAddr 2 (.t 5), none, 1, 255⟩,
  ⟨none, .store 1 (.t 34) (.t 33), none, 1, 511⟩]
def f72r8 : List AOper := [
  ⟨(some 35), .fieldAddr 0 (.t 5), none, 0, 0⟩,
  ⟨(some 36), .load false 1 (.t 35), none, 0, 1⟩,
  ⟨(some 37), .fieldAddr 0 (.t 8), none, 0, 0⟩,
  ⟨(some 38), .load false 1 (.t 37), none, 0, 4⟩,
  ⟨(some 39), .max (.t 36) (.t 38), none, 0, 15⟩,
  ⟨(some 40), .fieldAddr 1 (.t 5), none, 0, 0⟩,
  ⟨(some 41), .load false 1 (.t 40), none, 0, 32⟩,
  ⟨(some 42), .fieldAddr 1 (.t 8), none, 0, 0⟩,
  ⟨(some 43), .load false 1 (.t 42), none, 0, 128⟩,
  ⟨(some 44), .max (.t 41) (.t 43), none, 0, 480⟩,
  ⟨(some 45), .fieldAddr 0 (.t 5), none, 0, 127⟩,
  ⟨none, .store 1 (.t 45) (.t 39), none, 0, 1151⟩,
  ⟨(some 46), .fieldAddr 1 (.t 5), none, 0, 4095⟩,
  ⟨none, .store 1 (.t 46) (.t 44), none, 0, 8191⟩]
def f72r9 : List AOper := [
  ⟨(some 48), .fieldAddr 2 (.t 7), none, 0, 0⟩,
  ⟨(some 49), .load false 1 (.t 48), none, 0, 1⟩,
  ⟨(some 50), .bin .gtr (.t 49) (.c (.int .i64 0)), none, 0, 3⟩,
  ⟨(some 47), .move (.t 50), none, 0, 7⟩]
def f72r10 : List AOper := [
  ⟨(some 51), .fieldAddr 2 (.t 5), none, 0, 0⟩,
  ⟨(some 52), .load false 1 (.t 51), none, 0, 1⟩,
  ⟨(some 53), .move (.t 6), none, 0, 0⟩,
  ⟨(some 54), .fieldAddr 1 (.t 7), none, 0, 0⟩,
  ⟨(some 55), .load false 1 (.t 54), none, 0, 8⟩,
  ⟨(some 56), .fieldAddr 2 (.t 7), none, 0, 0⟩,
  ⟨(some 57), .load false 1 (.t 56), none, 0, 32⟩,
  ⟨(some 58), .build (List.replicate 5 (.int .i64 0)) [(0, 1, (.t 53)), (1, 1, (.t 55)), (4, 1, (.t 57))], none, 0, 124⟩,
  ⟨(some 59), .buildSlice true 5 1 (List.replicate 5 (.int .i64 0)) [(0, 5, (.t 58))], none, 0, 252⟩,
  ⟨(some 60), .append true 5 40 (.t 52) (.t 59), none, 0, 511⟩,
  ⟨(some 61), .fieldAddr 2 (.t 5), none, 1, 1023⟩,
  ⟨none, .store 1 (.t 61) (.t 60), none, 1, 2047⟩]
def f72q11 : List AOper := [
  ⟨(some 62), .fieldAddr 0 (.t 5), none, 0, 0⟩,
  ⟨(some 63), .load false 1 (.t 62), none, 0, 1⟩,
  ⟨(some 64), .fieldAddr 2 (.t 7), none, 0, 0⟩,
  ⟨(some 65), .load false 1 (.t 64), none, 0, 4⟩,
  ⟨(some 66), .call (.c (.fn 74 [] [])) [(.t 65), (.c (.int .i64 8))], none, 0, 12⟩,
  ⟨(some 67), .bin .quo (.t 66) (.c (.int .i64 8)), none, 0, 28⟩,
  ⟨(some 68), .max (.t 63) (.t 67), none, 0, 63⟩,
  ⟨(some 69), .fieldAddr 0 (.t 5), none, 0, 127⟩,
  ⟨none, .store 1 (.t 69) (.t 68), none, 0, 255⟩]
def f72r11 : List AOper := f72q11
def f72r12 : List AOper := [
  ⟨(some 70), .fieldAddr 2 (.t 7), none, 0, 0⟩,
  ⟨(some 71), .load false 1 (.t 70), none, 0, 1⟩,
  ⟨(some 72), .bin .gtr (.t 71) (.c (.int .i64 0)), none, 0, 3⟩,
  ⟨(some 73), .move (.t 72), none, 0, 7⟩,
  ⟨(some 74), .fieldAddr 0 (.t 7), (some (73, true)), 0, 15⟩,
  ⟨(some 75), .load false 1 (.t 74), (some (73, true)), 0, 31⟩,
  ⟨(some 76), .bin .neq (.t 75) (.c (.str [])), (some (73, true)), 0, 63⟩,
  ⟨(some 77), .pick (.t 73) (.t 76) (.c (.bool false)), none, 0, 127⟩]
def f72r13 : List AOper := [
  ⟨(some 78), .fieldAddr 1 (.t 5), none, 0, 0⟩,
  ⟨(some 79), .load false 1 (.t 78), none, 0, 1⟩,
  ⟨(some 80), .fieldAddr 0 (.t 8), none, 0, 0⟩,
  ⟨(some 81), .load false 1 (.t 80), none, 0, 4⟩,
  ⟨(some 82), .max (.t 79) (.t 81), none, 0, 15⟩,
  ⟨(some 83), .fieldAddr 1 (.t 5), none, 0, 31⟩,
  ⟨none, .store 1 (.t 83) (.t 82), none, 0, 63⟩]
def f72r14 : List AOper := [
  ⟨(some 84), .bin .add (.t 13) (.c (.int .i64 1)), none, 0, 0⟩,
  ⟨(some 13), .move (.t 84), none, 0, 1⟩]
def f72l3 : ACode :=
  .seq (.region false f72r3 [0, 4, 5, 11, 12, 13, 14] 0)
  (.seq (.cond (.t 14)
    (.skip)
    (.exit 0))
  (.seq (.block 1 (.seq (.region false f72r4 [0, 4, 5, 6, 7, 11, 12, 13] 1)
    (.seq (.region false f72r5 [0, 4, 5, 6, 7, 8, 11, 12, 13] 1)
    (.seq (.block 2 (.seq (.region false f72r6 [0, 4, 5, 6, 7, 8, 11, 12, 13, 22] 0)
      (.cond (.t 22)
        (.seq (.region false f72r7 [0, 4, 5, 7, 8, 11, 12, 13] 1)
        (.region true f72r8 [0, 4, 5, 7, 8, 11, 12, 13] 0))
        (.seq (.region false f72r9 [0, 4, 5, 6, 7, 8, 11, 12, 13, 47] 0)
        (.cond (.t 47)
          (.seq (.region false f72r10 [0, 4, 5, 7, 8, 11, 12, 13] 1)
          (.region true f72r11 [0, 4, 5, 7, 8, 11, 12, 13] 0))
          (.skip))))))
    (.seq (.region false f72r12 [0, 4, 5, 8, 11, 12, 13, 77] 0)
    (.cond (.t 77)
      (.region false f72r13 [0, 4, 5, 11, 12, 13] 0)
      (.skip)))))))
  (.region false f72r14 [0, 4, 5, 11, 12, 13] 0)))
def f72r15 : List AOper := [
  ⟨(some 85), .fieldAddr 0 (.t 5), none, 0, 0⟩,
  ⟨(some 86), .load false 1 (.t 85), none, 0, 1⟩,
  ⟨(some 87), .fieldAddr 1 (.t 5), none, 0, 0⟩,
  ⟨(some 88), .load false 1 (.t 87), none, 0, 4⟩,
  ⟨(some 89), .call (.c (.fn 74 [] [])) [(.t 86), (.t 88)], none, 0, 15⟩,
  ⟨(some 90), .fieldAddr 0 (.t 5), none, 0, 31⟩,
  ⟨none, .store 1 (.t 90) (.t 89), none, 0, 63⟩]
def f72r16 : List AOper := [
  ⟨(some 91), .load true 3 (.t 5), none, 0, 0⟩,
  ⟨none, .store 3 (.t 4) (.t 91), none, 0, 1⟩]
theorem f72r11_s : staticOK 0 f72r11 = true := by rfl
theorem f72r11_w {A : Tab} {nt : Nat} {keep : List Nat} {n : Nat} {e : Env} {h : Heap} (hr : (bkeep keep (stepsF nt (stepF A true) h.length f72r11 e (h ++ List.replicate n .free))).isSome = true) : Brun A nt (.region true f72r11 keep n) e h = bkeep keep (stepsF nt (stepF A true) h.length f72r11 e (h ++ List.replicate n .free)) := Brun_drawnS f72r11_s hr
theorem f72r11_u (nt base : Nat) (step : Nat → AOp → Env → Heap → Option (AV × Heap)) (e : Env) (h : Heap) : stepsF nt step base f72r11 e h = stepsF nt step base f72q11 e h := rfl
def f72c : ACode :=
  .seq (.region false f72r0 [0, 3, 4] 1)
  (.seq (.region false f72r1 [0, 3, 4, 5] 1)
  (.seq (.seq (.region false f72r2 [0, 4, 5, 11, 12, 13] 0)
  (.block 0 (.loop f72l3)))
  (.seq (.region false f72r15 [4, 5] 0)
  (.seq (.region false f72r16 [4] 0)
  (.ret)))))
def f72 : AFn := ⟨2, 92, [.cell 4 true 3], f72c, 1⟩
def f72k : List (Nat × List Nat) := [(0, [0, 3, 4]), (1, [0, 3, 4, 5]), (2, [0, 4, 5, 11, 12, 13]), (3, [0, 4, 5, 11, 12, 13, 14]), (4, [0, 4, 5, 6, 7, 11, 12, 13]), (5, [0, 4, 5, 6, 7, 8, 11, 12, 13]), (6, [0, 4, 5, 6, 7, 8, 11, 12, 13, 22]), (9, [0, 4, 5, 6, 7, 8, 11, 12, 13, 47]), (10, [0, 4, 5, 7, 8, 11, 12, 13]), (11, [0, 4, 5, 7, 8, 11, 12, 13]), (7, [0, 4, 5, 7, 8, 11, 12, 13]), (8, [0, 4, 5, 7, 8, 11, 12, 13]), (12, [0, 4, 5, 8, 11, 12, 13, 77]), (13, [0, 4, 5, 11, 12, 13]), (14, [0, 4, 5, 11, 12, 13]), (15, [4, 5]), (16, [4])]
def f72v : List Nat := [3, 60, 59, 33, 32]

/-! 73: (*mortise/layout.looker).rows$1, parameters [116], results [] -/
def f73r0 : List AOper := [
  ⟨(some 2), .box true (.t 0), none, 0, 0⟩]
def f73r1 : List AOper := [
  ⟨(some 3), .fieldAddr 2 (.t 1), none, 0, 0⟩,
  ⟨(some 4), .load false 1 (.t 3), none, 0, 1⟩,
  ⟨(some 5), .load true 5 (.t 2), none, 0, 0⟩,
  ⟨(some 6), .buildSlice true 5 1 (List.replicate 5 (.int .i64 0)) [(0, 5, (.t 5))], none, 0, 4⟩,
  ⟨(some 7), .append true 5 40 (.t 4) (.t 6), none, 0, 15⟩,
  ⟨(some 8), .fieldAddr 2 (.t 1), none, 1, 31⟩,
  ⟨none, .store 1 (.t 8) (.t 7), none, 1, 63⟩]
def f73c : ACode :=
  .seq (.region false f73r0 [1, 2] 0)
  (.region false f73r1 [] 1)
def f73 : AFn := ⟨2, 9, [], f73c, 1⟩
def f73k : List (Nat × List Nat) := [(0, [1, 2]), (1, [])]
def f73v : List Nat := [2, 7, 6]

/-! 74: mortise/layout.up[int], parameters [3, 3], results [3] -/
def f74r0 : List AOper := [
  ⟨(some 4), .move (.c (.int .i64 0)), none, 0, 0⟩]
def f74r1 : List AOper := [
  ⟨(some 5), .move (.t 0), none, 0, 0⟩,
  ⟨(some 6), .move (.t 1), none, 0, 0⟩,
  ⟨(some 7), .bin .add (.t 5) (.t 6), none, 0, 3⟩,
  ⟨(some 8), .bin .sub (.t 7) (.c (.int .i64 1)), none, 0, 7⟩,
  ⟨(some 9), .move (.t 1), none, 0, 0⟩,
  ⟨(some 10), .bin .quo (.t 8) (.t 9), none, 0, 31⟩,
  ⟨(some 11), .move (.t 1), none, 0, 0⟩,
  ⟨(some 12), .bin .mul (.t 10) (.t 11), none, 0, 127⟩,
  ⟨(some 4), .move (.t 12), none, 0, 255⟩]
def f74c : ACode :=
  .seq (.region false f74r0 [0, 1] 0)
  (.seq (.region false f74r1 [4] 0)
  (.ret))
def f74 : AFn := ⟨2, 13, [.tmp 4], f74c, 1⟩
def f74k : List (Nat × List Nat) := [(0, [0, 1]), (1, [4])]
def f74v : List Nat := []

def f3s : List Sh := [(.int .i64), (.int .i64), (.int .u32), (.int .u32)]
def f4s : List Sh := [(.int .i64), (.int .i64), (.int .i64), (.int .i64), (.int .u32), (.int .u32)]
def f5s : List Sh := [.str, (.int .i64), (.int .i64)]
def tab : Tab := fun g => match g with
  | 3 => some f3
  | 4 => some f4
  | 5 => some f5
  | 6 => some f6
  | 7 => some f7
  | 8 => some f8
  | 9 => some f9
  | 10 => some f10
  | 11 => some f11
  | 12 => some f12
  | 13 => some f13
  | 14 => some f14
  | 15 => some f15
  | 16 => some f16
  | 17 => some f17
  | 18 => some f18
  | 19 => some f19
  | 20 => some f20
  | 21 => some f21
  | 22 => some f22
  | 23 => some f23
  | 24 => some f24
  | 25 => some f25
  | 26 => some f26
  | 27 => some f27
  | 28 => some f28
  | 29 => some f29
  | 30 => some f30
  | 31 => some f31
  | 32 => some f32
  | 33 => some f33
  | 34 => some f34
  | 35 => some f35
  | 36 => some f36
  | 37 => some f37
  | 38 => some f38
  | 39 => some f39
  | 40 => some f40
  | 41 => some f41
  | 42 => some f42
  | 43 => some f43
  | 44 => some f44
  | 45 => some f45
  | 46 => some f46
  | 47 => some f47
  | 48 => some f48
  | 49 => some f49
  | 50 => some f50
  | 51 => some f51
  | 52 => some f52
  | 53 => some f53
  | 54 => some f54
  | 55 => some f55
  | 56 => some f56
  | 57 => some f57
  | 58 => some f58
  | 59 => some f59
  | 60 => some f60
  | 61 => some f61
  | 62 => some f62
  | 63 => some f63
  | 64 => some f64
  | 65 => some f65
  | 66 => some f66
  | 67 => some f67
  | 68 => some f68
  | 69 => some f69
  | 70 => some f70
  | 71 => some f71
  | 72 => some f72
  | 73 => some f73
  | 74 => some f74
  | _ => none

theorem f3_p (args : List AV) : isPure tab 3 args = imm.immL args := rfl
theorem f4_p (args : List AV) : isPure tab 4 args = imm.immL args := rfl
theorem f5_p (args : List AV) : isPure tab 5 args = imm.immL args := rfl
theorem f6_p (args : List AV) : isPure tab 6 args = imm.immL args := rfl
theorem f7_p (args : List AV) : isPure tab 7 args = imm.immL args := rfl
theorem f8_p (args : List AV) : isPure tab 8 args = imm.immL args := rfl
theorem f9_p (args : List AV) : isPure tab 9 args = imm.immL args := rfl
theorem f10_p (args : List AV) : isPure tab 10 args = imm.immL args := rfl
theorem f11_p (args : List AV) : isPure tab 11 args = imm.immL args := rfl
theorem f12_p (args : List AV) : isPure tab 12 args = imm.immL args := rfl
theorem f13_p (args : List AV) : isPure tab 13 args = imm.immL args := rfl
theorem f14_p (args : List AV) : isPure tab 14 args = imm.immL args := rfl
theorem f15_p (args : List AV) : isPure tab 15 args = imm.immL args := rfl
theorem f16_p (args : List AV) : isPure tab 16 args = imm.immL args := rfl
theorem f17_p (args : List AV) : isPure tab 17 args = imm.immL args := rfl
theorem f18_p (args : List AV) : isPure tab 18 args = imm.immL args := rfl
theorem f19_p (args : List AV) : isPure tab 19 args = imm.immL args := rfl
theorem f21_p (args : List AV) : isPure tab 21 args = imm.immL args := rfl
theorem f22_p (args : List AV) : isPure tab 22 args = imm.immL args := rfl
theorem f23_p (args : List AV) : isPure tab 23 args = imm.immL args := rfl
theorem f24_p (args : List AV) : isPure tab 24 args = imm.immL args := rfl
theorem f25_p (args : List AV) : isPure tab 25 args = imm.immL args := rfl
theorem f26_p (args : List AV) : isPure tab 26 args = imm.immL args := rfl
theorem f27_p (args : List AV) : isPure tab 27 args = imm.immL args := rfl
theorem f28_p (args : List AV) : isPure tab 28 args = imm.immL args := rfl
theorem f29_p (args : List AV) : isPure tab 29 args = imm.immL args := rfl
theorem f30_p (args : List AV) : isPure tab 30 args = imm.immL args := rfl
theorem f31_p (args : List AV) : isPure tab 31 args = imm.immL args := rfl
theorem f32_p (args : List AV) : isPure tab 32 args = imm.immL args := rfl
theorem f33_p (args : List AV) : isPure tab 33 args = imm.immL args := rfl
theorem f34_p (args : List AV) : isPure tab 34 args = imm.immL args := rfl
theorem f35_p (args : List AV) : isPure tab 35 args = imm.immL args := rfl
theorem f36_p (args : List AV) : isPure tab 36 args = imm.immL args := rfl
theorem f37_p (args : List AV) : isPure tab 37 args = imm.immL args := rfl
theorem f38_p (args : List AV) : isPure tab 38 args = imm.immL args := rfl
theorem f39_p (args : List AV) : isPure tab 39 args = imm.immL args := rfl
theorem f40_p (args : List AV) : isPure tab 40 args = imm.immL args := rfl
theorem f41_p (args : List AV) : isPure tab 41 args = imm.immL args := rfl
theorem f42_p (args : List AV) : isPure tab 42 args = imm.immL args := rfl
theorem f43_p (args : List AV) : isPure tab 43 args = imm.immL args := rfl
theorem f44_p (args : List AV) : isPure tab 44 args = imm.immL args := rfl
theorem f45_p (args : List AV) : isPure tab 45 args = imm.immL args := rfl
theorem f46_p (args : List AV) : isPure tab 46 args = imm.immL args := rfl
theorem f47_p (args : List AV) : isPure tab 47 args = imm.immL args := rfl
theorem f48_p (args : List AV) : isPure tab 48 args = imm.immL args := rfl
theorem f49_p (args : List AV) : isPure tab 49 args = imm.immL args := rfl
theorem f50_p (args : List AV) : isPure tab 50 args = imm.immL args := rfl
theorem f51_p (args : List AV) : isPure tab 51 args = imm.immL args := rfl
theorem f52_p (args : List AV) : isPure tab 52 args = imm.immL args := rfl
theorem f53_p (args : List AV) : isPure tab 53 args = imm.immL args := rfl
theorem f54_p (args : List AV) : isPure tab 54 args = imm.immL args := rfl
theorem f55_p (args : List AV) : isPure tab 55 args = imm.immL args := rfl
theorem f56_p (args : List AV) : isPure tab 56 args = imm.immL args := rfl
theorem f57_p (args : List AV) : isPure tab 57 args = imm.immL args := rfl
theorem f58_p (args : List AV) : isPure tab 58 args = imm.immL args := rfl
theorem f59_p (args : List AV) : isPure tab 59 args = imm.immL args := rfl
theorem f60_p (args : List AV) : isPure tab 60 args = imm.immL args := rfl
theorem f61_p (args : List AV) : isPure tab 61 args = imm.immL args := rfl
theorem f62_p (args : List AV) : isPure tab 62 args = imm.immL args := rfl
theorem f63_p (args : List AV) : isPure tab 63 args = imm.immL args := rfl
theorem f64_p (args : List AV) : isPure tab 64 args = imm.immL args := rfl
theorem f65_p (args : List AV) : isPure tab 65 args = imm.immL args := rfl
theorem f67_p (args : List AV) : isPure tab 67 args = imm.immL args := rfl
theorem f68_p (args : List AV) : isPure tab 68 args = imm.immL args := rfl
theorem f69_p (args : List AV) : isPure tab 69 args = imm.immL args := rfl
theorem f70_p (args : List AV) : isPure tab 70 args = imm.immL args := rfl
theorem f71_p (args : List AV) : isPure tab 71 args = imm.immL args := rfl
theorem f72_p (args : List AV) : isPure tab 72 args = imm.immL args := rfl
theorem f73_p (args : List AV) : isPure tab 73 args = imm.immL args := rfl
theorem f74_p (args : List AV) : isPure tab 74 args = imm.immL args := rfl
theorem f3_eq : ∃ fn, Try.prog.funcs[3]? = some fn ∧ compF Try.prog f3v f3k f3.mode fn = some f3 := ⟨Try.f3, Try.func3, by kernel_rfl⟩
theorem f4_eq : ∃ fn, Try.prog.funcs[4]? = some fn ∧ compF Try.prog f4v f4k f4.mode fn = some f4 := ⟨Try.f4, Try.func4, by kernel_rfl⟩
theorem f5_eq : ∃ fn, Try.prog.funcs[5]? = some fn ∧ compF Try.prog f5v f5k f5.mode fn = some f5 := ⟨Try.f5, Try.func5, by kernel_rfl⟩
theorem f6_eq : ∃ fn, Try.prog.funcs[6]? = some fn ∧ compF Try.prog f6v f6k f6.mode fn = some f6 := ⟨Try.f6, Try.func6, by kernel_rfl⟩
theorem f7_eq : ∃ fn, Try.prog.funcs[7]? = some fn ∧ compF Try.prog f7v f7k f7.mode fn = some f7 := ⟨Try.f7, Try.func7, by kernel_rfl⟩
theorem f8_eq : ∃ fn, Try.prog.funcs[8]? = some fn ∧ compF Try.prog f8v f8k f8.mode fn = some f8 := ⟨Try.f8, Try.func8, by kernel_rfl⟩
theorem f9_eq : ∃ fn, Try.prog.funcs[9]? = some fn ∧ compF Try.prog f9v f9k f9.mode fn = some f9 := ⟨Try.f9, Try.func9, by kernel_rfl⟩
theorem f10_eq : ∃ fn, Try.prog.funcs[10]? = some fn ∧ compF Try.prog f10v f10k f10.mode fn = some f10 := ⟨Try.f10, Try.func10, by kernel_rfl⟩
theorem f11_eq : ∃ fn, Try.prog.funcs[11]? = some fn ∧ compF Try.prog f11v f11k f11.mode fn = some f11 := ⟨Try.f11, Try.func11, by kernel_rfl⟩
theorem f12_eq : ∃ fn, Try.prog.funcs[12]? = some fn ∧ compF Try.prog f12v f12k f12.mode fn = some f12 := ⟨Try.f12, Try.func12, by kernel_rfl⟩
theorem f13_eq : ∃ fn, Try.prog.funcs[13]? = some fn ∧ compF Try.prog f13v f13k f13.mode fn = some f13 := ⟨Try.f13, Try.func13, by kernel_rfl⟩
theorem f14_eq : ∃ fn, Try.prog.funcs[14]? = some fn ∧ compF Try.prog f14v f14k f14.mode fn = some f14 := ⟨Try.f14, Try.func14, by kernel_rfl⟩
theorem f15_eq : ∃ fn, Try.prog.funcs[15]? = some fn ∧ compF Try.prog f15v f15k f15.mode fn = some f15 := ⟨Try.f15, Try.func15, by kernel_rfl⟩
theorem f16_eq : ∃ fn, Try.prog.funcs[16]? = some fn ∧ compF Try.prog f16v f16k f16.mode fn = some f16 := ⟨Try.f16, Try.func16, by kernel_rfl⟩
theorem f17_eq : ∃ fn, Try.prog.funcs[17]? = some fn ∧ compF Try.prog f17v f17k f17.mode fn = some f17 := ⟨Try.f17, Try.func17, by kernel_rfl⟩
theorem f18_eq : ∃ fn, Try.prog.funcs[18]? = some fn ∧ compF Try.prog f18v f18k f18.mode fn = some f18 := ⟨Try.f18, Try.func18, by kernel_rfl⟩
theorem f19_eq : ∃ fn, Try.prog.funcs[19]? = some fn ∧ compF Try.prog f19v f19k f19.mode fn = some f19 := ⟨Try.f19, Try.func19, by kernel_rfl⟩
theorem f20_eq : ∃ fn, Try.prog.funcs[20]? = some fn ∧ compF Try.prog f20v f20k f20.mode fn = some f20 := ⟨Try.f20, Try.func20, by kernel_rfl⟩
theorem f21_eq : ∃ fn, Try.prog.funcs[21]? = some fn ∧ compF Try.prog f21v f21k f21.mode fn = some f21 := ⟨Try.f21, Try.func21, by kernel_rfl⟩
theorem f22_eq : ∃ fn, Try.prog.funcs[22]? = some fn ∧ compF Try.prog f22v f22k f22.mode fn = some f22 := ⟨Try.f22, Try.func22, by kernel_rfl⟩
theorem f23_eq : ∃ fn, Try.prog.funcs[23]? = some fn ∧ compF Try.prog f23v f23k f23.mode fn = some f23 := ⟨Try.f23, Try.func23, by kernel_rfl⟩
theorem f24_eq : ∃ fn, Try.prog.funcs[24]? = some fn ∧ compF Try.prog f24v f24k f24.mode fn = some f24 := ⟨Try.f24, Try.func24, by kernel_rfl⟩
theorem f25_eq : ∃ fn, Try.prog.funcs[25]? = some fn ∧ compF Try.prog f25v f25k f25.mode fn = some f25 := ⟨Try.f25, Try.func25, by kernel_rfl⟩
theorem f26_eq : ∃ fn, Try.prog.funcs[26]? = some fn ∧ compF Try.prog f26v f26k f26.mode fn = some f26 := ⟨Try.f26, Try.func26, by kernel_rfl⟩
theorem f27_eq : ∃ fn, Try.prog.funcs[27]? = some fn ∧ compF Try.prog f27v f27k f27.mode fn = some f27 := ⟨Try.f27, Try.func27, by kernel_rfl⟩
theorem f28_eq : ∃ fn, Try.prog.funcs[28]? = some fn ∧ compF Try.prog f28v f28k f28.mode fn = some f28 := ⟨Try.f28, Try.func28, by kernel_rfl⟩
theorem f29_eq : ∃ fn, Try.prog.funcs[29]? = some fn ∧ compF Try.prog f29v f29k f29.mode fn = some f29 := ⟨Try.f29, Try.func29, by kernel_rfl⟩
theorem f30_eq : ∃ fn, Try.prog.funcs[30]? = some fn ∧ compF Try.prog f30v f30k f30.mode fn = some f30 := ⟨Try.f30, Try.func30, by kernel_rfl⟩
theorem f31_eq : ∃ fn, Try.prog.funcs[31]? = some fn ∧ compF Try.prog f31v f31k f31.mode fn = some f31 := ⟨Try.f31, Try.func31, by kernel_rfl⟩
theorem f32_eq : ∃ fn, Try.prog.funcs[32]? = some fn ∧ compF Try.prog f32v f32k f32.mode fn = some f32 := ⟨Try.f32, Try.func32, by kernel_rfl⟩
theorem f33_eq : ∃ fn, Try.prog.funcs[33]? = some fn ∧ compF Try.prog f33v f33k f33.mode fn = some f33 := ⟨Try.f33, Try.func33, by kernel_rfl⟩
theorem f34_eq : ∃ fn, Try.prog.funcs[34]? = some fn ∧ compF Try.prog f34v f34k f34.mode fn = some f34 := ⟨Try.f34, Try.func34, by kernel_rfl⟩
theorem f35_eq : ∃ fn, Try.prog.funcs[35]? = some fn ∧ compF Try.prog f35v f35k f35.mode fn = some f35 := ⟨Try.f35, Try.func35, by kernel_rfl⟩
theorem f36_eq : ∃ fn, Try.prog.funcs[36]? = some fn ∧ compF Try.prog f36v f36k f36.mode fn = some f36 := ⟨Try.f36, Try.func36, by kernel_rfl⟩
theorem f37_eq : ∃ fn, Try.prog.funcs[37]? = some fn ∧ compF Try.prog f37v f37k f37.mode fn = some f37 := ⟨Try.f37, Try.func37, by kernel_rfl⟩
theorem f38_eq : ∃ fn, Try.prog.funcs[38]? = some fn ∧ compF Try.prog f38v f38k f38.mode fn = some f38 := ⟨Try.f38, Try.func38, by kernel_rfl⟩
theorem f39_eq : ∃ fn, Try.prog.funcs[39]? = some fn ∧ compF Try.prog f39v f39k f39.mode fn = some f39 := ⟨Try.f39, Try.func39, by kernel_rfl⟩
theorem f40_eq : ∃ fn, Try.prog.funcs[40]? = some fn ∧ compF Try.prog f40v f40k f40.mode fn = some f40 := ⟨Try.f40, Try.func40, by kernel_rfl⟩
theorem f41_eq : ∃ fn, Try.prog.funcs[41]? = some fn ∧ compF Try.prog f41v f41k f41.mode fn = some f41 := ⟨Try.f41, Try.func41, by kernel_rfl⟩
theorem f42_eq : ∃ fn, Try.prog.funcs[42]? = some fn ∧ compF Try.prog f42v f42k f42.mode fn = some f42 := ⟨Try.f42, Try.func42, by kernel_rfl⟩
theorem f43_eq : ∃ fn, Try.prog.funcs[43]? = some fn ∧ compF Try.prog f43v f43k f43.mode fn = some f43 := ⟨Try.f43, Try.func43, by kernel_rfl⟩
theorem f44_eq : ∃ fn, Try.prog.funcs[44]? = some fn ∧ compF Try.prog f44v f44k f44.mode fn = some f44 := ⟨Try.f44, Try.func44, by kernel_rfl⟩
theorem f45_eq : ∃ fn, Try.prog.funcs[45]? = some fn ∧ compF Try.prog f45v f45k f45.mode fn = some f45 := ⟨Try.f45, Try.func45, by kernel_rfl⟩
theorem f46_eq : ∃ fn, Try.prog.funcs[46]? = some fn ∧ compF Try.prog f46v f46k f46.mode fn = some f46 := ⟨Try.f46, Try.func46, by kernel_rfl⟩
theorem f47_eq : ∃ fn, Try.prog.funcs[47]? = some fn ∧ compF Try.prog f47v f47k f47.mode fn = some f47 := ⟨Try.f47, Try.func47, by kernel_rfl⟩
theorem f48_eq : ∃ fn, Try.prog.funcs[48]? = some fn ∧ compF Try.prog f48v f48k f48.mode fn = some f48 := ⟨Try.f48, Try.func48, by kernel_rfl⟩
theorem f49_eq : ∃ fn, Try.prog.funcs[49]? = some fn ∧ compF Try.prog f49v f49k f49.mode fn = some f49 := ⟨Try.f49, Try.func49, by kernel_rfl⟩
theorem f50_eq : ∃ fn, Try.prog.funcs[50]? = some fn ∧ compF Try.prog f50v f50k f50.mode fn = some f50 := ⟨Try.f50, Try.func50, by kernel_rfl⟩
theorem f51_eq : ∃ fn, Try.prog.funcs[51]? = some fn ∧ compF Try.prog f51v f51k f51.mode fn = some f51 := ⟨Try.f51, Try.func51, by kernel_rfl⟩
theorem f52_eq : ∃ fn, Try.prog.funcs[52]? = some fn ∧ compF Try.prog f52v f52k f52.mode fn = some f52 := ⟨Try.f52, Try.func52, by kernel_rfl⟩
theorem f53_eq : ∃ fn, Try.prog.funcs[53]? = some fn ∧ compF Try.prog f53v f53k f53.mode fn = some f53 := ⟨Try.f53, Try.func53, by kernel_rfl⟩
theorem f54_eq : ∃ fn, Try.prog.funcs[54]? = some fn ∧ compF Try.prog f54v f54k f54.mode fn = some f54 := ⟨Try.f54, Try.func54, by kernel_rfl⟩
theorem f55_eq : ∃ fn, Try.prog.funcs[55]? = some fn ∧ compF Try.prog f55v f55k f55.mode fn = some f55 := ⟨Try.f55, Try.func55, by kernel_rfl⟩
theorem f56_eq : ∃ fn, Try.prog.funcs[56]? = some fn ∧ compF Try.prog f56v f56k f56.mode fn = some f56 := ⟨Try.f56, Try.func56, by kernel_rfl⟩
theorem f57_eq : ∃ fn, Try.prog.funcs[57]? = some fn ∧ compF Try.prog f57v f57k f57.mode fn = some f57 := ⟨Try.f57, Try.func57, by kernel_rfl⟩
theorem f58_eq : ∃ fn, Try.prog.funcs[58]? = some fn ∧ compF Try.prog f58v f58k f58.mode fn = some f58 := ⟨Try.f58, Try.func58, by kernel_rfl⟩
theorem f59_eq : ∃ fn, Try.prog.funcs[59]? = some fn ∧ compF Try.prog f59v f59k f59.mode fn = some f59 := ⟨Try.f59, Try.func59, by kernel_rfl⟩
theorem f60_eq : ∃ fn, Try.prog.funcs[60]? = some fn ∧ compF Try.prog f60v f60k f60.mode fn = some f60 := ⟨Try.f60, Try.func60, by kernel_rfl⟩
theorem f61_eq : ∃ fn, Try.prog.funcs[61]? = some fn ∧ compF Try.prog f61v f61k f61.mode fn = some f61 := ⟨Try.f61, Try.func61, by kernel_rfl⟩
theorem f62_eq : ∃ fn, Try.prog.funcs[62]? = some fn ∧ compF Try.prog f62v f62k f62.mode fn = some f62 := ⟨Try.f62, Try.func62, by kernel_rfl⟩
theorem f63_eq : ∃ fn, Try.prog.funcs[63]? = some fn ∧ compF Try.prog f63v f63k f63.mode fn = some f63 := ⟨Try.f63, Try.func63, by kernel_rfl⟩
theorem f64_eq : ∃ fn, Try.prog.funcs[64]? = some fn ∧ compF Try.prog f64v f64k f64.mode fn = some f64 := ⟨Try.f64, Try.func64, by kernel_rfl⟩
theorem f65_eq : ∃ fn, Try.prog.funcs[65]? = some fn ∧ compF Try.prog f65v f65k f65.mode fn = some f65 := ⟨Try.f65, Try.func65, by kernel_rfl⟩
theorem f66_eq : ∃ fn, Try.prog.funcs[66]? = some fn ∧ compF Try.prog f66v f66k f66.mode fn = some f66 := ⟨Try.f66, Try.func66, by kernel_rfl⟩
theorem f67_eq : ∃ fn, Try.prog.funcs[67]? = some fn ∧ compF Try.prog f67v f67k f67.mode fn = some f67 := ⟨Try.f67, Try.func67, by kernel_rfl⟩
theorem f68_eq : ∃ fn, Try.prog.funcs[68]? = some fn ∧ compF Try.prog f68v f68k f68.mode fn = some f68 := ⟨Try.f68, Try.func68, by kernel_rfl⟩
theorem f69_eq : ∃ fn, Try.prog.funcs[69]? = some fn ∧ compF Try.prog f69v f69k f69.mode fn = some f69 := ⟨Try.f69, Try.func69, by kernel_rfl⟩
theorem f70_eq : ∃ fn, Try.prog.funcs[70]? = some fn ∧ compF Try.prog f70v f70k f70.mode fn = some f70 := ⟨Try.f70, Try.func70, by kernel_rfl⟩
theorem f71_eq : ∃ fn, Try.prog.funcs[71]? = some fn ∧ compF Try.prog f71v f71k f71.mode fn = some f71 := ⟨Try.f71, Try.func71, by kernel_rfl⟩
theorem f72_eq : ∃ fn, Try.prog.funcs[72]? = some fn ∧ compF Try.prog f72v f72k f72.mode fn = some f72 := ⟨Try.f72, Try.func72, by kernel_rfl⟩
theorem f73_eq : ∃ fn, Try.prog.funcs[73]? = some fn ∧ compF Try.prog f73v f73k f73.mode fn = some f73 := ⟨Try.f73, Try.func73, by kernel_rfl⟩
theorem f74_eq : ∃ fn, Try.prog.funcs[74]? = some fn ∧ compF Try.prog f74v f74k f74.mode fn = some f74 := ⟨Try.f74, Try.func74, by kernel_rfl⟩

theorem tab_ok : TabOK Try.prog tab := by
  intro g f h
  unfold tab at h
  split at h
  · cases h; obtain ⟨fn, h1, h2⟩ := f3_eq; exact ⟨fn, _, _, h1, h2⟩
  · cases h; obtain ⟨fn, h1, h2⟩ := f4_eq; exact ⟨fn, _, _, h1, h2⟩
  · cases h; obtain ⟨fn, h1, h2⟩ := f5_eq; exact ⟨fn, _, _, h1, h2⟩
  · cases h; obtain ⟨fn, h1, h2⟩ := f6_eq; exact ⟨fn, _, _, h1, h2⟩
  · cases h; obtain ⟨fn, h1, h2⟩ := f7_eq; exact ⟨fn, _, _, h1, h2⟩
  · cases h; obtain ⟨fn, h1, h2⟩ := f8_eq; exact ⟨fn, _, _, h1, h2⟩
  · cases h; obtain ⟨fn, h1, h2⟩ := f9_eq; exact ⟨fn, _, _, h1, h2⟩
  · cases h; obtain ⟨fn, h1, h2⟩ := f10_eq; exact ⟨fn, _, _, h1, h2⟩
  · cases h; obtain ⟨fn, h1, h2⟩ := f11_eq; exact ⟨fn, _, _, h1, h2⟩
  · cases h; obtain ⟨fn, h1, h2⟩ := f12_eq; exact ⟨fn, _, _, h1, h2⟩
  · cases h; obtain ⟨fn, h1, h2⟩ := f13_eq; exact ⟨fn, _, _, h1, h2⟩
  · cases h; obtain ⟨fn, h1, h2⟩ := f14_eq; exact ⟨fn, _, _, h1, h2⟩
  · cases h; obtain ⟨fn, h1, h2⟩ := f15_eq; exact ⟨fn, _, _, h1, h2⟩
  · cases h; obtain ⟨fn, h1, h2⟩ := f16_eq; exact ⟨fn, _, _, h1, h2⟩
  · cases h; obtain ⟨fn, h1, h2⟩ := f17_eq; exact ⟨fn, _, _, h1, h2⟩
  · cases h; obtain ⟨fn, h1, h2⟩ := f18_eq; exact ⟨fn, _, _, h1, h2⟩
  · cases h; obtain ⟨fn, h1, h2⟩ := f19_eq; exact ⟨fn, _, _, h1, h2⟩
  · cases h; obtain ⟨fn, h1, h2⟩ := f20_eq; exact ⟨fn, _, _, h1, h2⟩
  · cases h; obtain ⟨fn, h1, h2⟩ := f21_eq; exact ⟨fn, _, _, h1, h2⟩
  · cases h; obtain ⟨fn, h1, h2⟩ := f22_eq; exact ⟨fn, _, _, h1, h2⟩
  · cases h; obtain ⟨fn, h1, h2⟩ := f23_eq; exact ⟨fn, _, _, h1, h2⟩
  · cases h; obtain ⟨fn, h1, h2⟩ := f24_eq; exact ⟨fn, _, _, h1, h2⟩
  · cases h; obtain ⟨fn, h1, h2⟩ := f25_eq; exact ⟨fn, _, _, h1, h2⟩
  · cases h; obtain ⟨fn, h1, h2⟩ := f26_eq; exact ⟨fn, _, _, h1, h2⟩
  · cases h; obtain ⟨fn, h1, h2⟩ := f27_eq; exact ⟨fn, _, _, h1, h2⟩
  · cases h; obtain ⟨fn, h1, h2⟩ := f28_eq; exact ⟨fn, _, _, h1, h2⟩
  · cases h; obtain ⟨fn, h1, h2⟩ := f29_eq; exact ⟨fn, _, _, h1, h2⟩
  · cases h; obtain ⟨fn, h1, h2⟩ := f30_eq; exact ⟨fn, _, _, h1, h2⟩
  · cases h; obtain ⟨fn, h1, h2⟩ := f31_eq; exact ⟨fn, _, _, h1, h2⟩
  · cases h; obtain ⟨fn, h1, h2⟩ := f32_eq; exact ⟨fn, _, _, h1, h2⟩
  · cases h; obtain ⟨fn, h1, h2⟩ := f33_eq; exact ⟨fn, _, _, h1, h2⟩
  · cases h; obtain ⟨fn, h1, h2⟩ := f34_eq; exact ⟨fn, _, _, h1, h2⟩
  · cases h; obtain ⟨fn, h1, h2⟩ := f35_eq; exact ⟨fn, _, _, h1, h2⟩
  · cases h; obtain ⟨fn, h1, h2⟩ := f36_eq; exact ⟨fn, _, _, h1, h2⟩
  · cases h; obtain ⟨fn, h1, h2⟩ := f37_eq; exact ⟨fn, _, _, h1, h2⟩
  · cases h; obtain ⟨fn, h1, h2⟩ := f38_eq; exact ⟨fn, _, _, h1, h2⟩
  · cases h; obtain ⟨fn, h1, h2⟩ := f39_eq; exact ⟨fn, _, _, h1, h2⟩
  · cases h; obtain ⟨fn, h1, h2⟩ := f40_eq; exact ⟨fn, _, _, h1, h2⟩
  · cases h; obtain ⟨fn, h1, h2⟩ := f41_eq; exact ⟨fn, _, _, h1, h2⟩
  · cases h; obtain ⟨fn, h1, h2⟩ := f42_eq; exact ⟨fn, _, _, h1, h2⟩
  · cases h; obtain ⟨fn, h1, h2⟩ := f43_eq; exact ⟨fn, _, _, h1, h2⟩
  · cases h; obtain ⟨fn, h1, h2⟩ := f44_eq; exact ⟨fn, _, _, h1, h2⟩
  · cases h; obtain ⟨fn, h1, h2⟩ := f45_eq; exact ⟨fn, _, _, h1, h2⟩
  · cases h; obtain ⟨fn, h1, h2⟩ := f46_eq; exact ⟨fn, _, _, h1, h2⟩
  · cases h; obtain ⟨fn, h1, h2⟩ := f47_eq; exact ⟨fn, _, _, h1, h2⟩
  · cases h; obtain ⟨fn, h1, h2⟩ := f48_eq; exact ⟨fn, _, _, h1, h2⟩
  · cases h; obtain ⟨fn, h1, h2⟩ := f49_eq; exact ⟨fn, _, _, h1, h2⟩
  · cases h; obtain ⟨fn, h1, h2⟩ := f50_eq; exact ⟨fn, _, _, h1, h2⟩
  · cases h; obtain ⟨fn, h1, h2⟩ := f51_eq; exact ⟨fn, _, _, h1, h2⟩
  · cases h; obtain ⟨fn, h1, h2⟩ := f52_eq; exact ⟨fn, _, _, h1, h2⟩
  · cases h; obtain ⟨fn, h1, h2⟩ := f53_eq; exact ⟨fn, _, _, h1, h2⟩
  · cases h; obtain ⟨fn, h1, h2⟩ := f54_eq; exact ⟨fn, _, _, h1, h2⟩
  · cases h; obtain ⟨fn, h1, h2⟩ := f55_eq; exact ⟨fn, _, _, h1, h2⟩
  · cases h; obtain ⟨fn, h1, h2⟩ := f56_eq; exact ⟨fn, _, _, h1, h2⟩
  · cases h; obtain ⟨fn, h1, h2⟩ := f57_eq; exact ⟨fn, _, _, h1, h2⟩
  · cases h; obtain ⟨fn, h1, h2⟩ := f58_eq; exact ⟨fn, _, _, h1, h2⟩
  · cases h; obtain ⟨fn, h1, h2⟩ := f59_eq; exact ⟨fn, _, _, h1, h2⟩
  · cases h; obtain ⟨fn, h1, h2⟩ := f60_eq; exact ⟨fn, _, _, h1, h2⟩
  · cases h; obtain ⟨fn, h1, h2⟩ := f61_eq; exact ⟨fn, _, _, h1, h2⟩
  · cases h; obtain ⟨fn, h1, h2⟩ := f62_eq; exact ⟨fn, _, _, h1, h2⟩
  · cases h; obtain ⟨fn, h1, h2⟩ := f63_eq; exact ⟨fn, _, _, h1, h2⟩
  · cases h; obtain ⟨fn, h1, h2⟩ := f64_eq; exact ⟨fn, _, _, h1, h2⟩
  · cases h; obtain ⟨fn, h1, h2⟩ := f65_eq; exact ⟨fn, _, _, h1, h2⟩
  · cases h; obtain ⟨fn, h1, h2⟩ := f66_eq; exact ⟨fn, _, _, h1, h2⟩
  · cases h; obtain ⟨fn, h1, h2⟩ := f67_eq; exact ⟨fn, _, _, h1, h2⟩
  · cases h; obtain ⟨fn, h1, h2⟩ := f68_eq; exact ⟨fn, _, _, h1, h2⟩
  · cases h; obtain ⟨fn, h1, h2⟩ := f69_eq; exact ⟨fn, _, _, h1, h2⟩
  · cases h; obtain ⟨fn, h1, h2⟩ := f70_eq; exact ⟨fn, _, _, h1, h2⟩
  · cases h; obtain ⟨fn, h1, h2⟩ := f71_eq; exact ⟨fn, _, _, h1, h2⟩
  · cases h; obtain ⟨fn, h1, h2⟩ := f72_eq; exact ⟨fn, _, _, h1, h2⟩
  · cases h; obtain ⟨fn, h1, h2⟩ := f73_eq; exact ⟨fn, _, _, h1, h2⟩
  · cases h; obtain ⟨fn, h1, h2⟩ := f74_eq; exact ⟨fn, _, _, h1, h2⟩
  · cases h
theorem follows : Try.prog.follows .mixedOrders = true := by kernel_rfl
end Go.Proofs.Ytkgpdillhnmpdaa
