/- The seat's functions as the machine's, part 0. Printed by a program. -/
import Derived.Test.YtmpdpjkblcdfkaaGreatDoorLib
namespace Go.Proofs.YtmpdpjkblcdfkaaGreatDoor
open Go.AM
set_option maxRecDepth 100000
/-! 3: mortise/mortiselaw02.TokenScans, parameters [9], results [4] -/
def f3r0 : List AOper := [
  ⟨(some 2), .move (.c (.bool false)), none, 0, 0⟩]
def f3r1 : List AOper := [
  ⟨(some 8), .move (.t 0), none, 0, 0⟩,
  ⟨(some 9), .call (.c (.fn 5 [] [])) [(.t 8)], none, 0, 1⟩,
  ⟨(some 7), .move (.t 9), none, 0, 3⟩,
  ⟨(some 10), .extract (.t 7) 0, none, 0, 7⟩,
  ⟨(some 11), .extract (.t 7) 1, none, 0, 7⟩,
  ⟨(some 4), .alloc false [(.int .i64 0), (.int .i64 0), (.int .i64 0), (.int .i64 0)], none, 0, 0⟩,
  ⟨(some 3), .move (.t 10), none, 1, 47⟩,
  ⟨none, .store 4 (.t 4) (.t 11), none, 1, 127⟩]
def f3r2 : List AOper := [
  ⟨(some 13), .move (.t 0), none, 0, 0⟩,
  ⟨(some 14), .call (.c (.fn 6 [] [])) [(.t 13)], none, 0, 1⟩,
  ⟨(some 12), .move (.t 14), none, 0, 3⟩,
  ⟨(some 15), .extract (.t 12) 0, none, 0, 7⟩,
  ⟨(some 16), .extract (.t 12) 1, none, 0, 7⟩,
  ⟨(some 6), .alloc false [(.int .i64 0), (.int .i64 0), (.int .i64 0), (.int .i64 0)], none, 0, 0⟩,
  ⟨(some 5), .move (.t 15), none, 1, 47⟩,
  ⟨none, .store 4 (.t 6) (.t 16), none, 1, 127⟩]
def f3r3 : List AOper := [
  ⟨(some 17), .load true 4 (.t 4), none, 0, 0⟩,
  ⟨(some 18), .load true 4 (.t 6), none, 0, 0⟩,
  ⟨(some 19), .eq false (.agg [.int .i64, .int .i64, .int .i64, .int .i64]) (.t 17) (.t 18), none, 0, 3⟩,
  ⟨(some 20), .move (.t 19), none, 0, 7⟩,
  ⟨(some 21), .move (.t 3), (some (20, true)), 0, 15⟩,
  ⟨(some 22), .move (.t 5), (some (20, true)), 0, 15⟩,
  ⟨(some 23), .call (.c (.fn 7 [] [])) [(.t 21), (.t 22)], (some (20, true)), 0, 63⟩,
  ⟨(some 24), .pick (.t 20) (.t 23) (.c (.bool false)), none, 0, 127⟩,
  ⟨(some 25), .move (.t 24), none, 0, 255⟩,
  ⟨(some 26), .call (.c (.fn 8 [] [])) [], (some (25, true)), 0, 511⟩,
  ⟨(some 27), .pick (.t 25) (.t 26) (.c (.bool false)), none, 0, 1023⟩,
  ⟨(some 2), .move (.t 27), none, 0, 2047⟩]
def f3c : ACode :=
  .seq (.region false f3r0 [0] 0)
  (.seq (.region false f3r1 [0, 3, 4] 1)
  (.seq (.region false f3r2 [3, 4, 5, 6] 1)
  (.seq (.region false f3r3 [2] 0)
  (.ret))))
def f3 : AFn := ⟨1, 28, [.tmp 2], f3c, 1, none⟩
def f3k : List (Nat × List Nat) := [(0, [0]), (1, [0, 3, 4]), (2, [3, 4, 5, 6]), (3, [2])]
def f3v : List Nat := []

/-! 4: mortise/mortiselaw02.TokenWrites, parameters [35, 22], results [4] -/
def f4r0 : List AOper := [
  ⟨(some 2), .box true (.t 0), none, 0, 0⟩,
  ⟨(some 4), .move (.c (.bool false)), none, 0, 0⟩]
def f4r1 : List AOper := [
  ⟨(some 15), .load true 6 (.t 2), none, 0, 0⟩,
  ⟨(some 16), .call (.c (.fn 9 [] [])) [(.t 15)], none, 0, 1⟩,
  ⟨(some 14), .move (.t 16), none, 0, 3⟩,
  ⟨(some 17), .extract (.t 14) 0, none, 0, 7⟩,
  ⟨(some 18), .extract (.t 14) 1, none, 0, 7⟩,
  ⟨(some 5), .move (.t 17), none, 0, 15⟩,
  ⟨(some 6), .move (.t 18), none, 0, 63⟩]
def f4r2 : List AOper := [
  ⟨(some 20), .load true 6 (.t 2), none, 0, 0⟩,
  ⟨(some 21), .call (.c (.fn 10 [] [])) [(.t 20)], none, 0, 1⟩,
  ⟨(some 19), .move (.t 21), none, 0, 3⟩,
  ⟨(some 22), .extract (.t 19) 0, none, 0, 7⟩,
  ⟨(some 23), .extract (.t 19) 1, none, 0, 7⟩,
  ⟨(some 7), .move (.t 22), none, 0, 15⟩,
  ⟨(some 8), .move (.t 23), none, 0, 63⟩]
def f4r3 : List AOper := [
  ⟨(some 24), .buildSlice true 6 0 [] [], none, 0, 0⟩,
  ⟨(some 25), .move (.t 1), none, 0, 0⟩,
  ⟨(some 26), .append true 6 56 (.t 24) (.t 25), none, 0, 3⟩,
  ⟨(some 9), .move (.t 26), none, 1, 7⟩]
def f4r4 : List AOper := [
  ⟨(some 28), .move (.t 9), none, 0, 0⟩,
  ⟨(some 29), .call (.c (.fn 11 [] [])) [(.t 28)], none, 0, 1⟩,
  ⟨(some 27), .move (.t 29), none, 0, 3⟩,
  ⟨(some 30), .extract (.t 27) 0, none, 0, 7⟩,
  ⟨(some 31), .extract (.t 27) 1, none, 0, 7⟩,
  ⟨(some 10), .move (.t 30), none, 0, 15⟩,
  ⟨(some 11), .move (.t 31), none, 0, 63⟩]
def f4r5 : List AOper := [
  ⟨(some 33), .move (.t 1), none, 0, 0⟩,
  ⟨(some 34), .call (.c (.fn 12 [] [])) [(.t 33)], none, 0, 1⟩,
  ⟨(some 32), .move (.t 34), none, 0, 3⟩,
  ⟨(some 35), .extract (.t 32) 0, none, 0, 7⟩,
  ⟨(some 36), .extract (.t 32) 1, none, 0, 7⟩,
  ⟨(some 12), .move (.t 35), none, 0, 15⟩,
  ⟨(some 13), .move (.t 36), none, 0, 63⟩]
def f4r6 : List AOper := [
  ⟨(some 37), .move (.t 5), none, 0, 0⟩,
  ⟨(some 38), .move (.t 7), none, 0, 0⟩,
  ⟨(some 39), .bin .eql (.t 37) (.t 38), none, 0, 3⟩,
  ⟨(some 40), .move (.t 39), none, 0, 7⟩,
  ⟨(some 41), .move (.t 6), (some (40, true)), 0, 15⟩,
  ⟨(some 42), .call (.c (.fn 13 [] [])) [(.t 41)], (some (40, true)), 0, 31⟩,
  ⟨(some 43), .move (.t 8), (some (40, true)), 0, 15⟩,
  ⟨(some 44), .bin .eql (.t 42) (.t 43), (some (40, true)), 0, 127⟩,
  ⟨(some 45), .pick (.t 40) (.t 44) (.c (.bool false)), none, 0, 255⟩,
  ⟨(some 46), .move (.t 45), none, 0, 511⟩,
  ⟨(some 47), .move (.t 10), (some (46, true)), 0, 1023⟩,
  ⟨(some 48), .move (.t 12), (some (46, true)), 0, 1023⟩,
  ⟨(some 49), .bin .eql (.t 47) (.t 48), (some (46, true)), 0, 4095⟩,
  ⟨(some 50), .pick (.t 46) (.t 49) (.c (.bool false)), none, 0, 8191⟩,
  ⟨(some 51), .move (.t 50), none, 0, 16383⟩,
  ⟨(some 52), .move (.t 11), (some (51, true)), 0, 32767⟩,
  ⟨(some 53), .call (.c (.fn 13 [] [])) [(.t 52)], (some (51, true)), 0, 65535⟩,
  ⟨(some 54), .move (.t 13), (some (51, true)), 0, 32767⟩,
  ⟨(some 55), .bin .eql (.t 53) (.t 54), (some (51, true)), 0, 262143⟩,
  ⟨(some 56), .pick (.t 51) (.t 55) (.c (.bool false)), none, 0, 524287⟩,
  ⟨(some 57), .move (.t 56), none, 0, 1048575⟩,
  ⟨(some 58), .move (.t 9), (some (57, true)), 0, 2097151⟩,
  ⟨(some 59), .move (.t 1), (some (57, true)), 0, 2097151⟩,
  ⟨(some 60), .call (.c (.fn 7 [] [])) [(.t 58), (.t 59)], (some (57, true)), 0, 8388607⟩,
  ⟨(some 61), .pick (.t 57) (.t 60) (.c (.bool false)), none, 0, 16777215⟩,
  ⟨(some 62), .move (.t 61), none, 0, 33554431⟩,
  ⟨(some 63), .call (.c (.fn 8 [] [])) [], (some (62, true)), 0, 67108863⟩,
  ⟨(some 64), .pick (.t 62) (.t 63) (.c (.bool false)), none, 0, 134217727⟩,
  ⟨(some 4), .move (.t 64), none, 0, 268435455⟩]
def f4c : ACode :=
  .seq (.region false f4r0 [1, 2] 0)
  (.seq (.region false f4r1 [1, 2, 5, 6] 0)
  (.seq (.region false f4r2 [1, 5, 6, 7, 8] 0)
  (.seq (.region false f4r3 [1, 5, 6, 7, 8, 9] 1)
  (.seq (.region false f4r4 [1, 5, 6, 7, 8, 9, 10, 11] 0)
  (.seq (.region false f4r5 [1, 5, 6, 7, 8, 9, 10, 11, 12, 13] 0)
  (.seq (.region false f4r6 [4] 0)
  (.ret)))))))
def f4 : AFn := ⟨2, 65, [.tmp 4], f4c, 1, none⟩
def f4k : List (Nat × List Nat) := [(0, [1, 2]), (1, [1, 2, 5, 6]), (2, [1, 5, 6, 7, 8]), (3, [1, 5, 6, 7, 8, 9]), (4, [1, 5, 6, 7, 8, 9, 10, 11]), (5, [1, 5, 6, 7, 8, 9, 10, 11, 12, 13]), (6, [4])]
def f4v : List Nat := [2, 26, 24]

/-! 5: mortise/token.Scan, parameters [9], results [22, 27] -/
def f5r0 : List AOper := [
  ⟨(some 2), .move (.c (.is [] .nil)), none, 0, 0⟩,
  ⟨(some 3), .alloc false [(.int .i64 0), (.int .i64 0), (.int .i64 0), (.int .i64 0)], none, 0, 0⟩]
def f5r1 : List AOper := [
  ⟨(some 11), .move (.t 0), none, 0, 0⟩,
  ⟨(some 12), .len 0 (.t 11), none, 0, 1⟩,
  ⟨(some 13), .bin .gtr (.t 12) (.c (.int .i64 65536)), none, 0, 3⟩]
def f5r2 : List AOper := [
  ⟨(some 14), .build [(.int .i64 0), (.int .i64 0), (.int .i64 0), (.int .i64 0)] [(0, 1, (.c (.int .i64 24)))], none, 0, 0⟩,
  ⟨(some 2), .move (.c (.is [] .nil)), none, 0, 0⟩,
  ⟨none, .store 4 (.t 3) (.t 14), none, 0, 3⟩]
def f5r3 : List AOper := [
  ⟨(some 15), .move (.t 0), none, 0, 0⟩,
  ⟨(some 16), .build [(.int .i64 0), (.int .i64 0), (.int .i64 0)] [(0, 1, (.c (.int .i64 1))), (1, 1, (.c (.int .i64 1)))], none, 0, 0⟩,
  ⟨(some 17), .build [(.str []), (.int .i64 0), (.int .i64 0), (.int .i64 0)] [(0, 1, (.t 15)), (1, 3, (.t 16))], none, 0, 3⟩,
  ⟨(some 18), .box false (.t 17), none, 0, 7⟩,
  ⟨(some 4), .move (.t 18), none, 1, 15⟩]
def f5r4 : List AOper := [
  ⟨(some 5), .move (.c (.is [] .nil)), none, 0, 0⟩]
def f5r5 : List AOper := [
  ⟨(some 6), .move (.c (.int .i64 0)), none, 0, 0⟩]
def f5r6 : List AOper := [
  ⟨(some 20), .move (.t 0), none, 0, 0⟩,
  ⟨(some 21), .move (.t 6), none, 0, 0⟩,
  ⟨(some 22), .call (.c (.fn 14 [] [])) [(.t 20), (.t 21)], none, 0, 3⟩,
  ⟨(some 19), .move (.t 22), none, 0, 7⟩,
  ⟨(some 23), .extract (.t 19) 0, none, 0, 15⟩,
  ⟨(some 24), .extract (.t 19) 1, none, 0, 15⟩,
  ⟨(some 7), .move (.t 23), none, 0, 31⟩,
  ⟨(some 8), .move (.t 24), none, 0, 127⟩]
def f5r7 : List AOper := [
  ⟨(some 25), .move (.t 8), none, 0, 0⟩,
  ⟨(some 26), .bin .neq (.t 25) (.c (.int .i64 0)), none, 0, 1⟩]
def f5r8 : List AOper := [
  ⟨(some 27), .move (.t 8), none, 0, 0⟩,
  ⟨(some 28), .move (.t 4), none, 0, 0⟩,
  ⟨(some 29), .move (.t 7), none, 0, 0⟩,
  ⟨(some 30), .call (.c (.fn 15 [] [])) [(.t 28), (.t 29)], none, 0, 6⟩,
  ⟨(some 31), .build [(.int .i64 0), (.int .i64 0), (.int .i64 0), (.int .i64 0)] [(0, 1, (.t 27)), (1, 3, (.t 30))], none, 0, 15⟩,
  ⟨(some 2), .move (.c (.is [] .nil)), none, 0, 14⟩,
  ⟨none, .store 4 (.t 3) (.t 31), none, 0, 63⟩]
def f5r9 : List AOper := [
  ⟨(some 32), .move (.t 7), none, 0, 0⟩,
  ⟨(some 33), .move (.t 0), none, 0, 0⟩,
  ⟨(some 34), .len 0 (.t 33), none, 0, 2⟩,
  ⟨(some 35), .bin .eql (.t 32) (.t 34), none, 0, 7⟩]
def f5r10 : List AOper := [
  ⟨(some 36), .move (.t 5), none, 0, 0⟩,
  ⟨(some 37), .move (.t 4), none, 0, 0⟩,
  ⟨(some 38), .move (.t 7), none, 0, 0⟩,
  ⟨(some 39), .call (.c (.fn 15 [] [])) [(.t 37), (.t 38)], none, 0, 6⟩,
  ⟨(some 40), .build [(.int .i64 0), (.str []), (.int .i64 0), (.int .i64 0), (.int .i64 0), (.int .i64 0)] [(3, 3, (.t 39))], none, 0, 14⟩,
  ⟨(some 41), .buildSlice true 6 1 [(.int .i64 0), (.str []), (.int .i64 0), (.int .i64 0), (.int .i64 0), (.int .i64 0)] [(0, 6, (.t 40))], none, 0, 30⟩,
  ⟨(some 42), .append true 6 56 (.t 36) (.t 41), none, 0, 63⟩,
  ⟨(some 43), .build [(.int .i64 0), (.int .i64 0), (.int .i64 0), (.int .i64 0)] [], none, 1, 0⟩,
  ⟨(some 2), .move (.t 42), none, 1, 127⟩,
  ⟨none, .store 4 (.t 3) (.t 43), none, 1, 511⟩]
def f5r11 : List AOper := [
  ⟨(some 45), .move (.t 0), none, 0, 0⟩,
  ⟨(some 46), .move (.t 7), none, 0, 0⟩,
  ⟨(some 47), .strSlice (.t 45) (some (.t 46)) none, none, 0, 3⟩,
  ⟨(some 48), .call (.c (.fn 16 [] [])) [(.t 47)], none, 0, 7⟩,
  ⟨(some 44), .move (.t 48), none, 0, 15⟩,
  ⟨(some 49), .extract (.t 44) 0, none, 0, 31⟩,
  ⟨(some 50), .extract (.t 44) 1, none, 0, 31⟩,
  ⟨(some 51), .extract (.t 44) 2, none, 0, 31⟩,
  ⟨(some 9), .alloc false [(.int .i64 0), (.str []), (.int .i64 0), (.int .i64 0), (.int .i64 0), (.int .i64 0)], none, 0, 0⟩,
  ⟨none, .store 6 (.t 9) (.t 49), none, 1, 319⟩,
  ⟨(some 10), .move (.t 50), none, 1, 895⟩,
  ⟨(some 8), .move (.t 51), none, 1, 2047⟩]
def f5r12 : List AOper := [
  ⟨(some 52), .move (.t 4), none, 0, 0⟩,
  ⟨(some 53), .move (.t 7), none, 0, 0⟩,
  ⟨(some 54), .call (.c (.fn 15 [] [])) [(.t 52), (.t 53)], none, 0, 3⟩,
  ⟨(some 55), .fieldAddr 3 (.t 9), none, 0, 7⟩,
  ⟨none, .store 3 (.t 55) (.t 54), none, 0, 15⟩]
def f5r13 : List AOper := [
  ⟨(some 56), .move (.t 8), none, 0, 0⟩,
  ⟨(some 57), .bin .eql (.t 56) (.c (.int .i64 0)), none, 0, 1⟩,
  ⟨(some 58), .move (.t 57), none, 0, 3⟩,
  ⟨(some 59), .move (.t 5), (some (58, true)), 0, 7⟩,
  ⟨(some 60), .len 1 (.t 59), (some (58, true)), 0, 15⟩,
  ⟨(some 61), .bin .eql (.t 60) (.c (.int .i64 16384)), (some (58, true)), 0, 31⟩,
  ⟨(some 62), .pick (.t 58) (.t 61) (.c (.bool false)), none, 0, 63⟩]
def f5r14 : List AOper := [
  ⟨(some 8), .move (.c (.int .i64 23)), none, 0, 0⟩]
def f5r15 : List AOper := [
  ⟨(some 63), .move (.t 8), none, 0, 0⟩,
  ⟨(some 64), .bin .neq (.t 63) (.c (.int .i64 0)), none, 0, 1⟩]
def f5q16 : List AOper := [
  ⟨(some 65), .move (.t 8), none, 0, 0⟩,
  ⟨(some 66), .fieldAddr 3 (.t 9), none, 0, 0⟩,
  ⟨(some 67), .load true 3 (.t 66), none, 0, 2⟩,
  ⟨(some 68), .build [(.int .i64 0), (.int .i64 0), (.int .i64 0), (.int .i64 0)] [(0, 1, (.t 65)), (1, 3, (.t 67))], none, 0, 7⟩,
  ⟨(some 2), .move (.c (.is [] .nil)), none, 0, 0⟩,
  ⟨none, .store 4 (.t 3) (.t 68), none, 0, 31⟩]
def f5r16 : List AOper := f5q16
def f5r17 : List AOper := [
  ⟨(some 69), .move (.t 5), none, 0, 0⟩,
  ⟨(some 70), .load true 6 (.t 9), none, 0, 0⟩,
  ⟨(some 71), .buildSlice true 6 1 [(.int .i64 0), (.str []), (.int .i64 0), (.int .i64 0), (.int .i64 0), (.int .i64 0)] [(0, 6, (.t 70))], none, 0, 2⟩,
  ⟨(some 72), .append true 6 56 (.t 69) (.t 71), none, 0, 7⟩,
  ⟨(some 5), .move (.t 72), none, 1, 15⟩]
def f5r18 : List AOper := [
  ⟨(some 73), .move (.t 7), none, 0, 0⟩,
  ⟨(some 74), .move (.t 10), none, 0, 0⟩,
  ⟨(some 75), .bin .add (.t 73) (.t 74), none, 0, 3⟩,
  ⟨(some 6), .move (.t 75), none, 0, 7⟩]
def f5m6 : ACode :=
  .block 1 (.seq (.region false f5r6 [0, 3, 4, 5, 7, 8] 0)
    (.seq (.seq (.region false f5r7 [0, 3, 4, 5, 7, 8, 26] 0)
    (.cond (.t 26)
      (.seq (.region false f5r8 [2, 3] 0)
      (.ret))
      (.skip)))
    (.seq (.seq (.region false f5r9 [0, 3, 4, 5, 7, 35] 0)
    (.cond (.t 35)
      (.seq (.region false f5r10 [2, 3] 1)
      (.ret))
      (.skip)))
    (.seq (.region false f5r11 [0, 3, 4, 5, 7, 8, 9, 10] 1)
    (.seq (.region false f5r12 [0, 3, 4, 5, 7, 8, 9, 10] 0)
    (.seq (.seq (.region false f5r13 [0, 3, 4, 5, 7, 8, 9, 10, 62] 0)
    (.cond (.t 62)
      (.region false f5r14 [0, 3, 4, 5, 7, 8, 9, 10] 0)
      (.skip)))
    (.seq (.seq (.region false f5r15 [0, 3, 4, 5, 7, 8, 9, 10, 64] 0)
    (.cond (.t 64)
      (.seq (.region true f5r16 [2, 3] 0)
      (.ret))
      (.skip)))
    (.seq (.region false f5r17 [0, 3, 4, 5, 7, 10] 1)
    (.region false f5r18 [0, 3, 4, 5, 6] 0)))))))))
def f5l6 : ACode := f5m6
theorem f5l6_b {A : Tab} {nt : Nat} {e : Env} {h : Heap} : Brun A nt f5l6 e h = Brun A nt f5m6 e h := rfl
theorem f5r16_s : staticOK 0 f5r16 = true := by rfl
theorem f5r16_w {A : Tab} {nt : Nat} {keep : List Nat} {n : Nat} {e : Env} {h : Heap} (hr : (bkeep keep (stepsF nt (stepF A true) h.length f5r16 e (h ++ List.replicate n .free))).isSome = true) : Brun A nt (.region true f5r16 keep n) e h = bkeep keep (stepsF nt (stepF A true) h.length f5r16 e (h ++ List.replicate n .free)) := Brun_drawnS f5r16_s hr
theorem f5r16_u (nt base : Nat) (step : Nat → AOp → Env → Heap → Option (AV × Heap)) (e : Env) (h : Heap) : stepsF nt step base f5r16 e h = stepsF nt step base f5q16 e h := rfl
def f5c : ACode :=
  .seq (.region false f5r0 [0, 3] 1)
  (.seq (.seq (.region false f5r1 [0, 3, 13] 0)
  (.cond (.t 13)
    (.seq (.region false f5r2 [2, 3] 0)
    (.ret))
    (.skip)))
  (.seq (.region false f5r3 [0, 3, 4] 1)
  (.seq (.region false f5r4 [0, 3, 4, 5] 0)
  (.seq (.region false f5r5 [0, 3, 4, 5, 6] 0)
  (.block 0 (.loop f5l6))))))
def f5 : AFn := ⟨1, 76, [.tmp 2, .cell 3 true 4], f5c, 1, none⟩
def f5k : List (Nat × List Nat) := [(0, [0, 3]), (1, [0, 3, 13]), (2, [2, 3]), (3, [0, 3, 4]), (4, [0, 3, 4, 5]), (5, [0, 3, 4, 5, 6]), (6, [0, 3, 4, 5, 7, 8]), (7, [0, 3, 4, 5, 7, 8, 26]), (8, [2, 3]), (9, [0, 3, 4, 5, 7, 35]), (10, [2, 3]), (11, [0, 3, 4, 5, 7, 8, 9, 10]), (12, [0, 3, 4, 5, 7, 8, 9, 10]), (13, [0, 3, 4, 5, 7, 8, 9, 10, 62]), (14, [0, 3, 4, 5, 7, 8, 9, 10]), (15, [0, 3, 4, 5, 7, 8, 9, 10, 64]), (16, [2, 3]), (17, [0, 3, 4, 5, 7, 10]), (18, [0, 3, 4, 5, 6])]
def f5v : List Nat := [72, 71, 42, 41]

/-! 6: mortise/mortiseref02.Scan, parameters [9], results [22, 27] -/
def f6r0 : List AOper := [
  ⟨(some 2), .move (.c (.is [] .nil)), none, 0, 0⟩,
  ⟨(some 3), .alloc false [(.int .i64 0), (.int .i64 0), (.int .i64 0), (.int .i64 0)], none, 0, 0⟩]
def f6r1 : List AOper := [
  ⟨(some 12), .move (.t 0), none, 0, 0⟩,
  ⟨(some 13), .len 0 (.t 12), none, 0, 1⟩,
  ⟨(some 14), .bin .gtr (.t 13) (.c (.int .i64 65536)), none, 0, 3⟩]
def f6r2 : List AOper := [
  ⟨(some 15), .build [(.int .i64 0), (.int .i64 0), (.int .i64 0), (.int .i64 0)] [(0, 1, (.c (.int .i64 24)))], none, 0, 0⟩,
  ⟨(some 2), .move (.c (.is [] .nil)), none, 0, 0⟩,
  ⟨none, .store 4 (.t 3) (.t 15), none, 0, 3⟩]
def f6r3 : List AOper := [
  ⟨(some 4), .move (.c (.is [] .nil)), none, 0, 0⟩]
def f6r4 : List AOper := [
  ⟨(some 16), .build [(.int .i64 0), (.int .i64 0), (.int .i64 0)] [(0, 1, (.c (.int .i64 1))), (1, 1, (.c (.int .i64 1)))], none, 0, 0⟩,
  ⟨(some 5), .alloc false [(.int .i64 0), (.int .i64 0), (.int .i64 0)], none, 0, 0⟩,
  ⟨none, .store 3 (.t 5) (.t 16), none, 1, 3⟩]
def f6r5 : List AOper := [
  ⟨(some 6), .move (.c (.int .i64 0)), none, 0, 0⟩]
def f6r6 : List AOper := [
  ⟨(some 18), .move (.t 0), none, 0, 0⟩,
  ⟨(some 19), .move (.t 6), none, 0, 0⟩,
  ⟨(some 20), .call (.c (.fn 17 [] [])) [(.t 18), (.t 19)], none, 0, 3⟩,
  ⟨(some 17), .move (.t 20), none, 0, 7⟩,
  ⟨(some 21), .extract (.t 17) 0, none, 0, 15⟩,
  ⟨(some 22), .extract (.t 17) 1, none, 0, 15⟩,
  ⟨(some 7), .move (.t 21), none, 0, 31⟩,
  ⟨(some 8), .move (.t 22), none, 0, 127⟩]
def f6r7 : List AOper := [
  ⟨(some 23), .move (.t 7), none, 0, 0⟩,
  ⟨(some 24), .bin .lss (.t 23) (.c (.int .i64 0)), none, 0, 1⟩]
def f6r8 : List AOper := [
  ⟨(some 25), .move (.t 0), none, 0, 0⟩,
  ⟨(some 26), .load true 3 (.t 5), none, 0, 0⟩,
  ⟨(some 27), .move (.t 8), none, 0, 0⟩,
  ⟨(some 28), .call (.c (.fn 18 [] [])) [(.t 25), (.t 26), (.t 27)], none, 0, 7⟩,
  ⟨(some 29), .build [(.int .i64 0), (.int .i64 0), (.int .i64 0), (.int .i64 0)] [(0, 1, (.c (.int .i64 25))), (1, 3, (.t 28))], none, 0, 15⟩,
  ⟨(some 2), .move (.c (.is [] .nil)), none, 0, 15⟩,
  ⟨none, .store 4 (.t 3) (.t 29), none, 0, 63⟩]
def f6r9 : List AOper := [
  ⟨(some 30), .move (.t 0), none, 0, 0⟩,
  ⟨(some 31), .load true 3 (.t 5), none, 0, 0⟩,
  ⟨(some 32), .move (.t 7), none, 0, 0⟩,
  ⟨(some 33), .call (.c (.fn 18 [] [])) [(.t 30), (.t 31), (.t 32)], none, 0, 7⟩,
  ⟨none, .store 3 (.t 5) (.t 33), none, 0, 15⟩]
def f6r10 : List AOper := [
  ⟨(some 35), .move (.t 0), none, 0, 0⟩,
  ⟨(some 36), .move (.t 7), none, 0, 0⟩,
  ⟨(some 37), .call (.c (.fn 19 [] [])) [(.t 35), (.t 36)], none, 0, 3⟩,
  ⟨(some 34), .move (.t 37), none, 0, 7⟩,
  ⟨(some 38), .extract (.t 34) 0, none, 0, 15⟩,
  ⟨(some 39), .extract (.t 34) 1, none, 0, 15⟩,
  ⟨(some 40), .extract (.t 34) 2, none, 0, 15⟩,
  ⟨(some 9), .alloc false [(.int .i64 0), (.str []), (.int .i64 0), (.int .i64 0), (.int .i64 0), (.int .i64 0)], none, 0, 0⟩,
  ⟨none, .store 6 (.t 9) (.t 38), none, 1, 159⟩,
  ⟨(some 10), .move (.t 39), none, 1, 447⟩,
  ⟨(some 11), .move (.t 40), none, 1, 1023⟩]
def f6r11 : List AOper := [
  ⟨(some 41), .move (.t 11), none, 0, 0⟩,
  ⟨(some 42), .bin .eql (.t 41) (.c (.int .i64 0)), none, 0, 1⟩,
  ⟨(some 43), .move (.t 42), none, 0, 3⟩,
  ⟨(some 44), .fieldAddr 0 (.t 9), (some (43, true)), 0, 7⟩,
  ⟨(some 45), .load false 1 (.t 44), (some (43, true)), 0, 15⟩,
  ⟨(some 46), .bin .neq (.t 45) (.c (.int .i64 0)), (some (43, true)), 0, 31⟩,
  ⟨(some 47), .pick (.t 43) (.t 46) (.c (.bool false)), none, 0, 63⟩,
  ⟨(some 48), .move (.t 47), none, 0, 127⟩,
  ⟨(some 49), .move (.t 4), (some (48, true)), 0, 255⟩,
  ⟨(some 50), .len 1 (.t 49), (some (48, true)), 0, 511⟩,
  ⟨(some 51), .bin .eql (.t 50) (.c (.int .i64 16384)), (some (48, true)), 0, 1023⟩,
  ⟨(some 52), .pick (.t 48) (.t 51) (.c (.bool false)), none, 0, 2047⟩]
def f6r12 : List AOper := [
  ⟨(some 11), .move (.c (.int .i64 23)), none, 0, 0⟩]
def f6r13 : List AOper := [
  ⟨(some 53), .move (.t 11), none, 0, 0⟩,
  ⟨(some 54), .bin .neq (.t 53) (.c (.int .i64 0)), none, 0, 1⟩]
def f6q14 : List AOper := [
  ⟨(some 55), .move (.t 11), none, 0, 0⟩,
  ⟨(some 56), .load true 3 (.t 5), none, 0, 0⟩,
  ⟨(some 57), .build [(.int .i64 0), (.int .i64 0), (.int .i64 0), (.int .i64 0)] [(0, 1, (.t 55)), (1, 3, (.t 56))], none, 0, 3⟩,
  ⟨(some 2), .move (.c (.is [] .nil)), none, 0, 0⟩,
  ⟨none, .store 4 (.t 3) (.t 57), none, 0, 15⟩]
def f6r14 : List AOper := f6q14
def f6r15 : List AOper := [
  ⟨(some 58), .load true 3 (.t 5), none, 0, 0⟩,
  ⟨(some 59), .fieldAddr 3 (.t 9), none, 0, 1⟩,
  ⟨none, .store 3 (.t 59) (.t 58), none, 0, 3⟩]
def f6r16 : List AOper := [
  ⟨(some 60), .move (.t 4), none, 0, 0⟩,
  ⟨(some 61), .load true 6 (.t 9), none, 0, 0⟩,
  ⟨(some 62), .buildSlice true 6 1 [(.int .i64 0), (.str []), (.int .i64 0), (.int .i64 0), (.int .i64 0), (.int .i64 0)] [(0, 6, (.t 61))], none, 0, 2⟩,
  ⟨(some 63), .append true 6 56 (.t 60) (.t 62), none, 0, 7⟩,
  ⟨(some 4), .move (.t 63), none, 1, 15⟩]
def f6r17 : List AOper := [
  ⟨(some 64), .fieldAddr 0 (.t 9), none, 0, 0⟩,
  ⟨(some 65), .load false 1 (.t 64), none, 0, 1⟩,
  ⟨(some 66), .bin .eql (.t 65) (.c (.int .i64 0)), none, 0, 3⟩]
def f6r18 : List AOper := [
  ⟨(some 67), .move (.t 4), none, 0, 0⟩,
  ⟨(some 68), .build [(.int .i64 0), (.int .i64 0), (.int .i64 0), (.int .i64 0)] [], none, 0, 0⟩,
  ⟨(some 2), .move (.t 67), none, 0, 1⟩,
  ⟨none, .store 4 (.t 3) (.t 68), none, 0, 7⟩]
def f6r19 : List AOper := [
  ⟨(some 69), .move (.t 10), none, 0, 0⟩,
  ⟨(some 6), .move (.t 69), none, 0, 1⟩]
def f6m6 : ACode :=
  .block 1 (.seq (.region false f6r6 [0, 3, 4, 5, 7, 8] 0)
    (.seq (.seq (.region false f6r7 [0, 3, 4, 5, 7, 8, 24] 0)
    (.cond (.t 24)
      (.seq (.region false f6r8 [2, 3] 0)
      (.ret))
      (.skip)))
    (.seq (.region false f6r9 [0, 3, 4, 5, 7] 0)
    (.seq (.region false f6r10 [0, 3, 4, 5, 9, 10, 11] 1)
    (.seq (.seq (.region false f6r11 [0, 3, 4, 5, 9, 10, 11, 52] 0)
    (.cond (.t 52)
      (.region false f6r12 [0, 3, 4, 5, 9, 10, 11] 0)
      (.skip)))
    (.seq (.seq (.region false f6r13 [0, 3, 4, 5, 9, 10, 11, 54] 0)
    (.cond (.t 54)
      (.seq (.region true f6r14 [2, 3] 0)
      (.ret))
      (.skip)))
    (.seq (.region false f6r15 [0, 3, 4, 5, 9, 10] 0)
    (.seq (.region false f6r16 [0, 3, 4, 5, 9, 10] 1)
    (.seq (.seq (.region false f6r17 [0, 3, 4, 5, 10, 66] 0)
    (.cond (.t 66)
      (.seq (.region false f6r18 [2, 3] 0)
      (.ret))
      (.skip)))
    (.region false f6r19 [0, 3, 4, 5, 6] 0))))))))))
def f6l6 : ACode := f6m6
theorem f6l6_b {A : Tab} {nt : Nat} {e : Env} {h : Heap} : Brun A nt f6l6 e h = Brun A nt f6m6 e h := rfl
theorem f6r14_s : staticOK 0 f6r14 = true := by rfl
theorem f6r14_w {A : Tab} {nt : Nat} {keep : List Nat} {n : Nat} {e : Env} {h : Heap} (hr : (bkeep keep (stepsF nt (stepF A true) h.length f6r14 e (h ++ List.replicate n .free))).isSome = true) : Brun A nt (.region true f6r14 keep n) e h = bkeep keep (stepsF nt (stepF A true) h.length f6r14 e (h ++ List.replicate n .free)) := Brun_drawnS f6r14_s hr
theorem f6r14_u (nt base : Nat) (step : Nat → AOp → Env → Heap → Option (AV × Heap)) (e : Env) (h : Heap) : stepsF nt step base f6r14 e h = stepsF nt step base f6q14 e h := rfl
def f6c : ACode :=
  .seq (.region false f6r0 [0, 3] 1)
  (.seq (.seq (.region false f6r1 [0, 3, 14] 0)
  (.cond (.t 14)
    (.seq (.region false f6r2 [2, 3] 0)
    (.ret))
    (.skip)))
  (.seq (.region false f6r3 [0, 3, 4] 0)
  (.seq (.region false f6r4 [0, 3, 4, 5] 1)
  (.seq (.region false f6r5 [0, 3, 4, 5, 6] 0)
  (.block 0 (.loop f6l6))))))
def f6 : AFn := ⟨1, 70, [.tmp 2, .cell 3 true 4], f6c, 1, none⟩
def f6k : List (Nat × List Nat) := [(0, [0, 3]), (1, [0, 3, 14]), (2, [2, 3]), (3, [0, 3, 4]), (4, [0, 3, 4, 5]), (5, [0, 3, 4, 5, 6]), (6, [0, 3, 4, 5, 7, 8]), (7, [0, 3, 4, 5, 7, 8, 24]), (8, [2, 3]), (9, [0, 3, 4, 5, 7]), (10, [0, 3, 4, 5, 9, 10, 11]), (11, [0, 3, 4, 5, 9, 10, 11, 52]), (12, [0, 3, 4, 5, 9, 10, 11]), (13, [0, 3, 4, 5, 9, 10, 11, 54]), (14, [2, 3]), (15, [0, 3, 4, 5, 9, 10]), (16, [0, 3, 4, 5, 9, 10]), (17, [0, 3, 4, 5, 10, 66]), (18, [2, 3]), (19, [0, 3, 4, 5, 6])]
def f6v : List Nat := [63, 62]

/-! 7: mortise/mortiselaw02.Same, parameters [22, 22], results [4] -/
def f7r0 : List AOper := [
  ⟨(some 4), .move (.c (.bool false)), none, 0, 0⟩]
def f7r1 : List AOper := [
  ⟨(some 6), .move (.t 0), none, 0, 0⟩,
  ⟨(some 7), .len 1 (.t 6), none, 0, 1⟩,
  ⟨(some 8), .move (.t 1), none, 0, 0⟩,
  ⟨(some 9), .len 1 (.t 8), none, 0, 4⟩,
  ⟨(some 10), .bin .neq (.t 7) (.t 9), none, 0, 15⟩]
def f7r2 : List AOper := [
  ⟨(some 4), .move (.c (.bool false)), none, 0, 0⟩]
def f7r3 : List AOper := [
  ⟨(some 5), .move (.c (.int .i64 0)), none, 0, 0⟩]
def f7r4 : List AOper := [
  ⟨(some 11), .move (.t 5), none, 0, 0⟩,
  ⟨(some 12), .move (.t 0), none, 0, 0⟩,
  ⟨(some 13), .len 1 (.t 12), none, 0, 2⟩,
  ⟨(some 14), .bin .lss (.t 11) (.t 13), none, 0, 7⟩]
def f7q5 : List AOper := [
  ⟨(some 17), .move (.t 0), none, 0, 0⟩,
  ⟨(some 18), .move (.t 5), none, 0, 0⟩,
  ⟨(some 19), .idxAddr 6 (.t 17) (.t 18), none, 0, 3⟩,
  ⟨(some 20), .load true 6 (.t 19), none, 0, 7⟩,
  ⟨(some 21), .move (.t 1), none, 0, 0⟩,
  ⟨(some 22), .move (.t 5), none, 0, 0⟩,
  ⟨(some 23), .idxAddr 6 (.t 21) (.t 22), none, 0, 48⟩,
  ⟨(some 24), .load true 6 (.t 23), none, 0, 112⟩,
  ⟨(some 25), .eq true (.agg [.int .i64, .str, .int .i64, .int .i64, .int .i64, .int .i64]) (.t 20) (.t 24), none, 0, 255⟩]
def f7r5 : List AOper := f7q5
def f7r6 : List AOper := [
  ⟨(some 4), .move (.c (.bool false)), none, 0, 0⟩]
def f7r7 : List AOper := [
  ⟨(some 15), .move (.t 5), none, 0, 0⟩,
  ⟨(some 16), .bin .add (.t 15) (.c (.int .i64 1)), none, 0, 1⟩,
  ⟨(some 5), .move (.t 16), none, 0, 3⟩]
def f7m4 : ACode :=
  .seq (.seq (.region false f7r4 [0, 1, 5, 14] 0)
  (.cond (.t 14)
    (.skip)
    (.exit 0)))
  (.seq (.block 1 (.seq (.region true f7r5 [0, 1, 5, 25] 0)
    (.cond (.t 25)
      (.seq (.region false f7r6 [4] 0)
      (.ret))
      (.skip))))
  (.region false f7r7 [0, 1, 5] 0))
def f7l4 : ACode := f7m4
theorem f7l4_b {A : Tab} {nt : Nat} {e : Env} {h : Heap} : Brun A nt f7l4 e h = Brun A nt f7m4 e h := rfl
def f7r8 : List AOper := [
  ⟨(some 4), .move (.c (.bool true)), none, 0, 0⟩]
theorem f7r5_s : staticOK 0 f7r5 = true := by rfl
theorem f7r5_w {A : Tab} {nt : Nat} {keep : List Nat} {n : Nat} {e : Env} {h : Heap} (hr : (bkeep keep (stepsF nt (stepF A true) h.length f7r5 e (h ++ List.replicate n .free))).isSome = true) : Brun A nt (.region true f7r5 keep n) e h = bkeep keep (stepsF nt (stepF A true) h.length f7r5 e (h ++ List.replicate n .free)) := Brun_drawnS f7r5_s hr
theorem f7r5_u (nt base : Nat) (step : Nat → AOp → Env → Heap → Option (AV × Heap)) (e : Env) (h : Heap) : stepsF nt step base f7r5 e h = stepsF nt step base f7q5 e h := rfl
def f7c : ACode :=
  .seq (.region false f7r0 [0, 1] 0)
  (.seq (.seq (.region false f7r1 [0, 1, 10] 0)
  (.cond (.t 10)
    (.seq (.region false f7r2 [4] 0)
    (.ret))
    (.skip)))
  (.seq (.seq (.region false f7r3 [0, 1, 5] 0)
  (.block 0 (.loop f7l4)))
  (.seq (.region false f7r8 [4] 0)
  (.ret))))
def f7 : AFn := ⟨2, 26, [.tmp 4], f7c, 1, none⟩
def f7k : List (Nat × List Nat) := [(0, [0, 1]), (1, [0, 1, 10]), (2, [4]), (3, [0, 1, 5]), (4, [0, 1, 5, 14]), (6, [0, 1, 5, 25]), (7, [4]), (5, [0, 1, 5]), (8, [4])]
def f7v : List Nat := []

/-! 8: mortise/mortiselaw02.heads, parameters [], results [4] -/
def f8r0 : List AOper := [
  ⟨(some 0), .move (.c (.bool false)), none, 0, 0⟩]
def f8r1 : List AOper := [
  ⟨(some 8), .call (.c (.fn 5 [] [])) [(.c (.str [105, 110, 116, 32, 97, 91, 50, 93, 61, 123, 48, 120, 49, 102, 44, 39, 92, 110, 39, 125, 59, 32, 47, 47, 32, 120]))], none, 0, 0⟩,
  ⟨(some 7), .move (.t 8), none, 0, 1⟩,
  ⟨(some 9), .extract (.t 7) 0, none, 0, 3⟩,
  ⟨(some 10), .extract (.t 7) 1, none, 0, 3⟩,
  ⟨(some 2), .alloc false [(.int .i64 0), (.int .i64 0), (.int .i64 0), (.int .i64 0)], none, 0, 0⟩,
  ⟨(some 1), .move (.t 9), none, 1, 23⟩,
  ⟨none, .store 4 (.t 2) (.t 10), none, 1, 63⟩]
def f8r2 : List AOper := [
  ⟨(some 12), .call (.c (.fn 5 [] [])) [(.c (.str [97, 10, 32, 48, 56]))], none, 0, 0⟩,
  ⟨(some 11), .move (.t 12), none, 0, 1⟩,
  ⟨(some 13), .extract (.t 11) 0, none, 0, 3⟩,
  ⟨(some 14), .extract (.t 11) 1, none, 0, 3⟩,
  ⟨(some 4), .alloc false [(.int .i64 0), (.int .i64 0), (.int .i64 0), (.int .i64 0)], none, 0, 0⟩,
  ⟨(some 3), .move (.t 13), none, 1, 23⟩,
  ⟨none, .store 4 (.t 4) (.t 14), none, 1, 63⟩]
def f8r3 : List AOper := [
  ⟨(some 16), .build [(.int .i64 0), (.str []), (.int .i64 0), (.int .i64 0), (.int .i64 0), (.int .i64 0)] [(0, 1, (.c (.int .i64 1))), (1, 1, (.c (.str [97])))], none, 0, 0⟩,
  ⟨(some 17), .build [(.int .i64 0), (.str []), (.int .i64 0), (.int .i64 0), (.int .i64 0), (.int .i64 0)] [(0, 1, (.c (.int .i64 6))), (1, 1, (.c (.str [45, 62])))], none, 0, 0⟩,
  ⟨(some 18), .build [(.int .i64 0), (.str []), (.int .i64 0), (.int .i64 0), (.int .i64 0), (.int .i64 0)] [(0, 1, (.c (.int .i64 3))), (2, 1, (.c (.int .i64 7))), (1, 1, (.c (.str [117, 110, 115, 105, 103, 110, 101, 100, 32, 105, 110, 116])))], none, 0, 0⟩,
  ⟨(some 19), .build [(.int .i64 0), (.str []), (.int .i64 0), (.int .i64 0), (.int .i64 0), (.int .i64 0)] [(0, 1, (.c (.int .i64 4))), (2, 1, (.c (.int .i64 (-1))))], none, 0, 0⟩,
  ⟨(some 20), .build [(.int .i64 0), (.str []), (.int .i64 0), (.int .i64 0), (.int .i64 0), (.int .i64 0)] [(0, 1, (.c (.int .i64 5))), (1, 1, (.c (.str [120, 10])))], none, 0, 0⟩,
  ⟨(some 21), .buildSlice true 6 5 [(.int .i64 0), (.str []), (.int .i64 0), (.int .i64 0), (.int .i64 0), (.int .i64 0), (.int .i64 0), (.str []), (.int .i64 0), (.int .i64 0), (.int .i64 0), (.int .i64 0), (.int .i64 0), (.str []), (.int .i64 0), (.int .i64 0), (.int .i64 0), (.int .i64 0), (.int .i64 0), (.str []), (.int .i64 0), (.int .i64 0), (.int .i64 0), (.int .i64 0), (.int .i64 0), (.str []), (.int .i64 0), (.int .i64 0), (.int .i64 0), (.int .i64 0)] [(0, 6, (.t 16)), (6, 6, (.t 17)), (12, 6, (.t 18)), (18, 6, (.t 19)), (24, 6, (.t 20))], none, 0, 31⟩,
  ⟨(some 22), .call (.c (.fn 11 [] [])) [(.t 21)], none, 0, 63⟩,
  ⟨(some 15), .move (.t 22), none, 0, 127⟩,
  ⟨(some 23), .extract (.t 15) 0, none, 0, 255⟩,
  ⟨(some 24), .extract (.t 15) 1, none, 0, 255⟩,
  ⟨(some 5), .move (.t 23), none, 0, 511⟩,
  ⟨(some 6), .move (.t 24), none, 0, 2047⟩]
def f8r4 : List AOper := [
  ⟨(some 25), .load true 4 (.t 2), none, 0, 0⟩,
  ⟨(some 26), .build [(.int .i64 0), (.int .i64 0), (.int .i64 0), (.int .i64 0)] [], none, 0, 0⟩,
  ⟨(some 27), .eq false (.agg [.int .i64, .int .i64, .int .i64, .int .i64]) (.t 25) (.t 26), none, 0, 3⟩,
  ⟨(some 28), .move (.t 27), none, 0, 7⟩,
  ⟨(some 29), .move (.t 1), (some (28, true)), 0, 15⟩,
  ⟨(some 30), .len 1 (.t 29), (some (28, true)), 0, 31⟩,
  ⟨(some 31), .bin .eql (.t 30) (.c (.int .i64 13)), (some (28, true)), 0, 63⟩,
  ⟨(some 32), .pick (.t 28) (.t 31) (.c (.bool false)), none, 0, 127⟩,
  ⟨(some 33), .move (.t 32), none, 0, 255⟩,
  ⟨(some 34), .move (.t 1), (some (33, true)), 0, 511⟩,
  ⟨(some 35), .idxAddr 6 (.t 34) (.c (.int .i64 0)), (some (33, true)), 0, 1023⟩,
  ⟨(some 36), .fieldAddr 0 (.t 35), (some (33, true)), 0, 2047⟩,
  ⟨(some 37), .load false 1 (.t 36), (some (33, true)), 0, 4095⟩,
  ⟨(some 38), .bin .eql (.t 37) (.c (.int .i64 2)), (some (33, true)), 0, 8191⟩,
  ⟨(some 39), .pick (.t 33) (.t 38) (.c (.bool false)), none, 0, 16383⟩,
  ⟨(some 40), .move (.t 39), none, 0, 32767⟩,
  ⟨(some 41), .move (.t 1), (some (40, true)), 0, 65535⟩,
  ⟨(some 42), .idxAddr 6 (.t 41) (.c (.int .i64 7)), (some (40, true)), 0, 131071⟩,
  ⟨(some 43), .fieldAddr 2 (.t 42), (some (40, true)), 0, 262143⟩,
  ⟨(some 44), .load false 1 (.t 43), (some (40, true)), 0, 524287⟩,
  ⟨(some 45), .bin .eql (.t 44) (.c (.int .i64 31)), (some (40, true)), 0, 1048575⟩,
  ⟨(some 46), .pick (.t 40) (.t 45) (.c (.bool false)), none, 0, 2097151⟩,
  ⟨(some 47), .move (.t 46), none, 0, 4194303⟩,
  ⟨(some 48), .move (.t 1), (some (47, true)), 0, 8388607⟩,
  ⟨(some 49), .idxAddr 6 (.t 48) (.c (.int .i64 9)), (some (47, true)), 0, 16777215⟩,
  ⟨(some 50), .fieldAddr 2 (.t 49), (some (47, true)), 0, 33554431⟩,
  ⟨(some 51), .load false 1 (.t 50), (some (47, true)), 0, 67108863⟩,
  ⟨(some 52), .bin .eql (.t 51) (.c (.int .i64 10)), (some (47, true)), 0, 134217727⟩,
  ⟨(some 53), .pick (.t 47) (.t 52) (.c (.bool false)), none, 0, 268435455⟩,
  ⟨(some 54), .move (.t 53), none, 0, 536870911⟩,
  ⟨(some 55), .move (.t 1), (some (54, true)), 0, 1073741823⟩,
  ⟨(some 56), .idxAddr 6 (.t 55) (.c (.int .i64 9)), (some (54, true)), 0, 2147483647⟩,
  ⟨(some 57), .fieldAddr 0 (.t 56), (some (54, true)), 0, 4294967295⟩,
  ⟨(some 58), .load false 1 (.t 57), (some (54, true)), 0, 8589934591⟩,
  ⟨(some 59), .bin .eql (.t 58) (.c (.int .i64 4)), (some (54, true)), 0, 17179869183⟩,
  ⟨(some 60), .pick (.t 54) (.t 59) (.c (.bool false)), none, 0, 34359738367⟩,
  ⟨(some 61), .move (.t 60), none, 0, 68719476735⟩,
  ⟨(some 62), .move (.t 1), (some (61, true)), 0, 137438953471⟩,
  ⟨(some 63), .idxAddr 6 (.t 62) (.c (.int .i64 12)), (some (61, true)), 0, 274877906943⟩,
  ⟨(some 64), .fieldAddr 0 (.t 63), (some (61, true)), 0, 549755813887⟩,
  ⟨(some 65), .load false 1 (.t 64), (some (61, true)), 0, 1099511627775⟩,
  ⟨(some 66), .bin .eql (.t 65) (.c (.int .i64 0)), (some (61, true)), 0, 2199023255551⟩,
  ⟨(some 67), .pick (.t 61) (.t 66) (.c (.bool false)), none, 0, 4398046511103⟩,
  ⟨(some 68), .move (.t 67), none, 0, 8796093022207⟩,
  ⟨(some 69), .load true 4 (.t 4), (some (68, true)), 0, 17592186044415⟩,
  ⟨(some 70), .build [(.int .i64 0), (.int .i64 0), (.int .i64 0)] [(2, 1, (.c (.int .i64 3))), (0, 1, (.c (.int .i64 2))), (1, 1, (.c (.int .i64 2)))], (some (68, true)), 0, 17592186044415⟩,
  ⟨(some 71), .build [(.int .i64 0), (.int .i64 0), (.int .i64 0), (.int .i64 0)] [(0, 1, (.c (.int .i64 21))), (1, 3, (.t 70))], (some (68, true)), 0, 52776558133247⟩,
  ⟨(some 72), .eq false (.agg [.int .i64, .int .i64, .int .i64, .int .i64]) (.t 69) (.t 71), (some (68, true)), 0, 140737488355327⟩,
  ⟨(some 73), .pick (.t 68) (.t 72) (.c (.bool false)), none, 0, 281474976710655⟩,
  ⟨(some 74), .move (.t 73), none, 0, 562949953421311⟩,
  ⟨(some 75), .move (.t 6), (some (74, true)), 0, 1125899906842623⟩,
  ⟨(some 76), .call (.c (.fn 13 [] [])) [(.t 75)], (some (74, true)), 0, 2251799813685247⟩,
  ⟨(some 77), .bin .eql (.t 76) (.c (.int .i64 0)), (some (74, true)), 0, 4503599627370495⟩,
  ⟨(some 78), .pick (.t 74) (.t 77) (.c (.bool false)), none, 0, 9007199254740991⟩,
  ⟨(some 79), .move (.t 78), none, 0, 18014398509481983⟩,
  ⟨(some 80), .move (.t 5), (some (79, true)), 0, 36028797018963967⟩,
  ⟨(some 81), .bin .eql (.t 80) (.c (.str [97, 32, 45, 62, 32, 55, 85, 32, 39, 92, 51, 55, 55, 39, 32, 34, 120, 92, 110, 34])), (some (79, true)), 0, 72057594037927935⟩,
  ⟨(some 82), .pick (.t 79) (.t 81) (.c (.bool false)), none, 0, 144115188075855871⟩,
  ⟨(some 83), .move (.t 82), none, 0, 288230376151711743⟩,
  ⟨(some 84), .call (.c (.fn 20 [] [])) [(.c (.str [113, 95, 49]))], (some (83, true)), 0, 576460752303423487⟩,
  ⟨(some 85), .pick (.t 83) (.t 84) (.c (.bool false)), none, 0, 1152921504606846975⟩,
  ⟨(some 86), .move (.t 85), none, 0, 2305843009213693951⟩,
  ⟨(some 87), .call (.c (.fn 20 [] [])) [(.c (.str [49, 113]))], (some (86, true)), 0, 4611686018427387903⟩,
  ⟨(some 88), .un .not (.t 87), (some (86, true)), 0, 9223372036854775807⟩,
  ⟨(some 89), .pick (.t 86) (.t 88) (.c (.bool false)), none, 0, 18446744073709551615⟩,
  ⟨(some 90), .move (.t 89), none, 0, 36893488147419103231⟩,
  ⟨(some 91), .call (.c (.fn 20 [] [])) [(.c (.str [105, 110, 116]))], (some (90, true)), 0, 73786976294838206463⟩,
  ⟨(some 92), .un .not (.t 91), (some (90, true)), 0, 147573952589676412927⟩,
  ⟨(some 93), .pick (.t 90) (.t 92) (.c (.bool false)), none, 0, 295147905179352825855⟩,
  ⟨(some 94), .move (.t 93), none, 0, 590295810358705651711⟩,
  ⟨(some 95), .call (.c (.fn 21 [] [])) [(.c (.str [105, 110, 116]))], (some (94, true)), 0, 1180591620717411303423⟩,
  ⟨(some 96), .pick (.t 94) (.t 95) (.c (.bool false)), none, 0, 2361183241434822606847⟩,
  ⟨(some 97), .move (.t 96), none, 0, 4722366482869645213695⟩,
  ⟨(some 98), .call (.c (.fn 22 [] [])) [(.c (.str [97, 98, 10, 98])), (.c (.int .i64 4))], (some (97, true)), 0, 9444732965739290427391⟩,
  ⟨(some 99), .build [(.int .i64 0), (.int .i64 0), (.int .i64 0)] [(2, 1, (.c (.int .i64 4))), (0, 1, (.c (.int .i64 2))), (1, 1, (.c (.int .i64 2)))], (some (97, true)), 0, 9444732965739290427391⟩,
  ⟨(some 100), .eq false (.agg [.int .i64, .int .i64, .int .i64]) (.t 98) (.t 99), (some (97, true)), 0, 37778931862957161709567⟩,
  ⟨(some 101), .pick (.t 97) (.t 100) (.c (.bool false)), none, 0, 75557863725914323419135⟩,
  ⟨(some 0), .move (.t 101), none, 0, 151115727451828646838271⟩]
def f8c : ACode :=
  .seq (.region false f8r0 [] 0)
  (.seq (.region false f8r1 [1, 2] 1)
  (.seq (.region false f8r2 [1, 2, 4] 1)
  (.seq (.region false f8r3 [1, 2, 4, 5, 6] 0)
  (.seq (.region false f8r4 [0] 0)
  (.ret)))))
def f8 : AFn := ⟨0, 102, [.tmp 0], f8c, 1, none⟩
def f8k : List (Nat × List Nat) := [(0, []), (1, [1, 2]), (2, [1, 2, 4]), (3, [1, 2, 4, 5, 6]), (4, [0])]
def f8v : List Nat := [21]

/-! 9: mortise/token.Write, parameters [35], results [9, 23] -/
def f9r0 : List AOper := [
  ⟨(some 1), .box false (.t 0), none, 0, 0⟩,
  ⟨(some 2), .move (.c (.str [])), none, 1, 0⟩,
  ⟨(some 3), .move (.c (.int .i64 0)), none, 1, 2⟩]
def f9r1 : List AOper := [
  ⟨(some 4), .build [(.int .i64 0), (.int .i64 0), (.int .i64 0)] [], none, 0, 0⟩,
  ⟨(some 5), .fieldAddr 3 (.t 1), none, 0, 1⟩,
  ⟨none, .store 3 (.t 5) (.t 4), none, 0, 3⟩]
def f9r2 : List AOper := [
  ⟨(some 6), .load true 6 (.t 1), none, 0, 0⟩,
  ⟨(some 7), .call (.c (.fn 23 [] [])) [(.t 6)], none, 0, 1⟩,
  ⟨(some 8), .un .not (.t 7), none, 0, 3⟩]
def f9r3 : List AOper := [
  ⟨(some 2), .move (.c (.str [])), none, 0, 0⟩,
  ⟨(some 3), .move (.c (.int .i64 2)), none, 0, 1⟩]
def f9r4 : List AOper := [
  ⟨(some 9), .load true 6 (.t 1), none, 0, 0⟩,
  ⟨(some 10), .call (.c (.fn 24 [] [])) [(.t 9)], none, 0, 1⟩,
  ⟨(some 2), .move (.t 10), none, 0, 3⟩,
  ⟨(some 3), .move (.c (.int .i64 0)), none, 0, 7⟩]
def f9c : ACode :=
  .seq (.region false f9r0 [1] 1)
  (.seq (.region false f9r1 [1] 0)
  (.seq (.seq (.region false f9r2 [1, 8] 0)
  (.cond (.t 8)
    (.seq (.region false f9r3 [2, 3] 0)
    (.ret))
    (.skip)))
  (.seq (.region false f9r4 [2, 3] 0)
  (.ret))))
def f9 : AFn := ⟨1, 11, [.tmp 2, .tmp 3], f9c, 1, none⟩
def f9k : List (Nat × List Nat) := [(0, [1]), (1, [1]), (2, [1, 8]), (3, [2, 3]), (4, [2, 3])]
def f9v : List Nat := []

/-! 10: mortise/mortiseref02.Write, parameters [35], results [9, 3] -/
def f10r0 : List AOper := [
  ⟨(some 1), .box false (.t 0), none, 0, 0⟩,
  ⟨(some 2), .move (.c (.str [])), none, 1, 0⟩,
  ⟨(some 3), .move (.c (.int .i64 0)), none, 1, 2⟩]
def f10r1 : List AOper := [
  ⟨(some 8), .build [(.int .i64 0), (.int .i64 0), (.int .i64 0)] [], none, 0, 0⟩,
  ⟨(some 9), .fieldAddr 3 (.t 1), none, 0, 1⟩,
  ⟨none, .store 3 (.t 9) (.t 8), none, 0, 3⟩]
def f10r2 : List AOper := [
  ⟨(some 4), .move (.c (.str [])), none, 0, 0⟩]
def f10r3 : List AOper := [
  ⟨(some 10), .fieldAddr 0 (.t 1), none, 0, 0⟩,
  ⟨(some 11), .load false 1 (.t 10), none, 0, 1⟩]
def f10r4 : List AOper := [
  ⟨(some 13), .bin .eql (.t 11) (.c (.int .i64 1)), none, 0, 0⟩,
  ⟨(some 12), .move (.t 13), none, 0, 1⟩]
def f10r5 : List AOper := [
  ⟨(some 14), .bin .eql (.t 11) (.c (.int .i64 2)), none, 0, 0⟩,
  ⟨(some 12), .move (.t 14), none, 0, 1⟩]
def f10r6 : List AOper := [
  ⟨(some 15), .bin .eql (.t 11) (.c (.int .i64 6)), none, 0, 0⟩,
  ⟨(some 12), .move (.t 15), none, 0, 1⟩]
def f10r7 : List AOper := [
  ⟨(some 16), .fieldAddr 1 (.t 1), none, 0, 0⟩,
  ⟨(some 17), .load false 1 (.t 16), none, 0, 1⟩,
  ⟨(some 4), .move (.t 17), none, 0, 3⟩]
def f10r8 : List AOper := [
  ⟨(some 19), .bin .eql (.t 11) (.c (.int .i64 3)), none, 0, 0⟩,
  ⟨(some 18), .move (.t 19), none, 0, 1⟩]
def f10r9 : List AOper := [
  ⟨(some 20), .fieldAddr 2 (.t 1), none, 0, 0⟩,
  ⟨(some 21), .load false 1 (.t 20), none, 0, 1⟩,
  ⟨(some 22), .bin .lss (.t 21) (.c (.int .i64 0)), none, 0, 3⟩,
  ⟨(some 23), .move (.t 22), none, 0, 7⟩,
  ⟨(some 24), .fieldAddr 2 (.t 1), (some (23, false)), 0, 15⟩,
  ⟨(some 25), .load false 1 (.t 24), (some (23, false)), 0, 31⟩,
  ⟨(some 26), .bin .gtr (.t 25) (.c (.int .i64 4294967295)), (some (23, false)), 0, 63⟩,
  ⟨(some 27), .pick (.t 23) (.c (.bool true)) (.t 26), none, 0, 127⟩]
def f10r10 : List AOper := [
  ⟨(some 2), .move (.c (.str [])), none, 0, 0⟩,
  ⟨(some 3), .move (.c (.int .i64 2)), none, 0, 1⟩]
def f10r11 : List AOper := [
  ⟨(some 28), .fieldAddr 2 (.t 1), none, 0, 0⟩,
  ⟨(some 29), .load false 1 (.t 28), none, 0, 1⟩,
  ⟨(some 30), .call (.c (.fn 25 [] [])) [(.t 29)], none, 0, 3⟩,
  ⟨(some 4), .move (.t 30), none, 0, 7⟩]
def f10r12 : List AOper := [
  ⟨(some 31), .fieldAddr 1 (.t 1), none, 0, 0⟩,
  ⟨(some 32), .load false 1 (.t 31), none, 0, 1⟩]
def f10r13 : List AOper := [
  ⟨(some 34), .bin .eql (.t 32) (.c (.str [108, 111, 110, 103])), none, 0, 0⟩,
  ⟨(some 33), .move (.t 34), none, 0, 1⟩]
def f10r14 : List AOper := [
  ⟨(some 35), .move (.t 4), none, 0, 0⟩,
  ⟨(some 36), .bin .add (.t 35) (.c (.str [76])), none, 0, 1⟩,
  ⟨(some 4), .move (.t 36), none, 0, 3⟩]
def f10r15 : List AOper := [
  ⟨(some 38), .bin .eql (.t 32) (.c (.str [117, 110, 115, 105, 103, 110, 101, 100, 32, 105, 110, 116])), none, 0, 0⟩,
  ⟨(some 37), .move (.t 38), none, 0, 1⟩]
def f10r16 : List AOper := [
  ⟨(some 39), .move (.t 4), none, 0, 0⟩,
  ⟨(some 40), .bin .add (.t 39) (.c (.str [85])), none, 0, 1⟩,
  ⟨(some 4), .move (.t 40), none, 0, 3⟩]
def f10r17 : List AOper := [
  ⟨(some 42), .bin .eql (.t 32) (.c (.str [117, 110, 115, 105, 103, 110, 101, 100, 32, 108, 111, 110, 103])), none, 0, 0⟩,
  ⟨(some 41), .move (.t 42), none, 0, 1⟩]
def f10r18 : List AOper := [
  ⟨(some 43), .move (.t 4), none, 0, 0⟩,
  ⟨(some 44), .bin .add (.t 43) (.c (.str [85, 76])), none, 0, 1⟩,
  ⟨(some 4), .move (.t 44), none, 0, 3⟩]
def f10r19 : List AOper := [
  ⟨(some 46), .bin .eql (.t 11) (.c (.int .i64 4)), none, 0, 0⟩,
  ⟨(some 45), .move (.t 46), none, 0, 1⟩]
def f10r20 : List AOper := [
  ⟨(some 47), .fieldAddr 2 (.t 1), none, 0, 0⟩,
  ⟨(some 48), .load false 1 (.t 47), none, 0, 1⟩,
  ⟨(some 49), .bin .lss (.t 48) (.c (.int .i64 (-128))), none, 0, 3⟩,
  ⟨(some 50), .move (.t 49), none, 0, 7⟩,
  ⟨(some 51), .fieldAddr 2 (.t 1), (some (50, false)), 0, 15⟩,
  ⟨(some 52), .load false 1 (.t 51), (some (50, false)), 0, 31⟩,
  ⟨(some 53), .bin .gtr (.t 52) (.c (.int .i64 127)), (some (50, false)), 0, 63⟩,
  ⟨(some 54), .pick (.t 50) (.c (.bool true)) (.t 53), none, 0, 127⟩]
def f10r21 : List AOper := [
  ⟨(some 2), .move (.c (.str [])), none, 0, 0⟩,
  ⟨(some 3), .move (.c (.int .i64 2)), none, 0, 1⟩]
def f10r22 : List AOper := [
  ⟨(some 55), .fieldAddr 2 (.t 1), none, 0, 0⟩,
  ⟨(some 56), .load false 1 (.t 55), none, 0, 1⟩,
  ⟨(some 57), .conv .u8 (.t 56), none, 0, 3⟩,
  ⟨(some 58), .buildSlice true 1 1 [(.int .u8 0)] [(0, 1, (.t 57))], none, 0, 7⟩,
  ⟨(some 59), .toStr (.t 58), none, 0, 15⟩,
  ⟨(some 60), .call (.c (.fn 26 [] [])) [(.t 59), (.c (.int .u8 39))], none, 0, 31⟩,
  ⟨(some 61), .bin .add (.c (.str [39])) (.t 60), none, 0, 63⟩,
  ⟨(some 62), .bin .add (.t 61) (.c (.str [39])), none, 0, 127⟩,
  ⟨(some 4), .move (.t 62), none, 0, 255⟩]
def f10r23 : List AOper := [
  ⟨(some 64), .bin .eql (.t 11) (.c (.int .i64 5)), none, 0, 0⟩,
  ⟨(some 63), .move (.t 64), none, 0, 1⟩]
def f10r24 : List AOper := [
  ⟨(some 65), .fieldAddr 1 (.t 1), none, 0, 0⟩,
  ⟨(some 66), .load false 1 (.t 65), none, 0, 1⟩,
  ⟨(some 67), .call (.c (.fn 26 [] [])) [(.t 66), (.c (.int .u8 34))], none, 0, 3⟩,
  ⟨(some 68), .bin .add (.c (.str [34])) (.t 67), none, 0, 7⟩,
  ⟨(some 69), .bin .add (.t 68) (.c (.str [34])), none, 0, 15⟩,
  ⟨(some 4), .move (.t 69), none, 0, 31⟩]
def f10r25 : List AOper := [
  ⟨(some 71), .bin .eql (.t 11) (.c (.int .i64 0)), none, 0, 0⟩,
  ⟨(some 70), .move (.t 71), none, 0, 1⟩]
def f10r26 : List AOper := [
  ⟨(some 72), .load true 6 (.t 1), none, 0, 0⟩,
  ⟨(some 73), .build [(.int .i64 0), (.str []), (.int .i64 0), (.int .i64 0), (.int .i64 0), (.int .i64 0)] [], none, 0, 0⟩,
  ⟨(some 74), .eq false (.agg [.int .i64, .str, .int .i64, .int .i64, .int .i64, .int .i64]) (.t 72) (.t 73), none, 0, 3⟩]
def f10r27 : List AOper := [
  ⟨(some 2), .move (.c (.str [])), none, 0, 0⟩,
  ⟨(some 3), .move (.c (.int .i64 0)), none, 0, 1⟩]
def f10r28 : List AOper := [
  ⟨(some 2), .move (.c (.str [])), none, 0, 0⟩,
  ⟨(some 3), .move (.c (.int .i64 2)), none, 0, 1⟩]
def f10r29 : List AOper := [
  ⟨(some 75), .move (.t 4), none, 0, 0⟩,
  ⟨(some 76), .bin .eql (.t 75) (.c (.str [])), none, 0, 1⟩]
def f10r30 : List AOper := [
  ⟨(some 2), .move (.c (.str [])), none, 0, 0⟩,
  ⟨(some 3), .move (.c (.int .i64 2)), none, 0, 1⟩]
def f10r31 : List AOper := [
  ⟨(some 78), .move (.t 4), none, 0, 0⟩,
  ⟨(some 79), .call (.c (.fn 19 [] [])) [(.t 78), (.c (.int .i64 0))], none, 0, 1⟩,
  ⟨(some 77), .move (.t 79), none, 0, 3⟩,
  ⟨(some 80), .extract (.t 77) 0, none, 0, 7⟩,
  ⟨(some 81), .extract (.t 77) 1, none, 0, 7⟩,
  ⟨(some 82), .extract (.t 77) 2, none, 0, 7⟩,
  ⟨(some 5), .alloc false [(.int .i64 0), (.str []), (.int .i64 0), (.int .i64 0), (.int .i64 0), (.int .i64 0)], none, 0, 0⟩,
  ⟨none, .store 6 (.t 5) (.t 80), none, 1, 79⟩,
  ⟨(some 6), .move (.t 81), none, 1, 223⟩,
  ⟨(some 7), .move (.t 82), none, 1, 511⟩]
def f10r32 : List AOper := [
  ⟨(some 83), .move (.t 7), none, 0, 0⟩,
  ⟨(some 84), .bin .neq (.t 83) (.c (.int .i64 0)), none, 0, 1⟩,
  ⟨(some 85), .move (.t 84), none, 0, 3⟩,
  ⟨(some 86), .move (.t 6), (some (85, false)), 0, 7⟩,
  ⟨(some 87), .move (.t 4), (some (85, false)), 0, 7⟩,
  ⟨(some 88), .len 0 (.t 87), (some (85, false)), 0, 23⟩,
  ⟨(some 89), .bin .neq (.t 86) (.t 88), (some (85, false)), 0, 63⟩,
  ⟨(some 90), .pick (.t 85) (.c (.bool true)) (.t 89), none, 0, 127⟩,
  ⟨(some 91), .move (.t 90), none, 0, 255⟩,
  ⟨(some 92), .load true 6 (.t 5), (some (91, false)), 0, 511⟩,
  ⟨(some 93), .load true 6 (.t 1), (some (91, false)), 0, 511⟩,
  ⟨(some 94), .eq true (.agg [.int .i64, .str, .int .i64, .int .i64, .int .i64, .int .i64]) (.t 92) (.t 93), (some (91, false)), 0, 2047⟩,
  ⟨(some 95), .pick (.t 91) (.c (.bool true)) (.t 94), none, 0, 4095⟩]
def f10r33 : List AOper := [
  ⟨(some 2), .move (.c (.str [])), none, 0, 0⟩,
  ⟨(some 3), .move (.c (.int .i64 2)), none, 0, 1⟩]
def f10r34 : List AOper := [
  ⟨(some 96), .move (.t 4), none, 0, 0⟩,
  ⟨(some 2), .move (.t 96), none, 0, 1⟩,
  ⟨(some 3), .move (.c (.int .i64 0)), none, 0, 3⟩]
def f10c : ACode :=
  .seq (.region false f10r0 [1] 1)
  (.seq (.region false f10r1 [1] 0)
  (.seq (.region false f10r2 [1, 4] 0)
  (.seq (.seq (.region false f10r3 [1, 4, 11] 0)
  (.block 0 (.seq (.seq (.region false f10r4 [1, 4, 11, 12] 0)
    (.cond (.t 12)
      (.skip)
      (.seq (.region false f10r5 [1, 4, 11, 12] 0)
      (.cond (.t 12)
        (.skip)
        (.region false f10r6 [1, 4, 11, 12] 0)))))
    (.cond (.t 12)
      (.region false f10r7 [1, 4] 0)
      (.seq (.region false f10r8 [1, 4, 11, 18] 0)
      (.cond (.t 18)
        (.seq (.seq (.region false f10r9 [1, 27] 0)
        (.cond (.t 27)
          (.seq (.region false f10r10 [2, 3] 0)
          (.ret))
          (.skip)))
        (.seq (.region false f10r11 [1, 4] 0)
        (.seq (.region false f10r12 [1, 4, 32] 0)
        (.block 1 (.seq (.region false f10r13 [1, 4, 32, 33] 0)
          (.cond (.t 33)
            (.region false f10r14 [1, 4] 0)
            (.seq (.region false f10r15 [1, 4, 32, 37] 0)
            (.cond (.t 37)
              (.region false f10r16 [1, 4] 0)
              (.seq (.region false f10r17 [1, 4, 41] 0)
              (.cond (.t 41)
                (.region false f10r18 [1, 4] 0)
                (.skip)))))))))))
        (.seq (.region false f10r19 [1, 4, 11, 45] 0)
        (.cond (.t 45)
          (.seq (.seq (.region false f10r20 [1, 54] 0)
          (.cond (.t 54)
            (.seq (.region false f10r21 [2, 3] 0)
            (.ret))
            (.skip)))
          (.region false f10r22 [1, 4] 0))
          (.seq (.region false f10r23 [1, 4, 11, 63] 0)
          (.cond (.t 63)
            (.region false f10r24 [1, 4] 0)
            (.seq (.region false f10r25 [1, 4, 70] 0)
            (.cond (.t 70)
              (.seq (.seq (.region false f10r26 [74] 0)
              (.cond (.t 74)
                (.seq (.region false f10r27 [2, 3] 0)
                (.ret))
                (.skip)))
              (.seq (.region false f10r28 [2, 3] 0)
              (.ret)))
              (.skip)))))))))))))
  (.seq (.seq (.region false f10r29 [1, 4, 76] 0)
  (.cond (.t 76)
    (.seq (.region false f10r30 [2, 3] 0)
    (.ret))
    (.skip)))
  (.seq (.region false f10r31 [1, 4, 5, 6, 7] 1)
  (.seq (.seq (.region false f10r32 [4, 95] 0)
  (.cond (.t 95)
    (.seq (.region false f10r33 [2, 3] 0)
    (.ret))
    (.skip)))
  (.seq (.region false f10r34 [2, 3] 0)
  (.ret))))))))
def f10 : AFn := ⟨1, 97, [.tmp 2, .tmp 3], f10c, 1, none⟩
def f10k : List (Nat × List Nat) := [(0, [1]), (1, [1]), (2, [1, 4]), (3, [1, 4, 11]), (4, [1, 4, 11, 12]), (5, [1, 4, 11, 12]), (6, [1, 4, 11, 12]), (8, [1, 4, 11, 18]), (19, [1, 4, 11, 45]), (23, [1, 4, 11, 63]), (25, [1, 4, 70]), (26, [74]), (27, [2, 3]), (28, [2, 3]), (24, [1, 4]), (20, [1, 54]), (21, [2, 3]), (22, [1, 4]), (9, [1, 27]), (10, [2, 3]), (11, [1, 4]), (12, [1, 4, 32]), (13, [1, 4, 32, 33]), (15, [1, 4, 32, 37]), (17, [1, 4, 41]), (18, [1, 4]), (16, [1, 4]), (14, [1, 4]), (7, [1, 4]), (29, [1, 4, 76]), (30, [2, 3]), (31, [1, 4, 5, 6, 7]), (32, [4, 95]), (33, [2, 3]), (34, [2, 3])]
def f10v : List Nat := [59, 58, 57]

/-! 11: mortise/token.Join, parameters [22], results [9, 23] -/
def f11r0 : List AOper := [
  ⟨(some 2), .move (.c (.str [])), none, 0, 0⟩,
  ⟨(some 3), .move (.c (.int .i64 0)), none, 0, 1⟩]
def f11r1 : List AOper := [
  ⟨(some 4), .move (.c (.is [] .nil)), none, 0, 0⟩]
def f11r2 : List AOper := [
  ⟨(some 9), .move (.t 0), none, 0, 0⟩,
  ⟨(some 10), .len 1 (.t 9), none, 0, 1⟩,
  ⟨(some 11), .move (.c (.int .i64 0)), none, 0, 0⟩]
def f11r3 : List AOper := [
  ⟨(some 12), .bin .lss (.t 11) (.t 10), none, 0, 0⟩]
def f11r4 : List AOper := [
  ⟨(some 13), .move (.t 11), none, 0, 0⟩,
  ⟨(some 14), .idxAddr 6 (.t 9) (.t 11), none, 0, 0⟩,
  ⟨(some 15), .load true 6 (.t 14), none, 0, 2⟩,
  ⟨(some 6), .alloc false [(.int .i64 0), (.str []), (.int .i64 0), (.int .i64 0), (.int .i64 0), (.int .i64 0)], none, 0, 0⟩,
  ⟨(some 5), .move (.t 13), none, 1, 15⟩,
  ⟨none, .store 6 (.t 6) (.t 15), none, 1, 31⟩]
def f11r5 : List AOper := [
  ⟨(some 17), .load true 6 (.t 6), none, 0, 0⟩,
  ⟨(some 18), .call (.c (.fn 9 [] [])) [(.t 17)], none, 0, 1⟩,
  ⟨(some 16), .move (.t 18), none, 0, 3⟩,
  ⟨(some 19), .extract (.t 16) 0, none, 0, 7⟩,
  ⟨(some 20), .extract (.t 16) 1, none, 0, 7⟩,
  ⟨(some 7), .move (.t 19), none, 0, 15⟩,
  ⟨(some 8), .move (.t 20), none, 0, 63⟩]
def f11r6 : List AOper := [
  ⟨(some 21), .move (.t 8), none, 0, 0⟩,
  ⟨(some 22), .bin .neq (.t 21) (.c (.int .i64 0)), none, 0, 1⟩,
  ⟨(some 23), .move (.t 22), none, 0, 3⟩,
  ⟨(some 24), .fieldAddr 0 (.t 6), (some (23, false)), 0, 7⟩,
  ⟨(some 25), .load false 1 (.t 24), (some (23, false)), 0, 15⟩,
  ⟨(some 26), .bin .eql (.t 25) (.c (.int .i64 0)), (some (23, false)), 0, 31⟩,
  ⟨(some 27), .move (.t 26), (some (23, false)), 0, 63⟩,
  ⟨(some 28), .move (.t 5), (some (27, true)), 0, 127⟩,
  ⟨(some 29), .move (.t 0), (some (27, true)), 0, 127⟩,
  ⟨(some 30), .len 1 (.t 29), (some (27, true)), 0, 383⟩,
  ⟨(some 31), .bin .sub (.t 30) (.c (.int .i64 1)), (some (27, true)), 0, 895⟩,
  ⟨(some 32), .bin .lss (.t 28) (.t 31), (some (27, true)), 0, 2047⟩,
  ⟨(some 33), .pick (.t 27) (.t 32) (.c (.bool false)), (some (23, false)), 0, 4095⟩,
  ⟨(some 34), .pick (.t 23) (.c (.bool true)) (.t 33), none, 0, 8191⟩]
def f11r7 : List AOper := [
  ⟨(some 2), .move (.c (.str [])), none, 0, 0⟩,
  ⟨(some 3), .move (.c (.int .i64 2)), none, 0, 1⟩]
def f11r8 : List AOper := [
  ⟨(some 35), .move (.t 4), none, 0, 0⟩,
  ⟨(some 36), .move (.t 7), none, 0, 0⟩,
  ⟨(some 37), .buildSlice true 1 1 [(.str [])] [(0, 1, (.t 36))], none, 0, 2⟩,
  ⟨(some 38), .append true 1 16 (.t 35) (.t 37), none, 0, 7⟩,
  ⟨(some 4), .move (.t 38), none, 1, 15⟩]
def f11r9 : List AOper := [
  ⟨(some 39), .bin .add (.t 11) (.c (.int .i64 1)), none, 0, 0⟩,
  ⟨(some 11), .move (.t 39), none, 0, 1⟩]
def f11m3 : ACode :=
  .seq (.region false f11r3 [0, 4, 9, 10, 11, 12] 0)
  (.seq (.cond (.t 12)
    (.skip)
    (.exit 0))
  (.seq (.block 1 (.seq (.region false f11r4 [0, 4, 5, 6, 9, 10, 11] 1)
    (.seq (.region false f11r5 [0, 4, 5, 6, 7, 8, 9, 10, 11] 0)
    (.seq (.seq (.region false f11r6 [0, 4, 7, 9, 10, 11, 34] 0)
    (.cond (.t 34)
      (.seq (.region false f11r7 [2, 3] 0)
      (.ret))
      (.skip)))
    (.region false f11r8 [0, 4, 9, 10, 11] 1)))))
  (.region false f11r9 [0, 4, 9, 10, 11] 0)))
def f11l3 : ACode := f11m3
theorem f11l3_b {A : Tab} {nt : Nat} {e : Env} {h : Heap} : Brun A nt f11l3 e h = Brun A nt f11m3 e h := rfl
def f11r10 : List AOper := [
  ⟨(some 40), .move (.t 4), none, 0, 0⟩,
  ⟨(some 41), .call (.c (.fn 27 [] [])) [(.t 40), (.c (.str [32]))], none, 0, 1⟩,
  ⟨(some 2), .move (.t 41), none, 0, 3⟩,
  ⟨(some 3), .move (.c (.int .i64 0)), none, 0, 7⟩]
def f11c : ACode :=
  .seq (.region false f11r0 [0] 0)
  (.seq (.region false f11r1 [0, 4] 0)
  (.seq (.seq (.region false f11r2 [0, 4, 9, 10, 11] 0)
  (.block 0 (.loop f11l3)))
  (.seq (.region false f11r10 [2, 3] 0)
  (.ret))))
def f11 : AFn := ⟨1, 42, [.tmp 2, .tmp 3], f11c, 1, none⟩
def f11k : List (Nat × List Nat) := [(0, [0]), (1, [0, 4]), (2, [0, 4, 9, 10, 11]), (3, [0, 4, 9, 10, 11, 12]), (4, [0, 4, 5, 6, 9, 10, 11]), (5, [0, 4, 5, 6, 7, 8, 9, 10, 11]), (6, [0, 4, 7, 9, 10, 11, 34]), (7, [2, 3]), (8, [0, 4, 9, 10, 11]), (9, [0, 4, 9, 10, 11]), (10, [2, 3])]
def f11v : List Nat := [38, 37]

/-! 12: mortise/mortiseref02.Join, parameters [22], results [9, 3] -/
def f12r0 : List AOper := [
  ⟨(some 2), .move (.c (.str [])), none, 0, 0⟩,
  ⟨(some 3), .move (.c (.int .i64 0)), none, 0, 1⟩]
def f12r1 : List AOper := [
  ⟨(some 4), .move (.c (.is [] .nil)), none, 0, 0⟩]
def f12r2 : List AOper := [
  ⟨(some 5), .move (.c (.int .i64 0)), none, 0, 0⟩]
def f12r3 : List AOper := [
  ⟨(some 8), .move (.t 5), none, 0, 0⟩,
  ⟨(some 9), .move (.t 0), none, 0, 0⟩,
  ⟨(some 10), .len 1 (.t 9), none, 0, 2⟩,
  ⟨(some 11), .bin .lss (.t 8) (.t 10), none, 0, 7⟩]
def f12r4 : List AOper := [
  ⟨(some 15), .move (.t 0), none, 0, 0⟩,
  ⟨(some 16), .move (.t 5), none, 0, 0⟩,
  ⟨(some 17), .idxAddr 6 (.t 15) (.t 16), none, 0, 3⟩,
  ⟨(some 18), .load true 6 (.t 17), none, 0, 7⟩,
  ⟨(some 19), .call (.c (.fn 10 [] [])) [(.t 18)], none, 0, 15⟩,
  ⟨(some 14), .move (.t 19), none, 0, 31⟩,
  ⟨(some 20), .extract (.t 14) 0, none, 0, 63⟩,
  ⟨(some 21), .extract (.t 14) 1, none, 0, 63⟩,
  ⟨(some 6), .move (.t 20), none, 0, 127⟩,
  ⟨(some 7), .move (.t 21), none, 0, 511⟩]
def f12r5 : List AOper := [
  ⟨(some 22), .move (.t 7), none, 0, 0⟩,
  ⟨(some 23), .bin .neq (.t 22) (.c (.int .i64 0)), none, 0, 1⟩,
  ⟨(some 24), .move (.t 23), none, 0, 3⟩,
  ⟨(some 25), .move (.t 0), (some (24, false)), 0, 7⟩,
  ⟨(some 26), .move (.t 5), (some (24, false)), 0, 7⟩,
  ⟨(some 27), .idxAddr 6 (.t 25) (.t 26), (some (24, false)), 0, 31⟩,
  ⟨(some 28), .fieldAddr 0 (.t 27), (some (24, false)), 0, 63⟩,
  ⟨(some 29), .load false 1 (.t 28), (some (24, false)), 0, 127⟩,
  ⟨(some 30), .bin .eql (.t 29) (.c (.int .i64 0)), (some (24, false)), 0, 255⟩,
  ⟨(some 31), .move (.t 30), (some (24, false)), 0, 511⟩,
  ⟨(some 32), .move (.t 5), (some (31, true)), 0, 1023⟩,
  ⟨(some 33), .move (.t 0), (some (31, true)), 0, 1023⟩,
  ⟨(some 34), .len 1 (.t 33), (some (31, true)), 0, 3071⟩,
  ⟨(some 35), .bin .sub (.t 34) (.c (.int .i64 1)), (some (31, true)), 0, 7167⟩,
  ⟨(some 36), .bin .lss (.t 32) (.t 35), (some (31, true)), 0, 16383⟩,
  ⟨(some 37), .pick (.t 31) (.t 36) (.c (.bool false)), (some (24, false)), 0, 32767⟩,
  ⟨(some 38), .pick (.t 24) (.c (.bool true)) (.t 37), none, 0, 65535⟩]
def f12r6 : List AOper := [
  ⟨(some 2), .move (.c (.str [])), none, 0, 0⟩,
  ⟨(some 3), .move (.c (.int .i64 2)), none, 0, 1⟩]
def f12r7 : List AOper := [
  ⟨(some 39), .move (.t 5), none, 0, 0⟩,
  ⟨(some 40), .bin .gtr (.t 39) (.c (.int .i64 0)), none, 0, 1⟩]
def f12r8 : List AOper := [
  ⟨(some 41), .move (.t 4), none, 0, 0⟩,
  ⟨(some 42), .buildSlice true 1 1 [(.int .u8 0)] [(0, 1, (.c (.int .u8 32)))], none, 0, 0⟩,
  ⟨(some 43), .append true 1 1 (.t 41) (.t 42), none, 0, 3⟩,
  ⟨(some 4), .move (.t 43), none, 1, 7⟩]
def f12r9 : List AOper := [
  ⟨(some 44), .move (.t 4), none, 0, 0⟩,
  ⟨(some 45), .move (.t 6), none, 0, 0⟩,
  ⟨(some 46), .append true 1 1 (.t 44) (.t 45), none, 0, 3⟩,
  ⟨(some 4), .move (.t 46), none, 1, 7⟩]
def f12r10 : List AOper := [
  ⟨(some 12), .move (.t 5), none, 0, 0⟩,
  ⟨(some 13), .bin .add (.t 12) (.c (.int .i64 1)), none, 0, 1⟩,
  ⟨(some 5), .move (.t 13), none, 0, 3⟩]
def f12m3 : ACode :=
  .seq (.seq (.region false f12r3 [0, 4, 5, 11] 0)
  (.cond (.t 11)
    (.skip)
    (.exit 0)))
  (.seq (.block 1 (.seq (.region false f12r4 [0, 4, 5, 6, 7] 0)
    (.seq (.seq (.region false f12r5 [0, 4, 5, 6, 38] 0)
    (.cond (.t 38)
      (.seq (.region false f12r6 [2, 3] 0)
      (.ret))
      (.skip)))
    (.seq (.seq (.region false f12r7 [0, 4, 5, 6, 40] 0)
    (.cond (.t 40)
      (.region false f12r8 [0, 4, 5, 6] 1)
      (.skip)))
    (.region false f12r9 [0, 4, 5] 1)))))
  (.region false f12r10 [0, 4, 5] 0))
def f12l3 : ACode := f12m3
theorem f12l3_b {A : Tab} {nt : Nat} {e : Env} {h : Heap} : Brun A nt f12l3 e h = Brun A nt f12m3 e h := rfl
def f12r11 : List AOper := [
  ⟨(some 47), .move (.t 4), none, 0, 0⟩,
  ⟨(some 48), .toStr (.t 47), none, 0, 1⟩,
  ⟨(some 2), .move (.t 48), none, 0, 3⟩,
  ⟨(some 3), .move (.c (.int .i64 0)), none, 0, 7⟩]
def f12c : ACode :=
  .seq (.region false f12r0 [0] 0)
  (.seq (.region false f12r1 [0, 4] 0)
  (.seq (.seq (.region false f12r2 [0, 4, 5] 0)
  (.block 0 (.loop f12l3)))
  (.seq (.region false f12r11 [2, 3] 0)
  (.ret))))
def f12 : AFn := ⟨1, 49, [.tmp 2, .tmp 3], f12c, 1, none⟩
def f12k : List (Nat × List Nat) := [(0, [0]), (1, [0, 4]), (2, [0, 4, 5]), (3, [0, 4, 5, 11]), (5, [0, 4, 5, 6, 7]), (6, [0, 4, 5, 6, 38]), (7, [2, 3]), (8, [0, 4, 5, 6, 40]), (9, [0, 4, 5, 6]), (10, [0, 4, 5]), (4, [0, 4, 5]), (11, [2, 3])]
def f12v : List Nat := [48, 46, 43, 42]

/-! 13: mortise/mortiselaw02.num, parameters [23], results [3] -/
def f13r0 : List AOper := [
  ⟨(some 2), .move (.c (.int .i64 0)), none, 0, 0⟩]
def f13r1 : List AOper := [
  ⟨(some 3), .move (.t 0), none, 0, 0⟩,
  ⟨(some 2), .move (.t 3), none, 0, 1⟩]
def f13c : ACode :=
  .seq (.region false f13r0 [0] 0)
  (.seq (.region false f13r1 [2] 0)
  (.ret))
def f13 : AFn := ⟨1, 4, [.tmp 2], f13c, 1, none⟩
def f13k : List (Nat × List Nat) := [(0, [0]), (1, [2])]
def f13v : List Nat := []

/-! 14: mortise/token.space, parameters [9, 3], results [3, 23] -/
def f14r0 : List AOper := [
  ⟨(some 4), .move (.c (.int .i64 0)), none, 0, 0⟩,
  ⟨(some 5), .move (.c (.int .i64 0)), none, 0, 1⟩]
def f14r1 : List AOper := [
  ⟨(some 8), .move (.t 1), none, 0, 0⟩,
  ⟨(some 9), .move (.t 0), none, 0, 0⟩,
  ⟨(some 10), .len 0 (.t 9), none, 0, 2⟩,
  ⟨(some 11), .bin .lss (.t 8) (.t 10), none, 0, 7⟩]
def f14r2 : List AOper := [
  ⟨(some 13), .move (.t 0), none, 0, 0⟩,
  ⟨(some 14), .move (.t 1), none, 0, 0⟩,
  ⟨(some 15), .strIndex (.t 13) (.t 14), none, 0, 3⟩,
  ⟨(some 16), .bin .eql (.t 15) (.c (.int .u8 32)), none, 0, 7⟩,
  ⟨(some 17), .move (.t 16), none, 0, 15⟩,
  ⟨(some 18), .move (.t 0), (some (17, false)), 0, 31⟩,
  ⟨(some 19), .move (.t 1), (some (17, false)), 0, 31⟩,
  ⟨(some 20), .strIndex (.t 18) (.t 19), (some (17, false)), 0, 127⟩,
  ⟨(some 21), .bin .geq (.t 20) (.c (.int .u8 9)), (some (17, false)), 0, 255⟩,
  ⟨(some 22), .move (.t 21), (some (17, false)), 0, 511⟩,
  ⟨(some 23), .move (.t 0), (some (22, true)), 0, 1023⟩,
  ⟨(some 24), .move (.t 1), (some (22, true)), 0, 1023⟩,
  ⟨(some 25), .strIndex (.t 23) (.t 24), (some (22, true)), 0, 4095⟩,
  ⟨(some 26), .bin .leq (.t 25) (.c (.int .u8 13)), (some (22, true)), 0, 8191⟩,
  ⟨(some 27), .pick (.t 22) (.t 26) (.c (.bool false)), (some (17, false)), 0, 16383⟩,
  ⟨(some 28), .pick (.t 17) (.c (.bool true)) (.t 27), none, 0, 32767⟩,
  ⟨(some 12), .move (.t 28), none, 0, 65535⟩]
def f14r3 : List AOper := [
  ⟨(some 29), .move (.t 1), none, 0, 0⟩,
  ⟨(some 30), .bin .add (.t 29) (.c (.int .i64 1)), none, 0, 1⟩,
  ⟨(some 1), .move (.t 30), none, 0, 3⟩]
def f14r4 : List AOper := [
  ⟨(some 32), .move (.t 0), none, 0, 0⟩,
  ⟨(some 33), .move (.t 1), none, 0, 0⟩,
  ⟨(some 34), .strSlice (.t 32) (some (.t 33)) none, none, 0, 3⟩,
  ⟨(some 35), .call (.c (.fn 28 [] [])) [(.t 34), (.c (.str [47, 47]))], none, 0, 7⟩,
  ⟨(some 31), .move (.t 35), none, 0, 15⟩]
def f14r5 : List AOper := [
  ⟨(some 36), .move (.t 0), none, 0, 0⟩,
  ⟨(some 37), .move (.t 1), none, 0, 0⟩,
  ⟨(some 38), .strSlice (.t 36) (some (.t 37)) none, none, 0, 3⟩,
  ⟨(some 39), .call (.c (.fn 29 [] [])) [(.t 38), (.c (.int .u8 10))], none, 0, 7⟩,
  ⟨(some 6), .move (.t 39), none, 0, 15⟩]
def f14r6 : List AOper := [
  ⟨(some 40), .move (.t 6), none, 0, 0⟩,
  ⟨(some 41), .bin .lss (.t 40) (.c (.int .i64 0)), none, 0, 1⟩]
def f14r7 : List AOper := [
  ⟨(some 42), .move (.t 0), none, 0, 0⟩,
  ⟨(some 43), .len 0 (.t 42), none, 0, 1⟩,
  ⟨(some 4), .move (.t 43), none, 0, 3⟩,
  ⟨(some 5), .move (.c (.int .i64 0)), none, 0, 7⟩]
def f14r8 : List AOper := [
  ⟨(some 44), .move (.t 1), none, 0, 0⟩,
  ⟨(some 45), .move (.t 6), none, 0, 0⟩,
  ⟨(some 46), .bin .add (.t 44) (.t 45), none, 0, 3⟩,
  ⟨(some 1), .move (.t 46), none, 0, 7⟩]
def f14r9 : List AOper := [
  ⟨(some 48), .move (.t 0), none, 0, 0⟩,
  ⟨(some 49), .move (.t 1), none, 0, 0⟩,
  ⟨(some 50), .strSlice (.t 48) (some (.t 49)) none, none, 0, 3⟩,
  ⟨(some 51), .call (.c (.fn 28 [] [])) [(.t 50), (.c (.str [47, 42]))], none, 0, 7⟩,
  ⟨(some 47), .move (.t 51), none, 0, 15⟩]
def f14r10 : List AOper := [
  ⟨(some 52), .move (.t 0), none, 0, 0⟩,
  ⟨(some 53), .move (.t 1), none, 0, 0⟩,
  ⟨(some 54), .bin .add (.t 53) (.c (.int .i64 2)), none, 0, 2⟩,
  ⟨(some 55), .strSlice (.t 52) (some (.t 54)) none, none, 0, 7⟩,
  ⟨(some 56), .call (.c (.fn 30 [] [])) [(.t 55), (.c (.str [42, 47]))], none, 0, 15⟩,
  ⟨(some 7), .move (.t 56), none, 0, 31⟩]
def f14r11 : List AOper := [
  ⟨(some 57), .move (.t 7), none, 0, 0⟩,
  ⟨(some 58), .bin .lss (.t 57) (.c (.int .i64 0)), none, 0, 1⟩]
def f14r12 : List AOper := [
  ⟨(some 59), .move (.t 1), none, 0, 0⟩,
  ⟨(some 4), .move (.t 59), none, 0, 1⟩,
  ⟨(some 5), .move (.c (.int .i64 25)), none, 0, 3⟩]
def f14r13 : List AOper := [
  ⟨(some 60), .move (.t 1), none, 0, 0⟩,
  ⟨(some 61), .move (.t 7), none, 0, 0⟩,
  ⟨(some 62), .bin .add (.t 61) (.c (.int .i64 4)), none, 0, 2⟩,
  ⟨(some 63), .bin .add (.t 60) (.t 62), none, 0, 7⟩,
  ⟨(some 1), .move (.t 63), none, 0, 15⟩]
def f14m1 : ACode :=
  .seq (.seq (.region false f14r1 [0, 1, 11] 0)
  (.cond (.t 11)
    (.skip)
    (.exit 0)))
  (.block 1 (.block 2 (.seq (.region false f14r2 [0, 1, 12] 0)
      (.cond (.t 12)
        (.region false f14r3 [0, 1] 0)
        (.seq (.region false f14r4 [0, 1, 31] 0)
        (.cond (.t 31)
          (.seq (.region false f14r5 [0, 1, 6] 0)
          (.seq (.seq (.region false f14r6 [0, 1, 6, 41] 0)
          (.cond (.t 41)
            (.seq (.region false f14r7 [4, 5] 0)
            (.ret))
            (.skip)))
          (.region false f14r8 [0, 1] 0)))
          (.seq (.region false f14r9 [0, 1, 47] 0)
          (.cond (.t 47)
            (.seq (.region false f14r10 [0, 1, 7] 0)
            (.seq (.seq (.region false f14r11 [0, 1, 7, 58] 0)
            (.cond (.t 58)
              (.seq (.region false f14r12 [4, 5] 0)
              (.ret))
              (.skip)))
            (.region false f14r13 [0, 1] 0)))
            (.exit 0)))))))))
def f14l1 : ACode := f14m1
theorem f14l1_b {A : Tab} {nt : Nat} {e : Env} {h : Heap} : Brun A nt f14l1 e h = Brun A nt f14m1 e h := rfl
def f14r14 : List AOper := [
  ⟨(some 64), .move (.t 1), none, 0, 0⟩,
  ⟨(some 4), .move (.t 64), none, 0, 1⟩,
  ⟨(some 5), .move (.c (.int .i64 0)), none, 0, 3⟩]
def f14c : ACode :=
  .seq (.region false f14r0 [0, 1] 0)
  (.seq (.skip)
  (.seq (.block 0 (.loop f14l1))
  (.seq (.region false f14r14 [4, 5] 0)
  (.ret))))
def f14 : AFn := ⟨2, 65, [.tmp 4, .tmp 5], f14c, 1, none⟩
def f14k : List (Nat × List Nat) := [(0, [0, 1]), (1, [0, 1, 11]), (2, [0, 1, 12]), (4, [0, 1, 31]), (9, [0, 1, 47]), (10, [0, 1, 7]), (11, [0, 1, 7, 58]), (12, [4, 5]), (13, [0, 1]), (5, [0, 1, 6]), (6, [0, 1, 6, 41]), (7, [4, 5]), (8, [0, 1]), (3, [0, 1]), (14, [4, 5])]
def f14v : List Nat := []

/-! 15: (*mortise/token.spotter).to, parameters [44, 3], results [25] -/
def f15r0 : List AOper := [
  ⟨(some 4), .alloc false [(.int .i64 0), (.int .i64 0), (.int .i64 0)], none, 0, 0⟩]
def f15r1 : List AOper := [
  ⟨(some 5), .move (.t 0), none, 0, 0⟩,
  ⟨(some 6), .nilCheck (.t 5), none, 0, 1⟩,
  ⟨(some 7), .fieldAddr 1 (.t 6), none, 0, 3⟩,
  ⟨(some 8), .fieldAddr 2 (.t 7), none, 0, 7⟩,
  ⟨(some 9), .load false 1 (.t 8), none, 0, 15⟩,
  ⟨(some 10), .move (.t 1), none, 0, 0⟩,
  ⟨(some 11), .bin .lss (.t 9) (.t 10), none, 0, 63⟩]
def f15r2 : List AOper := [
  ⟨(some 12), .move (.t 0), none, 0, 0⟩,
  ⟨(some 13), .nilCheck (.t 12), none, 0, 1⟩,
  ⟨(some 14), .fieldAddr 1 (.t 13), none, 0, 3⟩,
  ⟨(some 15), .fieldAddr 1 (.t 14), none, 0, 7⟩,
  ⟨(some 16), .load false 1 (.t 15), none, 0, 15⟩,
  ⟨(some 17), .bin .add (.t 16) (.c (.int .i64 1)), none, 0, 31⟩,
  ⟨(some 18), .nilCheck (.t 12), none, 0, 63⟩,
  ⟨(some 19), .fieldAddr 1 (.t 18), none, 0, 127⟩,
  ⟨(some 20), .fieldAddr 1 (.t 19), none, 0, 255⟩,
  ⟨none, .store 1 (.t 20) (.t 17), none, 0, 511⟩]
def f15q3 : List AOper := [
  ⟨(some 21), .move (.t 0), none, 0, 0⟩,
  ⟨(some 22), .nilCheck (.t 21), none, 0, 1⟩,
  ⟨(some 23), .fieldAddr 0 (.t 22), none, 0, 3⟩,
  ⟨(some 24), .load false 1 (.t 23), none, 0, 7⟩,
  ⟨(some 25), .move (.t 0), none, 0, 0⟩,
  ⟨(some 26), .nilCheck (.t 25), none, 0, 16⟩,
  ⟨(some 27), .fieldAddr 1 (.t 26), none, 0, 48⟩,
  ⟨(some 28), .fieldAddr 2 (.t 27), none, 0, 112⟩,
  ⟨(some 29), .load false 1 (.t 28), none, 0, 240⟩,
  ⟨(some 30), .strIndex (.t 24) (.t 29), none, 0, 511⟩,
  ⟨(some 31), .bin .eql (.t 30) (.c (.int .u8 10)), none, 0, 1023⟩]
def f15r3 : List AOper := f15q3
def f15r4 : List AOper := [
  ⟨(some 32), .move (.t 0), none, 0, 0⟩,
  ⟨(some 33), .move (.t 0), none, 0, 0⟩,
  ⟨(some 34), .move (.t 0), none, 0, 0⟩,
  ⟨(some 35), .nilCheck (.t 34), none, 0, 4⟩,
  ⟨(some 36), .fieldAddr 1 (.t 35), none, 0, 12⟩,
  ⟨(some 37), .fieldAddr 0 (.t 36), none, 0, 28⟩,
  ⟨(some 38), .load false 1 (.t 37), none, 0, 60⟩,
  ⟨(some 39), .bin .add (.t 38) (.c (.int .i64 1)), none, 0, 124⟩,
  ⟨(some 40), .nilCheck (.t 32), none, 0, 253⟩,
  ⟨(some 41), .fieldAddr 1 (.t 40), none, 0, 509⟩,
  ⟨(some 42), .fieldAddr 0 (.t 41), none, 0, 1021⟩,
  ⟨none, .store 1 (.t 42) (.t 39), none, 0, 2045⟩,
  ⟨(some 43), .nilCheck (.t 33), none, 0, 4095⟩,
  ⟨(some 44), .fieldAddr 1 (.t 43), none, 0, 8191⟩,
  ⟨(some 45), .fieldAddr 1 (.t 44), none, 0, 16383⟩,
  ⟨none, .store 1 (.t 45) (.c (.int .i64 1)), none, 0, 32767⟩]
def f15r5 : List AOper := [
  ⟨(some 46), .move (.t 0), none, 0, 0⟩,
  ⟨(some 47), .nilCheck (.t 46), none, 0, 1⟩,
  ⟨(some 48), .fieldAddr 1 (.t 47), none, 0, 3⟩,
  ⟨(some 49), .fieldAddr 2 (.t 48), none, 0, 7⟩,
  ⟨(some 50), .load false 1 (.t 49), none, 0, 15⟩,
  ⟨(some 51), .bin .add (.t 50) (.c (.int .i64 1)), none, 0, 31⟩,
  ⟨(some 52), .nilCheck (.t 46), none, 0, 63⟩,
  ⟨(some 53), .fieldAddr 1 (.t 52), none, 0, 127⟩,
  ⟨(some 54), .fieldAddr 2 (.t 53), none, 0, 255⟩,
  ⟨none, .store 1 (.t 54) (.t 51), none, 0, 511⟩]
def f15m1 : ACode :=
  .seq (.seq (.region false f15r1 [0, 1, 4, 11] 0)
  (.cond (.t 11)
    (.skip)
    (.exit 0)))
  (.block 1 (.seq (.region false f15r2 [0, 1, 4] 0)
    (.seq (.seq (.region true f15r3 [0, 1, 4, 31] 0)
    (.cond (.t 31)
      (.region false f15r4 [0, 1, 4] 0)
      (.skip)))
    (.region false f15r5 [0, 1, 4] 0))))
def f15l1 : ACode := f15m1
theorem f15l1_b {A : Tab} {nt : Nat} {e : Env} {h : Heap} : Brun A nt f15l1 e h = Brun A nt f15m1 e h := rfl
def f15r6 : List AOper := [
  ⟨(some 55), .move (.t 0), none, 0, 0⟩,
  ⟨(some 56), .nilCheck (.t 55), none, 0, 1⟩,
  ⟨(some 57), .fieldAddr 1 (.t 56), none, 0, 3⟩,
  ⟨(some 58), .load true 3 (.t 57), none, 0, 7⟩,
  ⟨none, .store 3 (.t 4) (.t 58), none, 0, 15⟩]
theorem f15r3_s : staticOK 0 f15r3 = true := by rfl
theorem f15r3_w {A : Tab} {nt : Nat} {keep : List Nat} {n : Nat} {e : Env} {h : Heap} (hr : (bkeep keep (stepsF nt (stepF A true) h.length f15r3 e (h ++ List.replicate n .free))).isSome = true) : Brun A nt (.region true f15r3 keep n) e h = bkeep keep (stepsF nt (stepF A true) h.length f15r3 e (h ++ List.replicate n .free)) := Brun_drawnS f15r3_s hr
theorem f15r3_u (nt base : Nat) (step : Nat → AOp → Env → Heap → Option (AV × Heap)) (e : Env) (h : Heap) : stepsF nt step base f15r3 e h = stepsF nt step base f15q3 e h := rfl
def f15c : ACode :=
  .seq (.region false f15r0 [0, 1, 4] 1)
  (.seq (.block 0 (.loop f15l1))
  (.seq (.region false f15r6 [4] 0)
  (.ret)))
def f15 : AFn := ⟨2, 59, [.cell 4 true 3], f15c, 1, none⟩
def f15k : List (Nat × List Nat) := [(0, [0, 1, 4]), (1, [0, 1, 4, 11]), (2, [0, 1, 4]), (3, [0, 1, 4, 31]), (4, [0, 1, 4]), (5, [0, 1, 4]), (6, [4])]
def f15v : List Nat := []

/-! 16: mortise/token.one, parameters [9], results [35, 3, 23] -/
def f16r0 : List AOper := [
  ⟨(some 2), .alloc false [(.int .i64 0), (.str []), (.int .i64 0), (.int .i64 0), (.int .i64 0), (.int .i64 0)], none, 0, 0⟩,
  ⟨(some 3), .move (.c (.int .i64 0)), none, 1, 0⟩,
  ⟨(some 4), .move (.c (.int .i64 0)), none, 1, 2⟩]
def f16r1 : List AOper := [
  ⟨(some 14), .move (.t 0), none, 0, 0⟩,
  ⟨(some 15), .strIndex (.t 14) (.c (.int .i64 0)), none, 0, 1⟩,
  ⟨(some 5), .move (.t 15), none, 0, 3⟩]
def f16r2 : List AOper := [
  ⟨(some 17), .move (.t 5), none, 0, 0⟩,
  ⟨(some 18), .call (.c (.fn 31 [] [])) [(.t 17)], none, 0, 1⟩,
  ⟨(some 16), .move (.t 18), none, 0, 3⟩]
def f16r3 : List AOper := [
  ⟨(some 19), .move (.t 0), none, 0, 0⟩,
  ⟨(some 20), .call (.c (.fn 32 [] [])) [(.t 19), (.c (.fn 33 [] []))], none, 0, 1⟩,
  ⟨(some 6), .move (.t 20), none, 0, 3⟩]
def f16r4 : List AOper := [
  ⟨(some 22), .move (.t 6), none, 0, 0⟩,
  ⟨(some 23), .bin .gtr (.t 22) (.c (.int .i64 63)), none, 0, 1⟩,
  ⟨(some 21), .move (.t 23), none, 0, 3⟩]
def f16r5 : List AOper := [
  ⟨(some 24), .build [(.int .i64 0), (.str []), (.int .i64 0), (.int .i64 0), (.int .i64 0), (.int .i64 0)] [], none, 0, 0⟩,
  ⟨none, .store 6 (.t 2) (.t 24), none, 0, 1⟩,
  ⟨(some 3), .move (.c (.int .i64 0)), none, 0, 3⟩,
  ⟨(some 4), .move (.c (.int .i64 22)), none, 0, 7⟩]
def f16r6 : List AOper := [
  ⟨(some 26), .move (.t 0), none, 0, 0⟩,
  ⟨(some 27), .move (.t 6), none, 0, 0⟩,
  ⟨(some 28), .strSlice (.t 26) none (some (.t 27)), none, 0, 3⟩,
  ⟨(some 29), .call (.c (.fn 34 [] [])) [(.t 28)], none, 0, 7⟩,
  ⟨(some 25), .move (.t 29), none, 0, 15⟩]
def f16r7 : List AOper := [
  ⟨(some 30), .move (.t 0), none, 0, 0⟩,
  ⟨(some 31), .move (.t 6), none, 0, 0⟩,
  ⟨(some 32), .strSlice (.t 30) none (some (.t 31)), none, 0, 3⟩,
  ⟨(some 33), .build [(.int .i64 0), (.str []), (.int .i64 0), (.int .i64 0), (.int .i64 0), (.int .i64 0)] [(0, 1, (.c (.int .i64 2))), (1, 1, (.t 32))], none, 0, 7⟩,
  ⟨(some 34), .move (.t 6), none, 0, 0⟩,
  ⟨none, .store 6 (.t 2) (.t 33), none, 0, 15⟩,
  ⟨(some 3), .move (.t 34), none, 0, 63⟩,
  ⟨(some 4), .move (.c (.int .i64 0)), none, 0, 127⟩]
def f16r8 : List AOper := [
  ⟨(some 35), .move (.t 0), none, 0, 0⟩,
  ⟨(some 36), .move (.t 6), none, 0, 0⟩,
  ⟨(some 37), .strSlice (.t 35) none (some (.t 36)), none, 0, 3⟩,
  ⟨(some 38), .build [(.int .i64 0), (.str []), (.int .i64 0), (.int .i64 0), (.int .i64 0), (.int .i64 0)] [(0, 1, (.c (.int .i64 1))), (1, 1, (.t 37))], none, 0, 7⟩,
  ⟨(some 39), .move (.t 6), none, 0, 0⟩,
  ⟨none, .store 6 (.t 2) (.t 38), none, 0, 15⟩,
  ⟨(some 3), .move (.t 39), none, 0, 63⟩,
  ⟨(some 4), .move (.c (.int .i64 0)), none, 0, 127⟩]
def f16r9 : List AOper := [
  ⟨(some 41), .move (.t 5), none, 0, 0⟩,
  ⟨(some 42), .call (.c (.fn 35 [] [])) [(.t 41)], none, 0, 1⟩,
  ⟨(some 40), .move (.t 42), none, 0, 3⟩]
def f16r10 : List AOper := [
  ⟨(some 43), .move (.t 0), none, 0, 0⟩,
  ⟨(some 44), .call (.c (.fn 32 [] [])) [(.t 43), (.c (.fn 33 [] []))], none, 0, 1⟩,
  ⟨(some 7), .move (.t 44), none, 0, 3⟩]
def f16r11 : List AOper := [
  ⟨(some 46), .move (.t 0), none, 0, 0⟩,
  ⟨(some 47), .move (.t 7), none, 0, 0⟩,
  ⟨(some 48), .strSlice (.t 46) none (some (.t 47)), none, 0, 3⟩,
  ⟨(some 49), .call (.c (.fn 36 [] [])) [(.t 48)], none, 0, 7⟩,
  ⟨(some 45), .move (.t 49), none, 0, 15⟩,
  ⟨(some 50), .extract (.t 45) 0, none, 0, 31⟩,
  ⟨(some 51), .extract (.t 45) 1, none, 0, 31⟩,
  ⟨(some 8), .alloc false [(.int .i64 0), (.str []), (.int .i64 0), (.int .i64 0), (.int .i64 0), (.int .i64 0)], none, 0, 0⟩,
  ⟨none, .store 6 (.t 8) (.t 50), none, 1, 191⟩,
  ⟨(some 9), .move (.t 51), none, 1, 511⟩]
def f16r12 : List AOper := [
  ⟨(some 52), .move (.t 9), none, 0, 0⟩,
  ⟨(some 53), .un .not (.t 52), none, 0, 1⟩]
def f16r13 : List AOper := [
  ⟨(some 54), .build [(.int .i64 0), (.str []), (.int .i64 0), (.int .i64 0), (.int .i64 0), (.int .i64 0)] [], none, 0, 0⟩,
  ⟨none, .store 6 (.t 2) (.t 54), none, 0, 1⟩,
  ⟨(some 3), .move (.c (.int .i64 0)), none, 0, 3⟩,
  ⟨(some 4), .move (.c (.int .i64 21)), none, 0, 7⟩]
def f16r14 : List AOper := [
  ⟨(some 55), .load true 6 (.t 8), none, 0, 0⟩,
  ⟨(some 56), .move (.t 7), none, 0, 0⟩,
  ⟨none, .store 6 (.t 2) (.t 55), none, 0, 1⟩,
  ⟨(some 3), .move (.t 56), none, 0, 7⟩,
  ⟨(some 4), .move (.c (.int .i64 0)), none, 0, 15⟩]
def f16r15 : List AOper := [
  ⟨(some 58), .move (.t 5), none, 0, 0⟩,
  ⟨(some 59), .bin .eql (.t 58) (.c (.int .u8 39)), none, 0, 1⟩,
  ⟨(some 60), .move (.t 59), none, 0, 3⟩,
  ⟨(some 61), .move (.t 5), (some (60, false)), 0, 7⟩,
  ⟨(some 62), .bin .eql (.t 61) (.c (.int .u8 34)), (some (60, false)), 0, 15⟩,
  ⟨(some 63), .pick (.t 60) (.c (.bool true)) (.t 62), none, 0, 31⟩,
  ⟨(some 57), .move (.t 63), none, 0, 63⟩]
def f16r16 : List AOper := [
  ⟨(some 65), .move (.t 0), none, 0, 0⟩,
  ⟨(some 66), .strSlice (.t 65) (some (.c (.int .i64 1))) none, none, 0, 1⟩,
  ⟨(some 67), .move (.t 5), none, 0, 0⟩,
  ⟨(some 68), .call (.c (.fn 37 [] [])) [(.t 66), (.t 67)], none, 0, 7⟩,
  ⟨(some 64), .move (.t 68), none, 0, 15⟩,
  ⟨(some 69), .extract (.t 64) 0, none, 0, 31⟩,
  ⟨(some 70), .extract (.t 64) 1, none, 0, 31⟩,
  ⟨(some 71), .extract (.t 64) 2, none, 0, 31⟩,
  ⟨(some 10), .move (.t 69), none, 0, 63⟩,
  ⟨(some 11), .move (.t 70), none, 0, 383⟩,
  ⟨(some 12), .move (.t 71), none, 0, 1023⟩]
def f16r17 : List AOper := [
  ⟨(some 72), .move (.t 12), none, 0, 0⟩,
  ⟨(some 73), .un .not (.t 72), none, 0, 1⟩,
  ⟨(some 74), .move (.t 73), none, 0, 3⟩,
  ⟨(some 75), .move (.t 5), (some (74, false)), 0, 7⟩,
  ⟨(some 76), .bin .eql (.t 75) (.c (.int .u8 39)), (some (74, false)), 0, 15⟩,
  ⟨(some 77), .move (.t 76), (some (74, false)), 0, 31⟩,
  ⟨(some 78), .move (.t 10), (some (77, true)), 0, 63⟩,
  ⟨(some 79), .len 1 (.t 78), (some (77, true)), 0, 127⟩,
  ⟨(some 80), .bin .neq (.t 79) (.c (.int .i64 1)), (some (77, true)), 0, 255⟩,
  ⟨(some 81), .pick (.t 77) (.t 80) (.c (.bool false)), (some (74, false)), 0, 511⟩,
  ⟨(some 82), .pick (.t 74) (.c (.bool true)) (.t 81), none, 0, 1023⟩]
def f16r18 : List AOper := [
  ⟨(some 83), .build [(.int .i64 0), (.str []), (.int .i64 0), (.int .i64 0), (.int .i64 0), (.int .i64 0)] [], none, 0, 0⟩,
  ⟨none, .store 6 (.t 2) (.t 83), none, 0, 1⟩,
  ⟨(some 3), .move (.c (.int .i64 0)), none, 0, 3⟩,
  ⟨(some 4), .move (.c (.int .i64 26)), none, 0, 7⟩]
def f16r19 : List AOper := [
  ⟨(some 84), .move (.t 5), none, 0, 0⟩,
  ⟨(some 85), .bin .eql (.t 84) (.c (.int .u8 34)), none, 0, 1⟩]
def f16r20 : List AOper := [
  ⟨(some 86), .move (.t 10), none, 0, 0⟩,
  ⟨(some 87), .toStr (.t 86), none, 0, 1⟩,
  ⟨(some 88), .build [(.int .i64 0), (.str []), (.int .i64 0), (.int .i64 0), (.int .i64 0), (.int .i64 0)] [(0, 1, (.c (.int .i64 5))), (1, 1, (.t 87))], none, 0, 3⟩,
  ⟨(some 89), .move (.t 11), none, 0, 0⟩,
  ⟨(some 90), .bin .add (.t 89) (.c (.int .i64 1)), none, 0, 8⟩,
  ⟨none, .store 6 (.t 2) (.t 88), none, 0, 7⟩,
  ⟨(some 3), .move (.t 90), none, 0, 63⟩,
  ⟨(some 4), .move (.c (.int .i64 0)), none, 0, 127⟩]
def f16r21 : List AOper := [
  ⟨(some 91), .move (.t 10), none, 0, 0⟩,
  ⟨(some 92), .idxAddr 1 (.t 91) (.c (.int .i64 0)), none, 0, 1⟩,
  ⟨(some 93), .load false 1 (.t 92), none, 0, 3⟩,
  ⟨(some 94), .conv .i8 (.t 93), none, 0, 7⟩,
  ⟨(some 95), .conv .i64 (.t 94), none, 0, 15⟩,
  ⟨(some 96), .build [(.int .i64 0), (.str []), (.int .i64 0), (.int .i64 0), (.int .i64 0), (.int .i64 0)] [(0, 1, (.c (.int .i64 4))), (2, 1, (.t 95))], none, 0, 31⟩,
  ⟨(some 97), .move (.t 11), none, 0, 0⟩,
  ⟨(some 98), .bin .add (.t 97) (.c (.int .i64 1)), none, 0, 64⟩,
  ⟨none, .store 6 (.t 2) (.t 96), none, 0, 63⟩,
  ⟨(some 3), .move (.t 98), none, 0, 511⟩,
  ⟨(some 4), .move (.c (.int .i64 0)), none, 0, 1023⟩]
def f16r22 : List AOper := [
  ⟨(some 99), .move (.t 0), none, 0, 0⟩,
  ⟨(some 100), .call (.c (.fn 38 [] [])) [(.t 99)], none, 0, 1⟩,
  ⟨(some 13), .move (.t 100), none, 0, 3⟩]
def f16r23 : List AOper := [
  ⟨(some 101), .move (.t 13), none, 0, 0⟩,
  ⟨(some 102), .bin .eql (.t 101) (.c (.str [])), none, 0, 1⟩]
def f16r24 : List AOper := [
  ⟨(some 103), .build [(.int .i64 0), (.str []), (.int .i64 0), (.int .i64 0), (.int .i64 0), (.int .i64 0)] [], none, 0, 0⟩,
  ⟨none, .store 6 (.t 2) (.t 103), none, 0, 1⟩,
  ⟨(some 3), .move (.c (.int .i64 0)), none, 0, 3⟩,
  ⟨(some 4), .move (.c (.int .i64 20)), none, 0, 7⟩]
def f16r25 : List AOper := [
  ⟨(some 104), .move (.t 13), none, 0, 0⟩,
  ⟨(some 105), .build [(.int .i64 0), (.str []), (.int .i64 0), (.int .i64 0), (.int .i64 0), (.int .i64 0)] [(0, 1, (.c (.int .i64 6))), (1, 1, (.t 104))], none, 0, 1⟩,
  ⟨(some 106), .move (.t 13), none, 0, 0⟩,
  ⟨(some 107), .len 0 (.t 106), none, 0, 4⟩,
  ⟨none, .store 6 (.t 2) (.t 105), none, 0, 3⟩,
  ⟨(some 3), .move (.t 107), none, 0, 31⟩,
  ⟨(some 4), .move (.c (.int .i64 0)), none, 0, 63⟩]
def f16c : ACode :=
  .seq (.region false f16r0 [0, 2] 1)
  (.seq (.seq (.region false f16r1 [0, 2, 5] 0)
  (.block 0 (.seq (.region false f16r2 [0, 2, 5, 16] 0)
    (.cond (.t 16)
      (.seq (.region false f16r3 [0, 2, 6] 0)
      (.seq (.block 1 (.seq (.region false f16r4 [0, 2, 6, 21] 0)
        (.cond (.t 21)
          (.seq (.region false f16r5 [2, 3, 4] 0)
          (.ret))
          (.seq (.region false f16r6 [0, 2, 6, 25] 0)
          (.cond (.t 25)
            (.seq (.region false f16r7 [2, 3, 4] 0)
            (.ret))
            (.skip))))))
      (.seq (.region false f16r8 [2, 3, 4] 0)
      (.ret))))
      (.seq (.region false f16r9 [0, 2, 5, 40] 0)
      (.cond (.t 40)
        (.seq (.region false f16r10 [0, 2, 7] 0)
        (.seq (.region false f16r11 [2, 7, 8, 9] 1)
        (.seq (.seq (.region false f16r12 [2, 7, 8, 53] 0)
        (.cond (.t 53)
          (.seq (.region false f16r13 [2, 3, 4] 0)
          (.ret))
          (.skip)))
        (.seq (.region false f16r14 [2, 3, 4] 0)
        (.ret)))))
        (.seq (.region false f16r15 [0, 2, 5, 57] 0)
        (.cond (.t 57)
          (.seq (.region false f16r16 [2, 5, 10, 11, 12] 0)
          (.seq (.seq (.region false f16r17 [2, 5, 10, 11, 82] 0)
          (.cond (.t 82)
            (.seq (.region false f16r18 [2, 3, 4] 0)
            (.ret))
            (.skip)))
          (.seq (.seq (.region false f16r19 [2, 10, 11, 85] 0)
          (.cond (.t 85)
            (.seq (.region false f16r20 [2, 3, 4] 0)
            (.ret))
            (.skip)))
          (.seq (.region false f16r21 [2, 3, 4] 0)
          (.ret)))))
          (.skip)))))))))
  (.seq (.region false f16r22 [2, 13] 0)
  (.seq (.seq (.region false f16r23 [2, 13, 102] 0)
  (.cond (.t 102)
    (.seq (.region false f16r24 [2, 3, 4] 0)
    (.ret))
    (.skip)))
  (.seq (.region false f16r25 [2, 3, 4] 0)
  (.ret)))))
def f16 : AFn := ⟨1, 108, [.cell 2 true 6, .tmp 3, .tmp 4], f16c, 1, none⟩
def f16k : List (Nat × List Nat) := [(0, [0, 2]), (1, [0, 2, 5]), (2, [0, 2, 5, 16]), (9, [0, 2, 5, 40]), (15, [0, 2, 5, 57]), (16, [2, 5, 10, 11, 12]), (17, [2, 5, 10, 11, 82]), (18, [2, 3, 4]), (19, [2, 10, 11, 85]), (20, [2, 3, 4]), (21, [2, 3, 4]), (10, [0, 2, 7]), (11, [2, 7, 8, 9]), (12, [2, 7, 8, 53]), (13, [2, 3, 4]), (14, [2, 3, 4]), (3, [0, 2, 6]), (4, [0, 2, 6, 21]), (6, [0, 2, 6, 25]), (7, [2, 3, 4]), (5, [2, 3, 4]), (8, [2, 3, 4]), (22, [2, 13]), (23, [2, 13, 102]), (24, [2, 3, 4]), (25, [2, 3, 4])]
def f16v : List Nat := [95, 94, 87]

/-! 17: mortise/mortiseref02.skip, parameters [9, 3], results [3, 3] -/
def f17r0 : List AOper := [
  ⟨(some 4), .move (.c (.int .i64 0)), none, 0, 0⟩,
  ⟨(some 5), .move (.c (.int .i64 0)), none, 0, 1⟩]
def f17r1 : List AOper := [
  ⟨(some 8), .move (.t 1), none, 0, 0⟩,
  ⟨(some 9), .move (.t 0), none, 0, 0⟩,
  ⟨(some 10), .len 0 (.t 9), none, 0, 2⟩,
  ⟨(some 11), .bin .lss (.t 8) (.t 10), none, 0, 7⟩]
def f17r2 : List AOper := [
  ⟨(some 12), .move (.t 0), none, 0, 0⟩,
  ⟨(some 13), .move (.t 1), none, 0, 0⟩,
  ⟨(some 14), .strIndex (.t 12) (.t 13), none, 0, 3⟩,
  ⟨(some 6), .move (.t 14), none, 0, 7⟩]
def f17r3 : List AOper := [
  ⟨(some 17), .move (.t 6), none, 0, 0⟩,
  ⟨(some 18), .bin .eql (.t 17) (.c (.int .u8 32)), none, 0, 1⟩,
  ⟨(some 19), .move (.t 18), none, 0, 3⟩,
  ⟨(some 20), .move (.t 6), (some (19, false)), 0, 7⟩,
  ⟨(some 21), .bin .geq (.t 20) (.c (.int .u8 9)), (some (19, false)), 0, 15⟩,
  ⟨(some 22), .move (.t 21), (some (19, false)), 0, 31⟩,
  ⟨(some 23), .move (.t 6), (some (22, true)), 0, 63⟩,
  ⟨(some 24), .bin .leq (.t 23) (.c (.int .u8 13)), (some (22, true)), 0, 127⟩,
  ⟨(some 25), .pick (.t 22) (.t 24) (.c (.bool false)), (some (19, false)), 0, 255⟩,
  ⟨(some 26), .pick (.t 19) (.c (.bool true)) (.t 25), none, 0, 511⟩,
  ⟨(some 16), .move (.t 26), none, 0, 1023⟩]
def f17r4 : List AOper := [
  ⟨(some 27), .move (.t 1), none, 0, 0⟩,
  ⟨(some 28), .bin .add (.t 27) (.c (.int .i64 1)), none, 0, 1⟩,
  ⟨(some 1), .move (.t 28), none, 0, 3⟩]
def f17r5 : List AOper := [
  ⟨(some 30), .move (.t 0), none, 0, 0⟩,
  ⟨(some 31), .move (.t 1), none, 0, 0⟩,
  ⟨(some 32), .call (.c (.fn 39 [] [])) [(.t 30), (.t 31), (.c (.str [47, 42]))], none, 0, 3⟩,
  ⟨(some 29), .move (.t 32), none, 0, 7⟩]
def f17r6 : List AOper := [
  ⟨(some 33), .move (.t 1), none, 0, 0⟩,
  ⟨(some 34), .bin .add (.t 33) (.c (.int .i64 2)), none, 0, 1⟩,
  ⟨(some 7), .move (.t 34), none, 0, 3⟩]
def f17r7 : List AOper := [
  ⟨(some 35), .move (.t 7), none, 0, 0⟩,
  ⟨(some 36), .move (.t 0), none, 0, 0⟩,
  ⟨(some 37), .len 0 (.t 36), none, 0, 2⟩,
  ⟨(some 38), .bin .lss (.t 35) (.t 37), none, 0, 7⟩,
  ⟨(some 39), .move (.t 38), none, 0, 15⟩,
  ⟨(some 40), .move (.t 0), (some (39, true)), 0, 31⟩,
  ⟨(some 41), .move (.t 7), (some (39, true)), 0, 31⟩,
  ⟨(some 42), .call (.c (.fn 39 [] [])) [(.t 40), (.t 41), (.c (.str [42, 47]))], (some (39, true)), 0, 127⟩,
  ⟨(some 43), .un .not (.t 42), (some (39, true)), 0, 255⟩,
  ⟨(some 44), .pick (.t 39) (.t 43) (.c (.bool false)), none, 0, 511⟩]
def f17r8 : List AOper := [
  ⟨(some 45), .move (.t 7), none, 0, 0⟩,
  ⟨(some 46), .bin .add (.t 45) (.c (.int .i64 1)), none, 0, 1⟩,
  ⟨(some 7), .move (.t 46), none, 0, 3⟩]
def f17m7 : ACode :=
  .seq (.seq (.region false f17r7 [0, 1, 7, 44] 0)
  (.cond (.t 44)
    (.skip)
    (.exit 3)))
  (.block 4 (.region false f17r8 [0, 1, 7] 0))
def f17l7 : ACode := f17m7
theorem f17l7_b {A : Tab} {nt : Nat} {e : Env} {h : Heap} : Brun A nt f17l7 e h = Brun A nt f17m7 e h := rfl
def f17r9 : List AOper := [
  ⟨(some 47), .move (.t 7), none, 0, 0⟩,
  ⟨(some 48), .move (.t 0), none, 0, 0⟩,
  ⟨(some 49), .len 0 (.t 48), none, 0, 2⟩,
  ⟨(some 50), .bin .geq (.t 47) (.t 49), none, 0, 7⟩]
def f17r10 : List AOper := [
  ⟨(some 51), .move (.t 1), none, 0, 0⟩,
  ⟨(some 4), .move (.c (.int .i64 (-1))), none, 0, 0⟩,
  ⟨(some 5), .move (.t 51), none, 0, 3⟩]
def f17r11 : List AOper := [
  ⟨(some 52), .move (.t 7), none, 0, 0⟩,
  ⟨(some 53), .bin .add (.t 52) (.c (.int .i64 2)), none, 0, 1⟩,
  ⟨(some 1), .move (.t 53), none, 0, 3⟩]
def f17r12 : List AOper := [
  ⟨(some 55), .move (.t 0), none, 0, 0⟩,
  ⟨(some 56), .move (.t 1), none, 0, 0⟩,
  ⟨(some 57), .call (.c (.fn 39 [] [])) [(.t 55), (.t 56), (.c (.str [47, 47]))], none, 0, 3⟩,
  ⟨(some 54), .move (.t 57), none, 0, 7⟩]
def f17r13 : List AOper := [
  ⟨(some 58), .move (.t 1), none, 0, 0⟩,
  ⟨(some 59), .move (.t 0), none, 0, 0⟩,
  ⟨(some 60), .len 0 (.t 59), none, 0, 2⟩,
  ⟨(some 61), .bin .lss (.t 58) (.t 60), none, 0, 7⟩,
  ⟨(some 62), .move (.t 61), none, 0, 15⟩,
  ⟨(some 63), .move (.t 0), (some (62, true)), 0, 31⟩,
  ⟨(some 64), .move (.t 1), (some (62, true)), 0, 31⟩,
  ⟨(some 65), .strIndex (.t 63) (.t 64), (some (62, true)), 0, 127⟩,
  ⟨(some 66), .bin .neq (.t 65) (.c (.int .u8 10)), (some (62, true)), 0, 255⟩,
  ⟨(some 67), .pick (.t 62) (.t 66) (.c (.bool false)), none, 0, 511⟩]
def f17r14 : List AOper := [
  ⟨(some 68), .move (.t 1), none, 0, 0⟩,
  ⟨(some 69), .bin .add (.t 68) (.c (.int .i64 1)), none, 0, 1⟩,
  ⟨(some 1), .move (.t 69), none, 0, 3⟩]
def f17m13 : ACode :=
  .seq (.seq (.region false f17r13 [0, 1, 67] 0)
  (.cond (.t 67)
    (.skip)
    (.exit 5)))
  (.block 6 (.region false f17r14 [0, 1] 0))
def f17l13 : ACode := f17m13
theorem f17l13_b {A : Tab} {nt : Nat} {e : Env} {h : Heap} : Brun A nt f17l13 e h = Brun A nt f17m13 e h := rfl
def f17r15 : List AOper := [
  ⟨(some 15), .move (.t 1), none, 0, 0⟩,
  ⟨(some 4), .move (.t 15), none, 0, 1⟩,
  ⟨(some 5), .move (.c (.int .i64 0)), none, 0, 3⟩]
def f17m1 : ACode :=
  .seq (.seq (.region false f17r1 [0, 1, 11] 0)
  (.cond (.t 11)
    (.skip)
    (.exit 0)))
  (.block 1 (.seq (.region false f17r2 [0, 1, 6] 0)
    (.block 2 (.seq (.region false f17r3 [0, 1, 16] 0)
      (.cond (.t 16)
        (.region false f17r4 [0, 1] 0)
        (.seq (.region false f17r5 [0, 1, 29] 0)
        (.cond (.t 29)
          (.seq (.region false f17r6 [0, 1, 7] 0)
          (.seq (.block 3 (.loop f17l7))
          (.seq (.seq (.region false f17r9 [0, 1, 7, 50] 0)
          (.cond (.t 50)
            (.seq (.region false f17r10 [4, 5] 0)
            (.ret))
            (.skip)))
          (.region false f17r11 [0, 1] 0))))
          (.seq (.region false f17r12 [0, 1, 54] 0)
          (.cond (.t 54)
            (.block 5 (.loop f17l13))
            (.seq (.region false f17r15 [4, 5] 0)
            (.ret)))))))))))
def f17l1 : ACode := f17m1
theorem f17l1_b {A : Tab} {nt : Nat} {e : Env} {h : Heap} : Brun A nt f17l1 e h = Brun A nt f17m1 e h := rfl
def f17r16 : List AOper := [
  ⟨(some 70), .move (.t 1), none, 0, 0⟩,
  ⟨(some 4), .move (.t 70), none, 0, 1⟩,
  ⟨(some 5), .move (.c (.int .i64 0)), none, 0, 3⟩]
def f17c : ACode :=
  .seq (.region false f17r0 [0, 1] 0)
  (.seq (.block 0 (.loop f17l1))
  (.seq (.region false f17r16 [4, 5] 0)
  (.ret)))
def f17 : AFn := ⟨2, 71, [.tmp 4, .tmp 5], f17c, 1, none⟩
def f17k : List (Nat × List Nat) := [(0, [0, 1]), (1, [0, 1, 11]), (2, [0, 1, 6]), (4, [0, 1, 16]), (6, [0, 1, 29]), (13, [0, 1, 54]), (3, [4, 5]), (14, [0, 1, 67]), (15, [0, 1]), (7, [0, 1, 7]), (8, [0, 1, 7, 44]), (9, [0, 1, 7]), (10, [0, 1, 7, 50]), (11, [4, 5]), (12, [0, 1]), (5, [0, 1]), (16, [4, 5])]
def f17v : List Nat := []

/-! 18: mortise/mortiseref02.moved, parameters [9, 25, 3], results [25] -/
def f18r0 : List AOper := [
  ⟨(some 4), .box false (.t 1), none, 0, 0⟩,
  ⟨(some 6), .alloc false [(.int .i64 0), (.int .i64 0), (.int .i64 0)], none, 1, 0⟩]
def f18r1 : List AOper := [
  ⟨(some 8), .fieldAddr 2 (.t 4), none, 0, 0⟩,
  ⟨(some 9), .load false 1 (.t 8), none, 0, 1⟩,
  ⟨(some 7), .move (.t 9), none, 0, 3⟩]
def f18r2 : List AOper := [
  ⟨(some 10), .move (.t 7), none, 0, 0⟩,
  ⟨(some 11), .move (.t 2), none, 0, 0⟩,
  ⟨(some 12), .bin .lss (.t 10) (.t 11), none, 0, 3⟩]
def f18r3 : List AOper := [
  ⟨(some 15), .fieldAddr 1 (.t 4), none, 0, 0⟩,
  ⟨(some 16), .load false 1 (.t 15), none, 0, 1⟩,
  ⟨(some 17), .bin .add (.t 16) (.c (.int .i64 1)), none, 0, 3⟩,
  ⟨(some 18), .fieldAddr 1 (.t 4), none, 0, 7⟩,
  ⟨none, .store 1 (.t 18) (.t 17), none, 0, 15⟩]
def f18r4 : List AOper := [
  ⟨(some 19), .move (.t 0), none, 0, 0⟩,
  ⟨(some 20), .move (.t 7), none, 0, 0⟩,
  ⟨(some 21), .strIndex (.t 19) (.t 20), none, 0, 3⟩,
  ⟨(some 22), .bin .eql (.t 21) (.c (.int .u8 10)), none, 0, 7⟩]
def f18r5 : List AOper := [
  ⟨(some 23), .fieldAddr 0 (.t 4), none, 0, 0⟩,
  ⟨(some 24), .load false 1 (.t 23), none, 0, 1⟩,
  ⟨(some 25), .bin .add (.t 24) (.c (.int .i64 1)), none, 0, 3⟩,
  ⟨(some 26), .fieldAddr 0 (.t 4), none, 0, 7⟩,
  ⟨none, .store 1 (.t 26) (.t 25), none, 0, 15⟩]
def f18r6 : List AOper := [
  ⟨(some 27), .fieldAddr 1 (.t 4), none, 0, 0⟩,
  ⟨none, .store 1 (.t 27) (.c (.int .i64 1)), none, 0, 1⟩]
def f18r7 : List AOper := [
  ⟨(some 13), .move (.t 7), none, 0, 0⟩,
  ⟨(some 14), .bin .add (.t 13) (.c (.int .i64 1)), none, 0, 1⟩,
  ⟨(some 7), .move (.t 14), none, 0, 3⟩]
def f18m2 : ACode :=
  .seq (.seq (.region false f18r2 [0, 2, 4, 6, 7, 12] 0)
  (.cond (.t 12)
    (.skip)
    (.exit 0)))
  (.seq (.block 1 (.seq (.region false f18r3 [0, 2, 4, 6, 7] 0)
    (.seq (.region false f18r4 [0, 2, 4, 6, 7, 22] 0)
    (.cond (.t 22)
      (.seq (.region false f18r5 [0, 2, 4, 6, 7] 0)
      (.region false f18r6 [0, 2, 4, 6, 7] 0))
      (.skip)))))
  (.region false f18r7 [0, 2, 4, 6, 7] 0))
def f18l2 : ACode := f18m2
theorem f18l2_b {A : Tab} {nt : Nat} {e : Env} {h : Heap} : Brun A nt f18l2 e h = Brun A nt f18m2 e h := rfl
def f18r8 : List AOper := [
  ⟨(some 28), .move (.t 2), none, 0, 0⟩,
  ⟨(some 29), .fieldAddr 2 (.t 4), none, 0, 1⟩,
  ⟨none, .store 1 (.t 29) (.t 28), none, 0, 3⟩]
def f18r9 : List AOper := [
  ⟨(some 30), .load true 3 (.t 4), none, 0, 0⟩,
  ⟨none, .store 3 (.t 6) (.t 30), none, 0, 1⟩]
def f18c : ACode :=
  .seq (.region false f18r0 [0, 2, 4, 6] 2)
  (.seq (.seq (.region false f18r1 [0, 2, 4, 6, 7] 0)
  (.block 0 (.loop f18l2)))
  (.seq (.region false f18r8 [4, 6] 0)
  (.seq (.region false f18r9 [6] 0)
  (.ret))))
def f18 : AFn := ⟨3, 31, [.cell 6 true 3], f18c, 1, none⟩
def f18k : List (Nat × List Nat) := [(0, [0, 2, 4, 6]), (1, [0, 2, 4, 6, 7]), (2, [0, 2, 4, 6, 7, 12]), (4, [0, 2, 4, 6, 7]), (5, [0, 2, 4, 6, 7, 22]), (6, [0, 2, 4, 6, 7]), (7, [0, 2, 4, 6, 7]), (3, [0, 2, 4, 6, 7]), (8, [4, 6]), (9, [6])]
def f18v : List Nat := []

/-! 19: mortise/mortiseref02.one, parameters [9, 3], results [35, 3, 3] -/
def f19r0 : List AOper := [
  ⟨(some 4), .alloc false [(.int .i64 0), (.str []), (.int .i64 0), (.int .i64 0), (.int .i64 0), (.int .i64 0)], none, 0, 0⟩,
  ⟨(some 5), .move (.c (.int .i64 0)), none, 1, 0⟩,
  ⟨(some 6), .move (.c (.int .i64 0)), none, 1, 2⟩]
def f19r1 : List AOper := [
  ⟨(some 15), .move (.t 1), none, 0, 0⟩,
  ⟨(some 16), .move (.t 0), none, 0, 0⟩,
  ⟨(some 17), .len 0 (.t 16), none, 0, 2⟩,
  ⟨(some 18), .bin .geq (.t 15) (.t 17), none, 0, 7⟩]
def f19r2 : List AOper := [
  ⟨(some 19), .build [(.int .i64 0), (.str []), (.int .i64 0), (.int .i64 0), (.int .i64 0), (.int .i64 0)] [], none, 0, 0⟩,
  ⟨(some 20), .move (.t 1), none, 0, 0⟩,
  ⟨none, .store 6 (.t 4) (.t 19), none, 0, 1⟩,
  ⟨(some 5), .move (.t 20), none, 0, 7⟩,
  ⟨(some 6), .move (.c (.int .i64 0)), none, 0, 15⟩]
def f19r3 : List AOper := [
  ⟨(some 21), .move (.t 1), none, 0, 0⟩,
  ⟨(some 7), .move (.t 21), none, 0, 1⟩]
def f19r4 : List AOper := [
  ⟨(some 22), .move (.t 7), none, 0, 0⟩,
  ⟨(some 23), .move (.t 0), none, 0, 0⟩,
  ⟨(some 24), .len 0 (.t 23), none, 0, 2⟩,
  ⟨(some 25), .bin .lss (.t 22) (.t 24), none, 0, 7⟩,
  ⟨(some 26), .move (.t 25), none, 0, 15⟩,
  ⟨(some 27), .move (.t 0), (some (26, true)), 0, 31⟩,
  ⟨(some 28), .move (.t 7), (some (26, true)), 0, 31⟩,
  ⟨(some 29), .strIndex (.t 27) (.t 28), (some (26, true)), 0, 127⟩,
  ⟨(some 30), .call (.c (.fn 40 [] [])) [(.t 29)], (some (26, true)), 0, 255⟩,
  ⟨(some 31), .move (.t 30), (some (26, true)), 0, 511⟩,
  ⟨(some 32), .move (.t 0), (some (31, false)), 0, 1023⟩,
  ⟨(some 33), .move (.t 7), (some (31, false)), 0, 1023⟩,
  ⟨(some 34), .strIndex (.t 32) (.t 33), (some (31, false)), 0, 4095⟩,
  ⟨(some 35), .call (.c (.fn 41 [] [])) [(.t 34)], (some (31, false)), 0, 8191⟩,
  ⟨(some 36), .pick (.t 31) (.c (.bool true)) (.t 35), (some (26, true)), 0, 16383⟩,
  ⟨(some 37), .pick (.t 26) (.t 36) (.c (.bool false)), none, 0, 32767⟩]
def f19r5 : List AOper := [
  ⟨(some 38), .move (.t 7), none, 0, 0⟩,
  ⟨(some 39), .bin .add (.t 38) (.c (.int .i64 1)), none, 0, 1⟩,
  ⟨(some 7), .move (.t 39), none, 0, 3⟩]
def f19m4 : ACode :=
  .seq (.seq (.region false f19r4 [0, 1, 4, 7, 37] 0)
  (.cond (.t 37)
    (.skip)
    (.exit 0)))
  (.block 1 (.region false f19r5 [0, 1, 4, 7] 0))
def f19l4 : ACode := f19m4
theorem f19l4_b {A : Tab} {nt : Nat} {e : Env} {h : Heap} : Brun A nt f19l4 e h = Brun A nt f19m4 e h := rfl
def f19r6 : List AOper := [
  ⟨(some 41), .move (.t 0), none, 0, 0⟩,
  ⟨(some 42), .move (.t 1), none, 0, 0⟩,
  ⟨(some 43), .strIndex (.t 41) (.t 42), none, 0, 3⟩,
  ⟨(some 44), .call (.c (.fn 41 [] [])) [(.t 43)], none, 0, 7⟩,
  ⟨(some 40), .move (.t 44), none, 0, 15⟩]
def f19r7 : List AOper := [
  ⟨(some 46), .move (.t 0), none, 0, 0⟩,
  ⟨(some 47), .move (.t 1), none, 0, 0⟩,
  ⟨(some 48), .move (.t 7), none, 0, 0⟩,
  ⟨(some 49), .strSlice (.t 46) (some (.t 47)) (some (.t 48)), none, 0, 7⟩,
  ⟨(some 50), .call (.c (.fn 42 [] [])) [(.t 49)], none, 0, 15⟩,
  ⟨(some 45), .move (.t 50), none, 0, 31⟩,
  ⟨(some 51), .extract (.t 45) 0, none, 0, 63⟩,
  ⟨(some 52), .extract (.t 45) 1, none, 0, 63⟩,
  ⟨(some 8), .alloc false [(.int .i64 0), (.str []), (.int .i64 0), (.int .i64 0), (.int .i64 0), (.int .i64 0)], none, 0, 0⟩,
  ⟨none, .store 6 (.t 8) (.t 51), none, 1, 383⟩,
  ⟨(some 9), .move (.t 52), none, 1, 1023⟩]
def f19r8 : List AOper := [
  ⟨(some 53), .move (.t 9), none, 0, 0⟩,
  ⟨(some 54), .un .not (.t 53), none, 0, 1⟩]
def f19r9 : List AOper := [
  ⟨(some 55), .build [(.int .i64 0), (.str []), (.int .i64 0), (.int .i64 0), (.int .i64 0), (.int .i64 0)] [], none, 0, 0⟩,
  ⟨(some 56), .move (.t 7), none, 0, 0⟩,
  ⟨none, .store 6 (.t 4) (.t 55), none, 0, 1⟩,
  ⟨(some 5), .move (.t 56), none, 0, 7⟩,
  ⟨(some 6), .move (.c (.int .i64 21)), none, 0, 15⟩]
def f19r10 : List AOper := [
  ⟨(some 57), .load true 6 (.t 8), none, 0, 0⟩,
  ⟨(some 58), .move (.t 7), none, 0, 0⟩,
  ⟨none, .store 6 (.t 4) (.t 57), none, 0, 1⟩,
  ⟨(some 5), .move (.t 58), none, 0, 7⟩,
  ⟨(some 6), .move (.c (.int .i64 0)), none, 0, 15⟩]
def f19r11 : List AOper := [
  ⟨(some 60), .move (.t 0), none, 0, 0⟩,
  ⟨(some 61), .move (.t 1), none, 0, 0⟩,
  ⟨(some 62), .strIndex (.t 60) (.t 61), none, 0, 3⟩,
  ⟨(some 63), .call (.c (.fn 40 [] [])) [(.t 62)], none, 0, 7⟩,
  ⟨(some 59), .move (.t 63), none, 0, 15⟩]
def f19r12 : List AOper := [
  ⟨(some 64), .move (.t 7), none, 0, 0⟩,
  ⟨(some 65), .move (.t 1), none, 0, 0⟩,
  ⟨(some 66), .bin .sub (.t 64) (.t 65), none, 0, 3⟩,
  ⟨(some 67), .bin .gtr (.t 66) (.c (.int .i64 63)), none, 0, 7⟩]
def f19r13 : List AOper := [
  ⟨(some 68), .build [(.int .i64 0), (.str []), (.int .i64 0), (.int .i64 0), (.int .i64 0), (.int .i64 0)] [], none, 0, 0⟩,
  ⟨(some 69), .move (.t 7), none, 0, 0⟩,
  ⟨none, .store 6 (.t 4) (.t 68), none, 0, 1⟩,
  ⟨(some 5), .move (.t 69), none, 0, 7⟩,
  ⟨(some 6), .move (.c (.int .i64 22)), none, 0, 15⟩]
def f19r14 : List AOper := [
  ⟨(some 70), .move (.t 0), none, 0, 0⟩,
  ⟨(some 71), .move (.t 1), none, 0, 0⟩,
  ⟨(some 72), .move (.t 7), none, 0, 0⟩,
  ⟨(some 73), .strSlice (.t 70) (some (.t 71)) (some (.t 72)), none, 0, 7⟩,
  ⟨(some 74), .call (.c (.fn 43 [] [])) [(.t 73)], none, 0, 15⟩]
def f19r15 : List AOper := [
  ⟨(some 75), .move (.t 0), none, 0, 0⟩,
  ⟨(some 76), .move (.t 1), none, 0, 0⟩,
  ⟨(some 77), .move (.t 7), none, 0, 0⟩,
  ⟨(some 78), .strSlice (.t 75) (some (.t 76)) (some (.t 77)), none, 0, 7⟩,
  ⟨(some 79), .build [(.int .i64 0), (.str []), (.int .i64 0), (.int .i64 0), (.int .i64 0), (.int .i64 0)] [(0, 1, (.c (.int .i64 2))), (1, 1, (.t 78))], none, 0, 15⟩,
  ⟨(some 80), .move (.t 7), none, 0, 0⟩,
  ⟨none, .store 6 (.t 4) (.t 79), none, 0, 31⟩,
  ⟨(some 5), .move (.t 80), none, 0, 127⟩,
  ⟨(some 6), .move (.c (.int .i64 0)), none, 0, 255⟩]
def f19r16 : List AOper := [
  ⟨(some 81), .move (.t 0), none, 0, 0⟩,
  ⟨(some 82), .move (.t 1), none, 0, 0⟩,
  ⟨(some 83), .move (.t 7), none, 0, 0⟩,
  ⟨(some 84), .strSlice (.t 81) (some (.t 82)) (some (.t 83)), none, 0, 7⟩,
  ⟨(some 85), .build [(.int .i64 0), (.str []), (.int .i64 0), (.int .i64 0), (.int .i64 0), (.int .i64 0)] [(0, 1, (.c (.int .i64 1))), (1, 1, (.t 84))], none, 0, 15⟩,
  ⟨(some 86), .move (.t 7), none, 0, 0⟩,
  ⟨none, .store 6 (.t 4) (.t 85), none, 0, 31⟩,
  ⟨(some 5), .move (.t 86), none, 0, 127⟩,
  ⟨(some 6), .move (.c (.int .i64 0)), none, 0, 255⟩]
def f19r17 : List AOper := [
  ⟨(some 88), .move (.t 0), none, 0, 0⟩,
  ⟨(some 89), .move (.t 1), none, 0, 0⟩,
  ⟨(some 90), .strIndex (.t 88) (.t 89), none, 0, 3⟩,
  ⟨(some 91), .bin .eql (.t 90) (.c (.int .u8 34)), none, 0, 7⟩,
  ⟨(some 92), .move (.t 91), none, 0, 15⟩,
  ⟨(some 93), .move (.t 0), (some (92, false)), 0, 31⟩,
  ⟨(some 94), .move (.t 1), (some (92, false)), 0, 31⟩,
  ⟨(some 95), .strIndex (.t 93) (.t 94), (some (92, false)), 0, 127⟩,
  ⟨(some 96), .bin .eql (.t 95) (.c (.int .u8 39)), (some (92, false)), 0, 255⟩,
  ⟨(some 97), .pick (.t 92) (.c (.bool true)) (.t 96), none, 0, 511⟩,
  ⟨(some 87), .move (.t 97), none, 0, 1023⟩]
def f19r18 : List AOper := [
  ⟨(some 99), .move (.t 0), none, 0, 0⟩,
  ⟨(some 100), .move (.t 1), none, 0, 0⟩,
  ⟨(some 101), .call (.c (.fn 44 [] [])) [(.t 99), (.t 100)], none, 0, 3⟩,
  ⟨(some 98), .move (.t 101), none, 0, 7⟩,
  ⟨(some 102), .extract (.t 98) 0, none, 0, 15⟩,
  ⟨(some 103), .extract (.t 98) 1, none, 0, 15⟩,
  ⟨(some 104), .extract (.t 98) 2, none, 0, 15⟩,
  ⟨(some 10), .alloc false [(.int .i64 0), (.str []), (.int .i64 0), (.int .i64 0), (.int .i64 0), (.int .i64 0)], none, 0, 0⟩,
  ⟨none, .store 6 (.t 10) (.t 102), none, 1, 159⟩,
  ⟨(some 11), .move (.t 103), none, 1, 447⟩,
  ⟨(some 12), .move (.t 104), none, 1, 1023⟩]
def f19r19 : List AOper := [
  ⟨(some 105), .move (.t 12), none, 0, 0⟩,
  ⟨(some 106), .un .not (.t 105), none, 0, 1⟩]
def f19r20 : List AOper := [
  ⟨(some 107), .build [(.int .i64 0), (.str []), (.int .i64 0), (.int .i64 0), (.int .i64 0), (.int .i64 0)] [], none, 0, 0⟩,
  ⟨(some 108), .move (.t 11), none, 0, 0⟩,
  ⟨none, .store 6 (.t 4) (.t 107), none, 0, 1⟩,
  ⟨(some 5), .move (.t 108), none, 0, 7⟩,
  ⟨(some 6), .move (.c (.int .i64 26)), none, 0, 15⟩]
def f19r21 : List AOper := [
  ⟨(some 109), .load true 6 (.t 10), none, 0, 0⟩,
  ⟨(some 110), .move (.t 11), none, 0, 0⟩,
  ⟨none, .store 6 (.t 4) (.t 109), none, 0, 1⟩,
  ⟨(some 5), .move (.t 110), none, 0, 7⟩,
  ⟨(some 6), .move (.c (.int .i64 0)), none, 0, 15⟩]
def f19r22 : List AOper := [
  ⟨(some 111), .call (.c (.fn 45 [] [])) [], none, 0, 0⟩,
  ⟨(some 13), .move (.t 111), none, 0, 1⟩]
def f19r23 : List AOper := [
  ⟨(some 14), .move (.c (.int .i64 0)), none, 0, 0⟩]
def f19r24 : List AOper := [
  ⟨(some 112), .move (.t 14), none, 0, 0⟩,
  ⟨(some 113), .move (.t 13), none, 0, 0⟩,
  ⟨(some 114), .len 1 (.t 113), none, 0, 2⟩,
  ⟨(some 115), .bin .lss (.t 112) (.t 114), none, 0, 7⟩]
def f19r25 : List AOper := [
  ⟨(some 118), .move (.t 0), none, 0, 0⟩,
  ⟨(some 119), .move (.t 1), none, 0, 0⟩,
  ⟨(some 120), .move (.t 13), none, 0, 0⟩,
  ⟨(some 121), .move (.t 14), none, 0, 0⟩,
  ⟨(some 122), .idxAddr 1 (.t 120) (.t 121), none, 0, 12⟩,
  ⟨(some 123), .load false 1 (.t 122), none, 0, 28⟩,
  ⟨(some 124), .call (.c (.fn 39 [] [])) [(.t 118), (.t 119), (.t 123)], none, 0, 63⟩]
def f19r26 : List AOper := [
  ⟨(some 125), .move (.t 13), none, 0, 0⟩,
  ⟨(some 126), .move (.t 14), none, 0, 0⟩,
  ⟨(some 127), .idxAddr 1 (.t 125) (.t 126), none, 0, 3⟩,
  ⟨(some 128), .load false 1 (.t 127), none, 0, 7⟩,
  ⟨(some 129), .build [(.int .i64 0), (.str []), (.int .i64 0), (.int .i64 0), (.int .i64 0), (.int .i64 0)] [(0, 1, (.c (.int .i64 6))), (1, 1, (.t 128))], none, 0, 15⟩,
  ⟨(some 130), .move (.t 1), none, 0, 0⟩,
  ⟨(some 131), .move (.t 13), none, 0, 0⟩,
  ⟨(some 132), .move (.t 14), none, 0, 0⟩,
  ⟨(some 133), .idxAddr 1 (.t 131) (.t 132), none, 0, 192⟩,
  ⟨(some 134), .load false 1 (.t 133), none, 0, 448⟩,
  ⟨(some 135), .len 0 (.t 134), none, 0, 960⟩,
  ⟨(some 136), .bin .add (.t 130) (.t 135), none, 0, 2016⟩,
  ⟨none, .store 6 (.t 4) (.t 129), none, 0, 31⟩,
  ⟨(some 5), .move (.t 136), none, 0, 8191⟩,
  ⟨(some 6), .move (.c (.int .i64 0)), none, 0, 16383⟩]
def f19r27 : List AOper := [
  ⟨(some 116), .move (.t 14), none, 0, 0⟩,
  ⟨(some 117), .bin .add (.t 116) (.c (.int .i64 1)), none, 0, 1⟩,
  ⟨(some 14), .move (.t 117), none, 0, 3⟩]
def f19m24 : ACode :=
  .seq (.seq (.region false f19r24 [0, 1, 4, 13, 14, 115] 0)
  (.cond (.t 115)
    (.skip)
    (.exit 3)))
  (.seq (.block 4 (.seq (.region false f19r25 [0, 1, 4, 13, 14, 124] 0)
    (.cond (.t 124)
      (.seq (.region true f19r26 [4, 5, 6] 0)
      (.ret))
      (.skip))))
  (.region false f19r27 [0, 1, 4, 13, 14] 0))
def f19l24 : ACode := f19m24
theorem f19l24_b {A : Tab} {nt : Nat} {e : Env} {h : Heap} : Brun A nt f19l24 e h = Brun A nt f19m24 e h := rfl
def f19r28 : List AOper := [
  ⟨(some 137), .build [(.int .i64 0), (.str []), (.int .i64 0), (.int .i64 0), (.int .i64 0), (.int .i64 0)] [], none, 0, 0⟩,
  ⟨(some 138), .move (.t 1), none, 0, 0⟩,
  ⟨none, .store 6 (.t 4) (.t 137), none, 0, 1⟩,
  ⟨(some 5), .move (.t 138), none, 0, 7⟩,
  ⟨(some 6), .move (.c (.int .i64 20)), none, 0, 15⟩]
def f19c : ACode :=
  .seq (.region false f19r0 [0, 1, 4] 1)
  (.seq (.seq (.region false f19r1 [0, 1, 4, 18] 0)
  (.cond (.t 18)
    (.seq (.region false f19r2 [4, 5, 6] 0)
    (.ret))
    (.skip)))
  (.seq (.region false f19r3 [0, 1, 4, 7] 0)
  (.seq (.block 0 (.loop f19l4))
  (.seq (.block 2 (.seq (.region false f19r6 [0, 1, 4, 7, 40] 0)
    (.cond (.t 40)
      (.seq (.region false f19r7 [4, 7, 8, 9] 1)
      (.seq (.seq (.region false f19r8 [4, 7, 8, 54] 0)
      (.cond (.t 54)
        (.seq (.region false f19r9 [4, 5, 6] 0)
        (.ret))
        (.skip)))
      (.seq (.region false f19r10 [4, 5, 6] 0)
      (.ret))))
      (.seq (.region false f19r11 [0, 1, 4, 7, 59] 0)
      (.cond (.t 59)
        (.seq (.seq (.region false f19r12 [0, 1, 4, 7, 67] 0)
        (.cond (.t 67)
          (.seq (.region false f19r13 [4, 5, 6] 0)
          (.ret))
          (.skip)))
        (.seq (.seq (.region false f19r14 [0, 1, 4, 7, 74] 0)
        (.cond (.t 74)
          (.seq (.region false f19r15 [4, 5, 6] 0)
          (.ret))
          (.skip)))
        (.seq (.region false f19r16 [4, 5, 6] 0)
        (.ret))))
        (.seq (.region false f19r17 [0, 1, 4, 87] 0)
        (.cond (.t 87)
          (.seq (.region false f19r18 [4, 10, 11, 12] 1)
          (.seq (.seq (.region false f19r19 [4, 10, 11, 106] 0)
          (.cond (.t 106)
            (.seq (.region false f19r20 [4, 5, 6] 0)
            (.ret))
            (.skip)))
          (.seq (.region false f19r21 [4, 5, 6] 0)
          (.ret))))
          (.skip))))))))
  (.seq (.region false f19r22 [0, 1, 4, 13] 0)
  (.seq (.seq (.region false f19r23 [0, 1, 4, 13, 14] 0)
  (.block 3 (.loop f19l24)))
  (.seq (.region false f19r28 [4, 5, 6] 0)
  (.ret))))))))
def f19 : AFn := ⟨2, 139, [.cell 4 true 6, .tmp 5, .tmp 6], f19c, 1, none⟩
def f19k : List (Nat × List Nat) := [(0, [0, 1, 4]), (1, [0, 1, 4, 18]), (2, [4, 5, 6]), (3, [0, 1, 4, 7]), (4, [0, 1, 4, 7, 37]), (5, [0, 1, 4, 7]), (6, [0, 1, 4, 7, 40]), (11, [0, 1, 4, 7, 59]), (17, [0, 1, 4, 87]), (18, [4, 10, 11, 12]), (19, [4, 10, 11, 106]), (20, [4, 5, 6]), (21, [4, 5, 6]), (12, [0, 1, 4, 7, 67]), (13, [4, 5, 6]), (14, [0, 1, 4, 7, 74]), (15, [4, 5, 6]), (16, [4, 5, 6]), (7, [4, 7, 8, 9]), (8, [4, 7, 8, 54]), (9, [4, 5, 6]), (10, [4, 5, 6]), (22, [0, 1, 4, 13]), (23, [0, 1, 4, 13, 14]), (24, [0, 1, 4, 13, 14, 115]), (26, [0, 1, 4, 13, 14, 124]), (27, [4, 5, 6]), (25, [0, 1, 4, 13, 14]), (28, [4, 5, 6])]
def f19v : List Nat := []

/-! 20: mortise/token.Name, parameters [9], results [4] -/
def f20r0 : List AOper := [
  ⟨(some 2), .move (.c (.bool false)), none, 0, 0⟩]
def f20r1 : List AOper := [
  ⟨(some 3), .move (.t 0), none, 0, 0⟩,
  ⟨(some 4), .call (.c (.fn 46 [] [])) [(.t 3), (.c (.int .i64 1))], none, 0, 1⟩,
  ⟨(some 2), .move (.t 4), none, 0, 3⟩]
def f20c : ACode :=
  .seq (.region false f20r0 [0] 0)
  (.seq (.region false f20r1 [2] 0)
  (.ret))
def f20 : AFn := ⟨1, 5, [.tmp 2], f20c, 1, none⟩
def f20k : List (Nat × List Nat) := [(0, [0]), (1, [2])]
def f20v : List Nat := []

/-! 21: mortise/token.Word, parameters [9], results [4] -/
def f21r0 : List AOper := [
  ⟨(some 2), .move (.c (.bool false)), none, 0, 0⟩]
def f21r1 : List AOper := [
  ⟨(some 3), .move (.t 0), none, 0, 0⟩,
  ⟨(some 4), .call (.c (.fn 46 [] [])) [(.t 3), (.c (.int .i64 2))], none, 0, 1⟩,
  ⟨(some 2), .move (.t 4), none, 0, 3⟩]
def f21c : ACode :=
  .seq (.region false f21r0 [0] 0)
  (.seq (.region false f21r1 [2] 0)
  (.ret))
def f21 : AFn := ⟨1, 5, [.tmp 2], f21c, 1, none⟩
def f21k : List (Nat × List Nat) := [(0, [0]), (1, [2])]
def f21v : List Nat := []

/-! 22: mortise/token.At, parameters [9, 3], results [25] -/
def f22r0 : List AOper := [
  ⟨(some 4), .alloc false [(.int .i64 0), (.int .i64 0), (.int .i64 0)], none, 0, 0⟩]
def f22r1 : List AOper := [
  ⟨(some 7), .move (.t 1), none, 0, 0⟩,
  ⟨(some 8), .move (.t 0), none, 0, 0⟩,
  ⟨(some 9), .len 0 (.t 8), none, 0, 2⟩,
  ⟨(some 10), .min (.t 7) (.t 9), none, 0, 7⟩,
  ⟨(some 11), .max (.c (.int .i64 0)) (.t 10), none, 0, 15⟩,
  ⟨(some 1), .move (.t 11), none, 0, 31⟩]
def f22r2 : List AOper := [
  ⟨(some 12), .move (.t 0), none, 0, 0⟩,
  ⟨(some 13), .move (.t 1), none, 0, 0⟩,
  ⟨(some 14), .strSlice (.t 12) none (some (.t 13)), none, 0, 3⟩,
  ⟨(some 5), .move (.t 14), none, 0, 7⟩]
def f22r3 : List AOper := [
  ⟨(some 15), .move (.t 5), none, 0, 0⟩,
  ⟨(some 16), .call (.c (.fn 47 [] [])) [(.t 15), (.c (.int .u8 10))], none, 0, 1⟩,
  ⟨(some 6), .move (.t 16), none, 0, 3⟩]
def f22r4 : List AOper := [
  ⟨(some 17), .move (.t 5), none, 0, 0⟩,
  ⟨(some 18), .call (.c (.fn 48 [] [])) [(.t 17), (.c (.str [10]))], none, 0, 1⟩,
  ⟨(some 19), .bin .add (.c (.int .i64 1)) (.t 18), none, 0, 3⟩,
  ⟨(some 20), .move (.t 1), none, 0, 0⟩,
  ⟨(some 21), .move (.t 6), none, 0, 0⟩,
  ⟨(some 22), .bin .sub (.t 20) (.t 21), none, 0, 24⟩,
  ⟨(some 23), .move (.t 1), none, 0, 0⟩,
  ⟨(some 24), .build [(.int .i64 0), (.int .i64 0), (.int .i64 0)] [(0, 1, (.t 19)), (1, 1, (.t 22)), (2, 1, (.t 23))], none, 0, 127⟩,
  ⟨none, .store 3 (.t 4) (.t 24), none, 0, 255⟩]
def f22c : ACode :=
  .seq (.region false f22r0 [0, 1, 4] 1)
  (.seq (.region false f22r1 [0, 1, 4] 0)
  (.seq (.region false f22r2 [1, 4, 5] 0)
  (.seq (.region false f22r3 [1, 4, 5, 6] 0)
  (.seq (.region false f22r4 [4] 0)
  (.ret)))))
def f22 : AFn := ⟨2, 25, [.cell 4 true 3], f22c, 1, none⟩
def f22k : List (Nat × List Nat) := [(0, [0, 1, 4]), (1, [0, 1, 4]), (2, [1, 4, 5]), (3, [1, 4, 5, 6]), (4, [4])]
def f22v : List Nat := []

/-! 23: mortise/token.may, parameters [35], results [4] -/
def f23r0 : List AOper := [
  ⟨(some 1), .box true (.t 0), none, 0, 0⟩,
  ⟨(some 2), .move (.c (.bool false)), none, 0, 0⟩]
def f23r1 : List AOper := [
  ⟨(some 3), .fieldAddr 0 (.t 1), none, 0, 0⟩,
  ⟨(some 4), .load false 1 (.t 3), none, 0, 1⟩]
def f23r2 : List AOper := [
  ⟨(some 6), .bin .eql (.t 4) (.c (.int .i64 0)), none, 0, 0⟩,
  ⟨(some 5), .move (.t 6), none, 0, 1⟩]
def f23r3 : List AOper := [
  ⟨(some 7), .load true 6 (.t 1), none, 0, 0⟩,
  ⟨(some 8), .build [(.int .i64 0), (.str []), (.int .i64 0), (.int .i64 0), (.int .i64 0), (.int .i64 0)] [], none, 0, 0⟩,
  ⟨(some 9), .eq false (.agg [.int .i64, .str, .int .i64, .int .i64, .int .i64, .int .i64]) (.t 7) (.t 8), none, 0, 3⟩,
  ⟨(some 2), .move (.t 9), none, 0, 7⟩]
def f23r4 : List AOper := [
  ⟨(some 11), .bin .eql (.t 4) (.c (.int .i64 1)), none, 0, 0⟩,
  ⟨(some 10), .move (.t 11), none, 0, 1⟩]
def f23r5 : List AOper := [
  ⟨(some 12), .fieldAddr 2 (.t 1), none, 0, 0⟩,
  ⟨(some 13), .load false 1 (.t 12), none, 0, 1⟩,
  ⟨(some 14), .bin .eql (.t 13) (.c (.int .i64 0)), none, 0, 3⟩,
  ⟨(some 15), .move (.t 14), none, 0, 7⟩,
  ⟨(some 16), .fieldAddr 1 (.t 1), (some (15, true)), 0, 15⟩,
  ⟨(some 17), .load false 1 (.t 16), (some (15, true)), 0, 31⟩,
  ⟨(some 18), .call (.c (.fn 20 [] [])) [(.t 17)], (some (15, true)), 0, 63⟩,
  ⟨(some 19), .pick (.t 15) (.t 18) (.c (.bool false)), none, 0, 127⟩,
  ⟨(some 2), .move (.t 19), none, 0, 255⟩]
def f23r6 : List AOper := [
  ⟨(some 21), .bin .eql (.t 4) (.c (.int .i64 2)), none, 0, 0⟩,
  ⟨(some 20), .move (.t 21), none, 0, 1⟩]
def f23r7 : List AOper := [
  ⟨(some 22), .fieldAddr 2 (.t 1), none, 0, 0⟩,
  ⟨(some 23), .load false 1 (.t 22), none, 0, 1⟩,
  ⟨(some 24), .bin .eql (.t 23) (.c (.int .i64 0)), none, 0, 3⟩,
  ⟨(some 25), .move (.t 24), none, 0, 7⟩,
  ⟨(some 26), .fieldAddr 1 (.t 1), (some (25, true)), 0, 15⟩,
  ⟨(some 27), .load false 1 (.t 26), (some (25, true)), 0, 31⟩,
  ⟨(some 28), .call (.c (.fn 21 [] [])) [(.t 27)], (some (25, true)), 0, 63⟩,
  ⟨(some 29), .pick (.t 25) (.t 28) (.c (.bool false)), none, 0, 127⟩,
  ⟨(some 2), .move (.t 29), none, 0, 255⟩]
def f23r8 : List AOper := [
  ⟨(some 31), .bin .eql (.t 4) (.c (.int .i64 3)), none, 0, 0⟩,
  ⟨(some 30), .move (.t 31), none, 0, 1⟩]
def f23r9 : List AOper := [
  ⟨(some 32), .load true 6 (.t 1), none, 0, 0⟩,
  ⟨(some 33), .call (.c (.fn 49 [] [])) [(.t 32)], none, 0, 1⟩,
  ⟨(some 2), .move (.t 33), none, 0, 3⟩]
def f23r10 : List AOper := [
  ⟨(some 35), .bin .eql (.t 4) (.c (.int .i64 4)), none, 0, 0⟩,
  ⟨(some 34), .move (.t 35), none, 0, 1⟩]
def f23r11 : List AOper := [
  ⟨(some 36), .fieldAddr 1 (.t 1), none, 0, 0⟩,
  ⟨(some 37), .load false 1 (.t 36), none, 0, 1⟩,
  ⟨(some 38), .bin .eql (.t 37) (.c (.str [])), none, 0, 3⟩,
  ⟨(some 39), .move (.t 38), none, 0, 7⟩,
  ⟨(some 40), .fieldAddr 2 (.t 1), (some (39, true)), 0, 15⟩,
  ⟨(some 41), .load false 1 (.t 40), (some (39, true)), 0, 31⟩,
  ⟨(some 42), .bin .geq (.t 41) (.c (.int .i64 (-128))), (some (39, true)), 0, 63⟩,
  ⟨(some 43), .pick (.t 39) (.t 42) (.c (.bool false)), none, 0, 127⟩,
  ⟨(some 44), .move (.t 43), none, 0, 255⟩,
  ⟨(some 45), .fieldAddr 2 (.t 1), (some (44, true)), 0, 511⟩,
  ⟨(some 46), .load false 1 (.t 45), (some (44, true)), 0, 1023⟩,
  ⟨(some 47), .bin .leq (.t 46) (.c (.int .i64 127)), (some (44, true)), 0, 2047⟩,
  ⟨(some 48), .pick (.t 44) (.t 47) (.c (.bool false)), none, 0, 4095⟩,
  ⟨(some 2), .move (.t 48), none, 0, 8191⟩]
def f23r12 : List AOper := [
  ⟨(some 50), .bin .eql (.t 4) (.c (.int .i64 5)), none, 0, 0⟩,
  ⟨(some 49), .move (.t 50), none, 0, 1⟩]
def f23r13 : List AOper := [
  ⟨(some 51), .fieldAddr 2 (.t 1), none, 0, 0⟩,
  ⟨(some 52), .load false 1 (.t 51), none, 0, 1⟩,
  ⟨(some 53), .bin .eql (.t 52) (.c (.int .i64 0)), none, 0, 3⟩,
  ⟨(some 2), .move (.t 53), none, 0, 7⟩]
def f23r14 : List AOper := [
  ⟨(some 55), .bin .eql (.t 4) (.c (.int .i64 6)), none, 0, 0⟩,
  ⟨(some 54), .move (.t 55), none, 0, 1⟩]
def f23q15 : List AOper := [
  ⟨(some 56), .fieldAddr 2 (.t 1), none, 0, 0⟩,
  ⟨(some 57), .load false 1 (.t 56), none, 0, 1⟩,
  ⟨(some 58), .bin .eql (.t 57) (.c (.int .i64 0)), none, 0, 3⟩,
  ⟨(some 59), .move (.t 58), none, 0, 7⟩,
  ⟨(some 60), .fieldAddr 1 (.t 1), (some (59, true)), 0, 15⟩,
  ⟨(some 61), .load false 1 (.t 60), (some (59, true)), 0, 31⟩,
  ⟨(some 62), .bin .neq (.t 61) (.c (.str [])), (some (59, true)), 0, 63⟩,
  ⟨(some 63), .pick (.t 59) (.t 62) (.c (.bool false)), none, 0, 127⟩,
  ⟨(some 64), .move (.t 63), none, 0, 255⟩,
  ⟨(some 65), .fieldAddr 1 (.t 1), (some (64, true)), 0, 511⟩,
  ⟨(some 66), .load false 1 (.t 65), (some (64, true)), 0, 1023⟩,
  ⟨(some 67), .call (.c (.fn 38 [] [])) [(.t 66)], (some (64, true)), 0, 2047⟩,
  ⟨(some 68), .fieldAddr 1 (.t 1), (some (64, true)), 0, 511⟩,
  ⟨(some 69), .load false 1 (.t 68), (some (64, true)), 0, 4607⟩,
  ⟨(some 70), .bin .eql (.t 67) (.t 69), (some (64, true)), 0, 16383⟩,
  ⟨(some 71), .pick (.t 64) (.t 70) (.c (.bool false)), none, 0, 32767⟩,
  ⟨(some 2), .move (.t 71), none, 0, 65535⟩]
def f23r15 : List AOper := f23q15
def f23r16 : List AOper := [
  ⟨(some 2), .move (.c (.bool false)), none, 0, 0⟩]
theorem f23r15_s : staticOK 0 f23r15 = true := by rfl
theorem f23r15_w {A : Tab} {nt : Nat} {keep : List Nat} {n : Nat} {e : Env} {h : Heap} (hr : (bkeep keep (stepsF nt (stepF A true) h.length f23r15 e (h ++ List.replicate n .free))).isSome = true) : Brun A nt (.region true f23r15 keep n) e h = bkeep keep (stepsF nt (stepF A true) h.length f23r15 e (h ++ List.replicate n .free)) := Brun_drawnS f23r15_s hr
theorem f23r15_u (nt base : Nat) (step : Nat → AOp → Env → Heap → Option (AV × Heap)) (e : Env) (h : Heap) : stepsF nt step base f23r15 e h = stepsF nt step base f23q15 e h := rfl
def f23c : ACode :=
  .seq (.region false f23r0 [1] 0)
  (.seq (.seq (.region false f23r1 [1, 4] 0)
  (.block 0 (.seq (.region false f23r2 [1, 4, 5] 0)
    (.cond (.t 5)
      (.seq (.region false f23r3 [2] 0)
      (.ret))
      (.seq (.region false f23r4 [1, 4, 10] 0)
      (.cond (.t 10)
        (.seq (.region false f23r5 [2] 0)
        (.ret))
        (.seq (.region false f23r6 [1, 4, 20] 0)
        (.cond (.t 20)
          (.seq (.region false f23r7 [2] 0)
          (.ret))
          (.seq (.region false f23r8 [1, 4, 30] 0)
          (.cond (.t 30)
            (.seq (.region false f23r9 [2] 0)
            (.ret))
            (.seq (.region false f23r10 [1, 4, 34] 0)
            (.cond (.t 34)
              (.seq (.region false f23r11 [2] 0)
              (.ret))
              (.seq (.region false f23r12 [1, 4, 49] 0)
              (.cond (.t 49)
                (.seq (.region false f23r13 [2] 0)
                (.ret))
                (.seq (.region false f23r14 [1, 54] 0)
                (.cond (.t 54)
                  (.seq (.region true f23r15 [2] 0)
                  (.ret))
                  (.skip)))))))))))))))))
  (.seq (.region false f23r16 [2] 0)
  (.ret)))
def f23 : AFn := ⟨1, 72, [.tmp 2], f23c, 1, none⟩
def f23k : List (Nat × List Nat) := [(0, [1]), (1, [1, 4]), (2, [1, 4, 5]), (4, [1, 4, 10]), (6, [1, 4, 20]), (8, [1, 4, 30]), (10, [1, 4, 34]), (12, [1, 4, 49]), (14, [1, 54]), (15, [2]), (13, [2]), (11, [2]), (9, [2]), (7, [2]), (5, [2]), (3, [2]), (16, [2])]
def f23v : List Nat := [1]

/-! 24: mortise/token.written, parameters [35], results [9] -/
def f24r0 : List AOper := [
  ⟨(some 1), .box true (.t 0), none, 0, 0⟩,
  ⟨(some 2), .move (.c (.str [])), none, 0, 0⟩]
def f24r1 : List AOper := [
  ⟨(some 4), .fieldAddr 0 (.t 1), none, 0, 0⟩,
  ⟨(some 5), .load false 1 (.t 4), none, 0, 1⟩]
def f24r2 : List AOper := [
  ⟨(some 7), .bin .eql (.t 5) (.c (.int .i64 3)), none, 0, 0⟩,
  ⟨(some 6), .move (.t 7), none, 0, 1⟩]
def f24r3 : List AOper := [
  ⟨(some 3), .move (.c (.str [])), none, 0, 0⟩]
def f24r4 : List AOper := [
  ⟨(some 8), .fieldAddr 1 (.t 1), none, 0, 0⟩,
  ⟨(some 9), .load false 1 (.t 8), none, 0, 1⟩,
  ⟨(some 10), .call (.c (.fn 28 [] [])) [(.t 9), (.c (.str [117, 110, 115, 105, 103, 110, 101, 100]))], none, 0, 3⟩]
def f24r5 : List AOper := [
  ⟨(some 3), .move (.c (.str [85])), none, 0, 0⟩]
def f24r6 : List AOper := [
  ⟨(some 11), .fieldAddr 1 (.t 1), none, 0, 0⟩,
  ⟨(some 12), .load false 1 (.t 11), none, 0, 1⟩,
  ⟨(some 13), .call (.c (.fn 50 [] [])) [(.t 12), (.c (.str [108, 111, 110, 103]))], none, 0, 3⟩]
def f24r7 : List AOper := [
  ⟨(some 14), .move (.t 3), none, 0, 0⟩,
  ⟨(some 15), .bin .add (.t 14) (.c (.str [76])), none, 0, 1⟩,
  ⟨(some 3), .move (.t 15), none, 0, 3⟩]
def f24r8 : List AOper := [
  ⟨(some 16), .fieldAddr 2 (.t 1), none, 0, 0⟩,
  ⟨(some 17), .load false 1 (.t 16), none, 0, 1⟩,
  ⟨(some 18), .call (.c (.fn 25 [] [])) [(.t 17)], none, 0, 3⟩,
  ⟨(some 19), .move (.t 3), none, 0, 0⟩,
  ⟨(some 20), .bin .add (.t 18) (.t 19), none, 0, 15⟩,
  ⟨(some 2), .move (.t 20), none, 0, 31⟩]
def f24r9 : List AOper := [
  ⟨(some 22), .bin .eql (.t 5) (.c (.int .i64 4)), none, 0, 0⟩,
  ⟨(some 21), .move (.t 22), none, 0, 1⟩]
def f24r10 : List AOper := [
  ⟨(some 23), .fieldAddr 2 (.t 1), none, 0, 0⟩,
  ⟨(some 24), .load false 1 (.t 23), none, 0, 1⟩,
  ⟨(some 25), .conv .u8 (.t 24), none, 0, 3⟩,
  ⟨(some 26), .buildSlice true 1 1 [(.int .u8 0)] [(0, 1, (.t 25))], none, 0, 7⟩,
  ⟨(some 27), .toStr (.t 26), none, 0, 15⟩,
  ⟨(some 28), .call (.c (.fn 51 [] [])) [(.t 27), (.c (.int .u8 39))], none, 0, 31⟩,
  ⟨(some 2), .move (.t 28), none, 0, 63⟩]
def f24r11 : List AOper := [
  ⟨(some 30), .bin .eql (.t 5) (.c (.int .i64 5)), none, 0, 0⟩,
  ⟨(some 29), .move (.t 30), none, 0, 1⟩]
def f24r12 : List AOper := [
  ⟨(some 31), .fieldAddr 1 (.t 1), none, 0, 0⟩,
  ⟨(some 32), .load false 1 (.t 31), none, 0, 1⟩,
  ⟨(some 33), .call (.c (.fn 51 [] [])) [(.t 32), (.c (.int .u8 34))], none, 0, 3⟩,
  ⟨(some 2), .move (.t 33), none, 0, 7⟩]
def f24r13 : List AOper := [
  ⟨(some 34), .fieldAddr 1 (.t 1), none, 0, 0⟩,
  ⟨(some 35), .load false 1 (.t 34), none, 0, 1⟩,
  ⟨(some 2), .move (.t 35), none, 0, 3⟩]
def f24c : ACode :=
  .seq (.region false f24r0 [1] 0)
  (.seq (.seq (.region false f24r1 [1, 5] 0)
  (.block 0 (.seq (.region false f24r2 [1, 5, 6] 0)
    (.cond (.t 6)
      (.seq (.region false f24r3 [1, 3] 0)
      (.seq (.seq (.region false f24r4 [1, 3, 10] 0)
      (.cond (.t 10)
        (.region false f24r5 [1, 3] 0)
        (.skip)))
      (.seq (.seq (.region false f24r6 [1, 3, 13] 0)
      (.cond (.t 13)
        (.region false f24r7 [1, 3] 0)
        (.skip)))
      (.seq (.region false f24r8 [2] 0)
      (.ret)))))
      (.seq (.region false f24r9 [1, 5, 21] 0)
      (.cond (.t 21)
        (.seq (.region false f24r10 [2] 0)
        (.ret))
        (.seq (.region false f24r11 [1, 29] 0)
        (.cond (.t 29)
          (.seq (.region false f24r12 [2] 0)
          (.ret))
          (.skip)))))))))
  (.seq (.region false f24r13 [2] 0)
  (.ret)))
def f24 : AFn := ⟨1, 36, [.tmp 2], f24c, 1, none⟩
def f24k : List (Nat × List Nat) := [(0, [1]), (1, [1, 5]), (2, [1, 5, 6]), (9, [1, 5, 21]), (11, [1, 29]), (12, [2]), (10, [2]), (3, [1, 3]), (4, [1, 3, 10]), (5, [1, 3]), (6, [1, 3, 13]), (7, [1, 3]), (8, [2]), (13, [2])]
def f24v : List Nat := [1, 27, 26, 25]

/-! 26: mortise/mortiseref02.inside, parameters [9, 5], results [9] -/
def f26r0 : List AOper := [
  ⟨(some 4), .move (.c (.str [])), none, 0, 0⟩]
def f26r1 : List AOper := [
  ⟨(some 5), .move (.c (.is [] .nil)), none, 0, 0⟩]
def f26r2 : List AOper := [
  ⟨(some 6), .move (.c (.int .i64 0)), none, 0, 0⟩]
def f26r3 : List AOper := [
  ⟨(some 8), .move (.t 6), none, 0, 0⟩,
  ⟨(some 9), .move (.t 0), none, 0, 0⟩,
  ⟨(some 10), .len 0 (.t 9), none, 0, 2⟩,
  ⟨(some 11), .bin .lss (.t 8) (.t 10), none, 0, 7⟩]
def f26r4 : List AOper := [
  ⟨(some 14), .move (.t 0), none, 0, 0⟩,
  ⟨(some 15), .move (.t 6), none, 0, 0⟩,
  ⟨(some 16), .strIndex (.t 14) (.t 15), none, 0, 3⟩,
  ⟨(some 7), .move (.t 16), none, 0, 7⟩]
def f26r5 : List AOper := [
  ⟨(some 31), .move (.t 7), none, 0, 0⟩,
  ⟨(some 32), .bin .eql (.t 31) (.c (.int .u8 10)), none, 0, 1⟩,
  ⟨(some 30), .move (.t 32), none, 0, 3⟩]
def f26r6 : List AOper := [
  ⟨(some 33), .move (.t 5), none, 0, 0⟩,
  ⟨(some 34), .buildSlice true 1 2 [(.int .u8 0), (.int .u8 0)] [(0, 1, (.c (.int .u8 92))), (1, 1, (.c (.int .u8 110)))], none, 0, 0⟩,
  ⟨(some 35), .append true 1 1 (.t 33) (.t 34), none, 0, 3⟩,
  ⟨(some 5), .move (.t 35), none, 1, 7⟩]
def f26r7 : List AOper := [
  ⟨(some 37), .move (.t 7), none, 0, 0⟩,
  ⟨(some 38), .bin .eql (.t 37) (.c (.int .u8 92)), none, 0, 1⟩,
  ⟨(some 39), .move (.t 38), none, 0, 3⟩,
  ⟨(some 40), .move (.t 7), (some (39, false)), 0, 7⟩,
  ⟨(some 41), .move (.t 1), (some (39, false)), 0, 7⟩,
  ⟨(some 42), .bin .eql (.t 40) (.t 41), (some (39, false)), 0, 31⟩,
  ⟨(some 43), .pick (.t 39) (.c (.bool true)) (.t 42), none, 0, 63⟩,
  ⟨(some 36), .move (.t 43), none, 0, 127⟩]
def f26r8 : List AOper := [
  ⟨(some 44), .move (.t 5), none, 0, 0⟩,
  ⟨(some 45), .move (.t 7), none, 0, 0⟩,
  ⟨(some 46), .buildSlice true 1 2 [(.int .u8 0), (.int .u8 0)] [(0, 1, (.c (.int .u8 92))), (1, 1, (.t 45))], none, 0, 2⟩,
  ⟨(some 47), .append true 1 1 (.t 44) (.t 46), none, 0, 7⟩,
  ⟨(some 5), .move (.t 47), none, 1, 15⟩]
def f26r9 : List AOper := [
  ⟨(some 49), .move (.t 7), none, 0, 0⟩,
  ⟨(some 50), .bin .geq (.t 49) (.c (.int .u8 32)), none, 0, 1⟩,
  ⟨(some 51), .move (.t 50), none, 0, 3⟩,
  ⟨(some 52), .move (.t 7), (some (51, true)), 0, 7⟩,
  ⟨(some 53), .bin .leq (.t 52) (.c (.int .u8 126)), (some (51, true)), 0, 15⟩,
  ⟨(some 54), .pick (.t 51) (.t 53) (.c (.bool false)), none, 0, 31⟩,
  ⟨(some 48), .move (.t 54), none, 0, 63⟩]
def f26r10 : List AOper := [
  ⟨(some 55), .move (.t 5), none, 0, 0⟩,
  ⟨(some 56), .move (.t 7), none, 0, 0⟩,
  ⟨(some 57), .buildSlice true 1 1 [(.int .u8 0)] [(0, 1, (.t 56))], none, 0, 2⟩,
  ⟨(some 58), .append true 1 1 (.t 55) (.t 57), none, 0, 7⟩,
  ⟨(some 5), .move (.t 58), none, 1, 15⟩]
def f26r11 : List AOper := [
  ⟨(some 17), .move (.t 5), none, 0, 0⟩,
  ⟨(some 18), .move (.t 7), none, 0, 0⟩,
  ⟨(some 19), .bin .quo (.t 18) (.c (.int .u8 64)), none, 0, 2⟩,
  ⟨(some 20), .bin .add (.c (.int .u8 48)) (.t 19), none, 0, 6⟩,
  ⟨(some 21), .move (.t 7), none, 0, 0⟩,
  ⟨(some 22), .bin .quo (.t 21) (.c (.int .u8 8)), none, 0, 16⟩,
  ⟨(some 23), .bin .rem (.t 22) (.c (.int .u8 8)), none, 0, 48⟩,
  ⟨(some 24), .bin .add (.c (.int .u8 48)) (.t 23), none, 0, 112⟩,
  ⟨(some 25), .move (.t 7), none, 0, 0⟩,
  ⟨(some 26), .bin .rem (.t 25) (.c (.int .u8 8)), none, 0, 256⟩,
  ⟨(some 27), .bin .add (.c (.int .u8 48)) (.t 26), none, 0, 768⟩,
  ⟨(some 28), .buildSlice true 1 4 [(.int .u8 0), (.int .u8 0), (.int .u8 0), (.int .u8 0)] [(0, 1, (.c (.int .u8 92))), (1, 1, (.t 20)), (2, 1, (.t 24)), (3, 1, (.t 27))], none, 0, 2046⟩,
  ⟨(some 29), .append true 1 1 (.t 17) (.t 28), none, 0, 4095⟩,
  ⟨(some 5), .move (.t 29), none, 1, 8191⟩]
def f26r12 : List AOper := [
  ⟨(some 12), .move (.t 6), none, 0, 0⟩,
  ⟨(some 13), .bin .add (.t 12) (.c (.int .i64 1)), none, 0, 1⟩,
  ⟨(some 6), .move (.t 13), none, 0, 3⟩]
def f26m3 : ACode :=
  .seq (.seq (.region false f26r3 [0, 1, 5, 6, 11] 0)
  (.cond (.t 11)
    (.skip)
    (.exit 0)))
  (.seq (.block 1 (.seq (.region false f26r4 [0, 1, 5, 6, 7] 0)
    (.block 2 (.seq (.region false f26r5 [0, 1, 5, 6, 7, 30] 0)
      (.cond (.t 30)
        (.region false f26r6 [0, 1, 5, 6] 1)
        (.seq (.region false f26r7 [0, 1, 5, 6, 7, 36] 0)
        (.cond (.t 36)
          (.region false f26r8 [0, 1, 5, 6] 1)
          (.seq (.region false f26r9 [0, 1, 5, 6, 7, 48] 0)
          (.cond (.t 48)
            (.region false f26r10 [0, 1, 5, 6] 1)
            (.region false f26r11 [0, 1, 5, 6] 1))))))))))
  (.region false f26r12 [0, 1, 5, 6] 0))
def f26l3 : ACode := f26m3
theorem f26l3_b {A : Tab} {nt : Nat} {e : Env} {h : Heap} : Brun A nt f26l3 e h = Brun A nt f26m3 e h := rfl
def f26r13 : List AOper := [
  ⟨(some 59), .move (.t 5), none, 0, 0⟩,
  ⟨(some 60), .toStr (.t 59), none, 0, 1⟩,
  ⟨(some 4), .move (.t 60), none, 0, 3⟩]
def f26c : ACode :=
  .seq (.region false f26r0 [0, 1] 0)
  (.seq (.region false f26r1 [0, 1, 5] 0)
  (.seq (.seq (.region false f26r2 [0, 1, 5, 6] 0)
  (.block 0 (.loop f26l3)))
  (.seq (.region false f26r13 [4] 0)
  (.ret))))
def f26 : AFn := ⟨2, 61, [.tmp 4], f26c, 1, none⟩
def f26k : List (Nat × List Nat) := [(0, [0, 1]), (1, [0, 1, 5]), (2, [0, 1, 5, 6]), (3, [0, 1, 5, 6, 11]), (5, [0, 1, 5, 6, 7]), (7, [0, 1, 5, 6, 7, 30]), (9, [0, 1, 5, 6, 7, 36]), (11, [0, 1, 5, 6, 7, 48]), (6, [0, 1, 5, 6]), (12, [0, 1, 5, 6]), (10, [0, 1, 5, 6]), (8, [0, 1, 5, 6]), (4, [0, 1, 5, 6]), (13, [4])]
def f26v : List Nat := [60, 29, 28, 58, 57, 47, 46, 35, 34]

/-! 28: strings.HasPrefix, parameters [9, 9], results [4] -/
def f28r0 : List AOper := [
  ⟨(some 4), .move (.c (.bool false)), none, 0, 0⟩]
def f28r1 : List AOper := [
  ⟨(some 5), .move (.t 0), none, 0, 0⟩,
  ⟨(some 6), .move (.t 1), none, 0, 0⟩,
  ⟨(some 7), .call (.c (.fn 56 [] [])) [(.t 5), (.t 6)], none, 0, 3⟩,
  ⟨(some 4), .move (.t 7), none, 0, 7⟩]
def f28c : ACode :=
  .seq (.region false f28r0 [0, 1] 0)
  (.seq (.region false f28r1 [4] 0)
  (.ret))
def f28 : AFn := ⟨2, 8, [.tmp 4], f28c, 1, none⟩
def f28k : List (Nat × List Nat) := [(0, [0, 1]), (1, [4])]
def f28v : List Nat := []

/-! 29: strings.IndexByte, parameters [9, 5], results [3] -/
def f29r0 : List AOper := [
  ⟨(some 4), .move (.c (.int .i64 0)), none, 0, 0⟩]
def f29r1 : List AOper := [
  ⟨(some 5), .move (.t 0), none, 0, 0⟩,
  ⟨(some 6), .move (.t 1), none, 0, 0⟩,
  ⟨(some 7), .call (.c (.fn 57 [] [])) [(.t 5), (.t 6)], none, 0, 3⟩,
  ⟨(some 4), .move (.t 7), none, 0, 7⟩]
def f29c : ACode :=
  .seq (.region false f29r0 [0, 1] 0)
  (.seq (.region false f29r1 [4] 0)
  (.ret))
def f29 : AFn := ⟨2, 8, [.tmp 4], f29c, 1, none⟩
def f29k : List (Nat × List Nat) := [(0, [0, 1]), (1, [4])]
def f29v : List Nat := []

/-! 31: mortise/token.letter, parameters [5], results [4] -/
def f31r0 : List AOper := [
  ⟨(some 2), .move (.c (.bool false)), none, 0, 0⟩]
def f31r1 : List AOper := [
  ⟨(some 3), .move (.t 0), none, 0, 0⟩,
  ⟨(some 4), .bin .or (.t 3) (.c (.int .u8 32)), none, 0, 1⟩,
  ⟨(some 5), .bin .geq (.t 4) (.c (.int .u8 97)), none, 0, 3⟩,
  ⟨(some 6), .move (.t 5), none, 0, 7⟩,
  ⟨(some 7), .move (.t 0), (some (6, true)), 0, 15⟩,
  ⟨(some 8), .bin .or (.t 7) (.c (.int .u8 32)), (some (6, true)), 0, 31⟩,
  ⟨(some 9), .bin .leq (.t 8) (.c (.int .u8 122)), (some (6, true)), 0, 63⟩,
  ⟨(some 10), .pick (.t 6) (.t 9) (.c (.bool false)), none, 0, 127⟩,
  ⟨(some 11), .move (.t 10), none, 0, 255⟩,
  ⟨(some 12), .move (.t 0), (some (11, false)), 0, 511⟩,
  ⟨(some 13), .bin .eql (.t 12) (.c (.int .u8 95)), (some (11, false)), 0, 1023⟩,
  ⟨(some 14), .pick (.t 11) (.c (.bool true)) (.t 13), none, 0, 2047⟩,
  ⟨(some 2), .move (.t 14), none, 0, 4095⟩]
def f31c : ACode :=
  .seq (.region false f31r0 [0] 0)
  (.seq (.region false f31r1 [2] 0)
  (.ret))
def f31 : AFn := ⟨1, 15, [.tmp 2], f31c, 1, none⟩
def f31k : List (Nat × List Nat) := [(0, [0]), (1, [2])]
def f31v : List Nat := []

/-! 32: mortise/token.run, parameters [9, 68], results [3] -/
def f32r0 : List AOper := [
  ⟨(some 4), .move (.c (.int .i64 0)), none, 0, 0⟩]
def f32r1 : List AOper := [
  ⟨(some 5), .move (.c (.int .i64 0)), none, 0, 0⟩]
def f32r2 : List AOper := [
  ⟨(some 6), .move (.t 5), none, 0, 0⟩,
  ⟨(some 7), .move (.t 0), none, 0, 0⟩,
  ⟨(some 8), .len 0 (.t 7), none, 0, 2⟩,
  ⟨(some 9), .bin .lss (.t 6) (.t 8), none, 0, 7⟩,
  ⟨(some 10), .move (.t 9), none, 0, 15⟩,
  ⟨(some 11), .move (.t 1), (some (10, true)), 0, 31⟩,
  ⟨(some 12), .move (.t 0), (some (10, true)), 0, 31⟩,
  ⟨(some 13), .move (.t 5), (some (10, true)), 0, 31⟩,
  ⟨(some 14), .strIndex (.t 12) (.t 13), (some (10, true)), 0, 223⟩,
  ⟨(some 15), .call (.t 11) [(.t 14)], (some (10, true)), 0, 511⟩,
  ⟨(some 16), .pick (.t 10) (.t 15) (.c (.bool false)), none, 0, 1023⟩]
def f32r3 : List AOper := [
  ⟨(some 17), .move (.t 5), none, 0, 0⟩,
  ⟨(some 18), .bin .add (.t 17) (.c (.int .i64 1)), none, 0, 1⟩,
  ⟨(some 5), .move (.t 18), none, 0, 3⟩]
def f32m2 : ACode :=
  .seq (.seq (.region false f32r2 [0, 1, 5, 16] 0)
  (.cond (.t 16)
    (.skip)
    (.exit 0)))
  (.block 1 (.region false f32r3 [0, 1, 5] 0))
def f32l2 : ACode := f32m2
theorem f32l2_b {A : Tab} {nt : Nat} {e : Env} {h : Heap} : Brun A nt f32l2 e h = Brun A nt f32m2 e h := rfl
def f32r4 : List AOper := [
  ⟨(some 19), .move (.t 5), none, 0, 0⟩,
  ⟨(some 4), .move (.t 19), none, 0, 1⟩]
def f32c : ACode :=
  .seq (.region false f32r0 [0, 1] 0)
  (.seq (.region false f32r1 [0, 1, 5] 0)
  (.seq (.block 0 (.loop f32l2))
  (.seq (.region false f32r4 [4] 0)
  (.ret))))
def f32 : AFn := ⟨2, 20, [.tmp 4], f32c, 1, none⟩
def f32k : List (Nat × List Nat) := [(0, [0, 1]), (1, [0, 1, 5]), (2, [0, 1, 5, 16]), (3, [0, 1, 5]), (4, [4])]
def f32v : List Nat := []

/-! 33: mortise/token.tail, parameters [5], results [4] -/
def f33r0 : List AOper := [
  ⟨(some 2), .move (.c (.bool false)), none, 0, 0⟩]
def f33r1 : List AOper := [
  ⟨(some 3), .move (.t 0), none, 0, 0⟩,
  ⟨(some 4), .call (.c (.fn 31 [] [])) [(.t 3)], none, 0, 1⟩,
  ⟨(some 5), .move (.t 4), none, 0, 3⟩,
  ⟨(some 6), .move (.t 0), (some (5, false)), 0, 7⟩,
  ⟨(some 7), .call (.c (.fn 35 [] [])) [(.t 6)], (some (5, false)), 0, 15⟩,
  ⟨(some 8), .pick (.t 5) (.c (.bool true)) (.t 7), none, 0, 31⟩,
  ⟨(some 2), .move (.t 8), none, 0, 63⟩]
def f33c : ACode :=
  .seq (.region false f33r0 [0] 0)
  (.seq (.region false f33r1 [2] 0)
  (.ret))
def f33 : AFn := ⟨1, 9, [.tmp 2], f33c, 1, none⟩
def f33k : List (Nat × List Nat) := [(0, [0]), (1, [2])]
def f33v : List Nat := []

/-! 34: mortise/token.keyword, parameters [9], results [4] -/
def f34r0 : List AOper := [
  ⟨(some 2), .move (.c (.bool false)), none, 0, 0⟩]
def f34r1 : List AOper := [
  ⟨(some 3), .move (.t 0), none, 0, 0⟩]
def f34r2 : List AOper := [
  ⟨(some 5), .bin .eql (.t 3) (.c (.str [95, 66, 111, 111, 108])), none, 0, 0⟩,
  ⟨(some 4), .move (.t 5), none, 0, 1⟩]
def f34r3 : List AOper := [
  ⟨(some 6), .bin .eql (.t 3) (.c (.str [98, 114, 101, 97, 107])), none, 0, 0⟩,
  ⟨(some 4), .move (.t 6), none, 0, 1⟩]
def f34r4 : List AOper := [
  ⟨(some 7), .bin .eql (.t 3) (.c (.str [99, 104, 97, 114])), none, 0, 0⟩,
  ⟨(some 4), .move (.t 7), none, 0, 1⟩]
def f34r5 : List AOper := [
  ⟨(some 8), .bin .eql (.t 3) (.c (.str [99, 111, 110, 116, 105, 110, 117, 101])), none, 0, 0⟩,
  ⟨(some 4), .move (.t 8), none, 0, 1⟩]
def f34r6 : List AOper := [
  ⟨(some 9), .bin .eql (.t 3) (.c (.str [100, 111])), none, 0, 0⟩,
  ⟨(some 4), .move (.t 9), none, 0, 1⟩]
def f34r7 : List AOper := [
  ⟨(some 10), .bin .eql (.t 3) (.c (.str [101, 108, 115, 101])), none, 0, 0⟩,
  ⟨(some 4), .move (.t 10), none, 0, 1⟩]
def f34r8 : List AOper := [
  ⟨(some 11), .bin .eql (.t 3) (.c (.str [101, 110, 117, 109])), none, 0, 0⟩,
  ⟨(some 4), .move (.t 11), none, 0, 1⟩]
def f34r9 : List AOper := [
  ⟨(some 12), .bin .eql (.t 3) (.c (.str [102, 111, 114])), none, 0, 0⟩,
  ⟨(some 4), .move (.t 12), none, 0, 1⟩]
def f34r10 : List AOper := [
  ⟨(some 13), .bin .eql (.t 3) (.c (.str [105, 102])), none, 0, 0⟩,
  ⟨(some 4), .move (.t 13), none, 0, 1⟩]
def f34r11 : List AOper := [
  ⟨(some 14), .bin .eql (.t 3) (.c (.str [105, 110, 116])), none, 0, 0⟩,
  ⟨(some 4), .move (.t 14), none, 0, 1⟩]
def f34r12 : List AOper := [
  ⟨(some 15), .bin .eql (.t 3) (.c (.str [108, 111, 110, 103])), none, 0, 0⟩,
  ⟨(some 4), .move (.t 15), none, 0, 1⟩]
def f34r13 : List AOper := [
  ⟨(some 16), .bin .eql (.t 3) (.c (.str [111, 102, 102, 115, 101, 116, 111, 102])), none, 0, 0⟩,
  ⟨(some 4), .move (.t 16), none, 0, 1⟩]
def f34r14 : List AOper := [
  ⟨(some 17), .bin .eql (.t 3) (.c (.str [114, 101, 116, 117, 114, 110])), none, 0, 0⟩,
  ⟨(some 4), .move (.t 17), none, 0, 1⟩]
def f34r15 : List AOper := [
  ⟨(some 18), .bin .eql (.t 3) (.c (.str [115, 104, 111, 114, 116])), none, 0, 0⟩,
  ⟨(some 4), .move (.t 18), none, 0, 1⟩]
def f34r16 : List AOper := [
  ⟨(some 19), .bin .eql (.t 3) (.c (.str [115, 105, 103, 110, 101, 100])), none, 0, 0⟩,
  ⟨(some 4), .move (.t 19), none, 0, 1⟩]
def f34r17 : List AOper := [
  ⟨(some 20), .bin .eql (.t 3) (.c (.str [115, 105, 122, 101, 111, 102])), none, 0, 0⟩,
  ⟨(some 4), .move (.t 20), none, 0, 1⟩]
def f34r18 : List AOper := [
  ⟨(some 21), .bin .eql (.t 3) (.c (.str [115, 116, 97, 116, 105, 99])), none, 0, 0⟩,
  ⟨(some 4), .move (.t 21), none, 0, 1⟩]
def f34r19 : List AOper := [
  ⟨(some 22), .bin .eql (.t 3) (.c (.str [115, 116, 114, 117, 99, 116])), none, 0, 0⟩,
  ⟨(some 4), .move (.t 22), none, 0, 1⟩]
def f34r20 : List AOper := [
  ⟨(some 23), .bin .eql (.t 3) (.c (.str [116, 121, 112, 101, 100, 101, 102])), none, 0, 0⟩,
  ⟨(some 4), .move (.t 23), none, 0, 1⟩]
def f34r21 : List AOper := [
  ⟨(some 24), .bin .eql (.t 3) (.c (.str [117, 110, 105, 111, 110])), none, 0, 0⟩,
  ⟨(some 4), .move (.t 24), none, 0, 1⟩]
def f34r22 : List AOper := [
  ⟨(some 25), .bin .eql (.t 3) (.c (.str [117, 110, 115, 105, 103, 110, 101, 100])), none, 0, 0⟩,
  ⟨(some 4), .move (.t 25), none, 0, 1⟩]
def f34r23 : List AOper := [
  ⟨(some 26), .bin .eql (.t 3) (.c (.str [118, 111, 105, 100])), none, 0, 0⟩,
  ⟨(some 4), .move (.t 26), none, 0, 1⟩]
def f34r24 : List AOper := [
  ⟨(some 27), .bin .eql (.t 3) (.c (.str [119, 104, 105, 108, 101])), none, 0, 0⟩,
  ⟨(some 4), .move (.t 27), none, 0, 1⟩]
def f34r25 : List AOper := [
  ⟨(some 2), .move (.c (.bool true)), none, 0, 0⟩]
def f34r26 : List AOper := [
  ⟨(some 2), .move (.c (.bool false)), none, 0, 0⟩]
def f34c : ACode :=
  .seq (.region false f34r0 [0] 0)
  (.seq (.seq (.region false f34r1 [3] 0)
  (.block 0 (.seq (.seq (.region false f34r2 [3, 4] 0)
    (.cond (.t 4)
      (.skip)
      (.seq (.region false f34r3 [3, 4] 0)
      (.cond (.t 4)
        (.skip)
        (.seq (.region false f34r4 [3, 4] 0)
        (.cond (.t 4)
          (.skip)
          (.seq (.region false f34r5 [3, 4] 0)
          (.cond (.t 4)
            (.skip)
            (.seq (.region false f34r6 [3, 4] 0)
            (.cond (.t 4)
              (.skip)
              (.seq (.region false f34r7 [3, 4] 0)
              (.cond (.t 4)
                (.skip)
                (.seq (.region false f34r8 [3, 4] 0)
                (.cond (.t 4)
                  (.skip)
                  (.seq (.region false f34r9 [3, 4] 0)
                  (.cond (.t 4)
                    (.skip)
                    (.seq (.region false f34r10 [3, 4] 0)
                    (.cond (.t 4)
                      (.skip)
                      (.seq (.region false f34r11 [3, 4] 0)
                      (.cond (.t 4)
                        (.skip)
                        (.seq (.region false f34r12 [3, 4] 0)
                        (.cond (.t 4)
                          (.skip)
                          (.seq (.region false f34r13 [3, 4] 0)
                          (.cond (.t 4)
                            (.skip)
                            (.seq (.region false f34r14 [3, 4] 0)
                            (.cond (.t 4)
                              (.skip)
                              (.seq (.region false f34r15 [3, 4] 0)
                              (.cond (.t 4)
                                (.skip)
                                (.seq (.region false f34r16 [3, 4] 0)
                                (.cond (.t 4)
                                  (.skip)
                                  (.seq (.region false f34r17 [3, 4] 0)
                                  (.cond (.t 4)
                                    (.skip)
                                    (.seq (.region false f34r18 [3, 4] 0)
                                    (.cond (.t 4)
                                      (.skip)
                                      (.seq (.region false f34r19 [3, 4] 0)
                                      (.cond (.t 4)
                                        (.skip)
                                        (.seq (.region false f34r20 [3, 4] 0)
                                        (.cond (.t 4)
                                          (.skip)
                                          (.seq (.region false f34r21 [3, 4] 0)
                                          (.cond (.t 4)
                                            (.skip)
                                            (.seq (.region false f34r22 [3, 4] 0)
                                            (.cond (.t 4)
                                              (.skip)
                                              (.seq (.region false f34r23 [3, 4] 0)
                                              (.cond (.t 4)
                                                (.skip)
                                                (.region false f34r24 [4] 0)))))))))))))))))))))))))))))))))))))))))))))
    (.cond (.t 4)
      (.seq (.region false f34r25 [2] 0)
      (.ret))
      (.skip)))))
  (.seq (.region false f34r26 [2] 0)
  (.ret)))
def f34 : AFn := ⟨1, 28, [.tmp 2], f34c, 1, none⟩
def f34k : List (Nat × List Nat) := [(0, [0]), (1, [3]), (2, [3, 4]), (3, [3, 4]), (4, [3, 4]), (5, [3, 4]), (6, [3, 4]), (7, [3, 4]), (8, [3, 4]), (9, [3, 4]), (10, [3, 4]), (11, [3, 4]), (12, [3, 4]), (13, [3, 4]), (14, [3, 4]), (15, [3, 4]), (16, [3, 4]), (17, [3, 4]), (18, [3, 4]), (19, [3, 4]), (20, [3, 4]), (21, [3, 4]), (22, [3, 4]), (23, [3, 4]), (24, [4]), (25, [2]), (26, [2])]
def f34v : List Nat := []

/-! 35: mortise/token.digit, parameters [5], results [4] -/
def f35r0 : List AOper := [
  ⟨(some 2), .move (.c (.bool false)), none, 0, 0⟩]
def f35r1 : List AOper := [
  ⟨(some 3), .move (.t 0), none, 0, 0⟩,
  ⟨(some 4), .bin .geq (.t 3) (.c (.int .u8 48)), none, 0, 1⟩,
  ⟨(some 5), .move (.t 4), none, 0, 3⟩,
  ⟨(some 6), .move (.t 0), (some (5, true)), 0, 7⟩,
  ⟨(some 7), .bin .leq (.t 6) (.c (.int .u8 57)), (some (5, true)), 0, 15⟩,
  ⟨(some 8), .pick (.t 5) (.t 7) (.c (.bool false)), none, 0, 31⟩,
  ⟨(some 2), .move (.t 8), none, 0, 63⟩]
def f35c : ACode :=
  .seq (.region false f35r0 [0] 0)
  (.seq (.region false f35r1 [2] 0)
  (.ret))
def f35 : AFn := ⟨1, 9, [.tmp 2], f35c, 1, none⟩
def f35k : List (Nat × List Nat) := [(0, [0]), (1, [2])]
def f35v : List Nat := []

/-! 36: mortise/token.number, parameters [9], results [35, 4] -/
def f36r0 : List AOper := [
  ⟨(some 2), .alloc false [(.int .i64 0), (.str []), (.int .i64 0), (.int .i64 0), (.int .i64 0), (.int .i64 0)], none, 0, 0⟩,
  ⟨(some 3), .move (.c (.bool false)), none, 1, 0⟩]
def f36r1 : List AOper := [
  ⟨(some 14), .move (.t 0), none, 0, 0⟩,
  ⟨(some 15), .call (.c (.fn 59 [] [])) [(.t 14), (.c (.str [117, 85, 108, 76]))], none, 0, 1⟩,
  ⟨(some 4), .move (.t 15), none, 0, 3⟩]
def f36r2 : List AOper := [
  ⟨(some 16), .move (.t 0), none, 0, 0⟩,
  ⟨(some 17), .len 0 (.t 16), none, 0, 1⟩,
  ⟨(some 18), .bin .gtr (.t 17) (.c (.int .i64 2)), none, 0, 3⟩,
  ⟨(some 19), .move (.t 18), none, 0, 7⟩,
  ⟨(some 20), .move (.t 0), (some (19, true)), 0, 15⟩,
  ⟨(some 21), .strIndex (.t 20) (.c (.int .i64 0)), (some (19, true)), 0, 31⟩,
  ⟨(some 22), .bin .eql (.t 21) (.c (.int .u8 48)), (some (19, true)), 0, 63⟩,
  ⟨(some 23), .pick (.t 19) (.t 22) (.c (.bool false)), none, 0, 127⟩,
  ⟨(some 24), .move (.t 23), none, 0, 255⟩,
  ⟨(some 25), .move (.t 0), (some (24, true)), 0, 511⟩,
  ⟨(some 26), .strIndex (.t 25) (.c (.int .i64 1)), (some (24, true)), 0, 1023⟩,
  ⟨(some 27), .bin .or (.t 26) (.c (.int .u8 32)), (some (24, true)), 0, 2047⟩,
  ⟨(some 28), .bin .eql (.t 27) (.c (.int .u8 120)), (some (24, true)), 0, 4095⟩,
  ⟨(some 29), .pick (.t 24) (.t 28) (.c (.bool false)), none, 0, 8191⟩]
def f36r3 : List AOper := [
  ⟨(some 30), .move (.t 0), none, 0, 0⟩,
  ⟨(some 31), .move (.t 0), none, 0, 0⟩,
  ⟨(some 32), .strSlice (.t 31) (some (.c (.int .i64 2))) none, none, 0, 2⟩,
  ⟨(some 33), .call (.c (.fn 32 [] [])) [(.t 32), (.c (.fn 60 [] []))], none, 0, 6⟩,
  ⟨(some 34), .bin .add (.c (.int .i64 2)) (.t 33), none, 0, 14⟩,
  ⟨(some 35), .strSlice (.t 30) none (some (.t 34)), none, 0, 31⟩,
  ⟨(some 4), .move (.t 35), none, 0, 63⟩]
def f36r4 : List AOper := [
  ⟨(some 5), .alloc false [(.bool false)], none, 0, 0⟩,
  ⟨(some 6), .alloc false [(.bool false)], none, 1, 0⟩,
  ⟨none, .store 1 (.t 5) (.c (.bool false)), none, 2, 3⟩,
  ⟨none, .store 1 (.t 6) (.c (.bool false)), none, 2, 7⟩]
def f36r5 : List AOper := [
  ⟨(some 36), .move (.t 0), none, 0, 0⟩,
  ⟨(some 37), .move (.t 4), none, 0, 0⟩,
  ⟨(some 38), .len 0 (.t 37), none, 0, 2⟩,
  ⟨(some 39), .strSlice (.t 36) (some (.t 38)) none, none, 0, 7⟩,
  ⟨(some 40), .toBytes true (.t 39), none, 0, 15⟩,
  ⟨(some 41), .len 1 (.t 40), none, 1, 31⟩,
  ⟨(some 42), .move (.c (.int .i64 0)), none, 1, 0⟩]
def f36r6 : List AOper := [
  ⟨(some 43), .bin .lss (.t 42) (.t 41), none, 0, 0⟩]
def f36r7 : List AOper := [
  ⟨(some 44), .idxAddr 1 (.t 40) (.t 42), none, 0, 0⟩,
  ⟨(some 45), .load false 1 (.t 44), none, 0, 1⟩,
  ⟨(some 8), .move (.t 45), none, 0, 3⟩]
def f36r8 : List AOper := [
  ⟨(some 9), .move (.t 5), none, 0, 0⟩]
def f36r9 : List AOper := [
  ⟨(some 46), .move (.t 8), none, 0, 0⟩,
  ⟨(some 47), .bin .or (.t 46) (.c (.int .u8 32)), none, 0, 1⟩,
  ⟨(some 48), .bin .eql (.t 47) (.c (.int .u8 108)), none, 0, 3⟩]
def f36r10 : List AOper := [
  ⟨(some 9), .move (.t 6), none, 0, 0⟩]
def f36r11 : List AOper := [
  ⟨(some 49), .move (.t 8), none, 0, 0⟩,
  ⟨(some 50), .bin .or (.t 49) (.c (.int .u8 32)), none, 0, 1⟩,
  ⟨(some 51), .bin .neq (.t 50) (.c (.int .u8 117)), none, 0, 3⟩]
def f36r12 : List AOper := [
  ⟨(some 52), .build [(.int .i64 0), (.str []), (.int .i64 0), (.int .i64 0), (.int .i64 0), (.int .i64 0)] [], none, 0, 0⟩,
  ⟨none, .store 6 (.t 2) (.t 52), none, 0, 1⟩,
  ⟨(some 3), .move (.c (.bool false)), none, 0, 3⟩]
def f36r13 : List AOper := [
  ⟨(some 53), .move (.t 9), none, 0, 0⟩,
  ⟨(some 54), .nilCheck (.t 53), none, 0, 1⟩,
  ⟨(some 55), .load false 1 (.t 54), none, 0, 3⟩]
def f36r14 : List AOper := [
  ⟨(some 56), .build [(.int .i64 0), (.str []), (.int .i64 0), (.int .i64 0), (.int .i64 0), (.int .i64 0)] [], none, 0, 0⟩,
  ⟨none, .store 6 (.t 2) (.t 56), none, 0, 1⟩,
  ⟨(some 3), .move (.c (.bool false)), none, 0, 3⟩]
def f36r15 : List AOper := [
  ⟨(some 57), .move (.t 9), none, 0, 0⟩,
  ⟨(some 58), .nilCheck (.t 57), none, 0, 1⟩,
  ⟨none, .store 1 (.t 58) (.c (.bool true)), none, 0, 3⟩]
def f36r16 : List AOper := [
  ⟨(some 59), .bin .add (.t 42) (.c (.int .i64 1)), none, 0, 0⟩,
  ⟨(some 42), .move (.t 59), none, 0, 1⟩]
def f36m6 : ACode :=
  .seq (.region false f36r6 [2, 4, 5, 6, 40, 41, 42, 43] 0)
  (.seq (.cond (.t 43)
    (.skip)
    (.exit 0))
  (.seq (.block 1 (.seq (.region false f36r7 [2, 4, 5, 6, 8, 40, 41, 42] 0)
    (.seq (.region false f36r8 [2, 4, 5, 6, 8, 9, 40, 41, 42] 0)
    (.seq (.seq (.region false f36r9 [2, 4, 5, 6, 8, 9, 40, 41, 42, 48] 0)
    (.cond (.t 48)
      (.region false f36r10 [2, 4, 5, 6, 9, 40, 41, 42] 0)
      (.seq (.region false f36r11 [2, 4, 5, 6, 9, 40, 41, 42, 51] 0)
      (.cond (.t 51)
        (.seq (.region false f36r12 [2, 3] 0)
        (.ret))
        (.skip)))))
    (.seq (.seq (.region false f36r13 [2, 4, 5, 6, 9, 40, 41, 42, 55] 0)
    (.cond (.t 55)
      (.seq (.region false f36r14 [2, 3] 0)
      (.ret))
      (.skip)))
    (.region false f36r15 [2, 4, 5, 6, 40, 41, 42] 0))))))
  (.region false f36r16 [2, 4, 5, 6, 40, 41, 42] 0)))
def f36l6 : ACode := f36m6
theorem f36l6_b {A : Tab} {nt : Nat} {e : Env} {h : Heap} : Brun A nt f36l6 e h = Brun A nt f36m6 e h := rfl
def f36r17 : List AOper := [
  ⟨(some 61), .move (.t 4), none, 0, 0⟩,
  ⟨(some 62), .call (.c (.fn 62 [] [])) [(.t 61)], none, 0, 1⟩,
  ⟨(some 60), .move (.t 62), none, 0, 3⟩,
  ⟨(some 63), .extract (.t 60) 0, none, 0, 7⟩,
  ⟨(some 64), .extract (.t 60) 1, none, 0, 7⟩,
  ⟨(some 65), .extract (.t 60) 2, none, 0, 7⟩,
  ⟨(some 10), .move (.t 63), none, 0, 15⟩,
  ⟨(some 11), .move (.t 64), none, 0, 95⟩,
  ⟨(some 12), .move (.t 65), none, 0, 255⟩]
def f36r18 : List AOper := [
  ⟨(some 66), .move (.t 12), none, 0, 0⟩,
  ⟨(some 67), .un .not (.t 66), none, 0, 1⟩,
  ⟨(some 68), .move (.t 67), none, 0, 3⟩,
  ⟨(some 69), .move (.t 10), (some (68, false)), 0, 7⟩,
  ⟨(some 70), .bin .gtr (.t 69) (.c (.int .i64 4294967295)), (some (68, false)), 0, 15⟩,
  ⟨(some 71), .pick (.t 68) (.c (.bool true)) (.t 70), none, 0, 31⟩]
def f36r19 : List AOper := [
  ⟨(some 72), .build [(.int .i64 0), (.str []), (.int .i64 0), (.int .i64 0), (.int .i64 0), (.int .i64 0)] [], none, 0, 0⟩,
  ⟨none, .store 6 (.t 2) (.t 72), none, 0, 1⟩,
  ⟨(some 3), .move (.c (.bool false)), none, 0, 3⟩]
def f36r20 : List AOper := [
  ⟨(some 74), .load false 1 (.t 5), none, 0, 0⟩,
  ⟨(some 75), .un .not (.t 74), none, 0, 1⟩,
  ⟨(some 76), .move (.t 75), none, 0, 3⟩,
  ⟨(some 77), .move (.t 10), (some (76, true)), 0, 7⟩,
  ⟨(some 78), .bin .gtr (.t 77) (.c (.int .i64 2147483647)), (some (76, true)), 0, 15⟩,
  ⟨(some 79), .pick (.t 76) (.t 78) (.c (.bool false)), none, 0, 31⟩,
  ⟨(some 80), .move (.t 79), none, 0, 63⟩,
  ⟨(some 81), .move (.t 11), (some (80, true)), 0, 127⟩,
  ⟨(some 82), .pick (.t 80) (.t 81) (.c (.bool false)), none, 0, 255⟩,
  ⟨(some 73), .move (.t 82), none, 0, 511⟩]
def f36r21 : List AOper := [
  ⟨(some 83), .build [(.int .i64 0), (.str []), (.int .i64 0), (.int .i64 0), (.int .i64 0), (.int .i64 0)] [], none, 0, 0⟩,
  ⟨none, .store 6 (.t 2) (.t 83), none, 0, 1⟩,
  ⟨(some 3), .move (.c (.bool false)), none, 0, 3⟩]
def f36r22 : List AOper := [
  ⟨(some 85), .move (.t 10), none, 0, 0⟩,
  ⟨(some 86), .bin .gtr (.t 85) (.c (.int .i64 2147483647)), none, 0, 1⟩,
  ⟨(some 84), .move (.t 86), none, 0, 3⟩]
def f36r23 : List AOper := [
  ⟨none, .store 1 (.t 5) (.c (.bool true)), none, 0, 0⟩]
def f36r24 : List AOper := [
  ⟨(some 13), .move (.c (.str [105, 110, 116])), none, 0, 0⟩]
def f36r25 : List AOper := [
  ⟨(some 87), .load false 1 (.t 6), none, 0, 0⟩]
def f36r26 : List AOper := [
  ⟨(some 13), .move (.c (.str [108, 111, 110, 103])), none, 0, 0⟩]
def f36r27 : List AOper := [
  ⟨(some 88), .load false 1 (.t 5), none, 0, 0⟩]
def f36r28 : List AOper := [
  ⟨(some 89), .move (.t 13), none, 0, 0⟩,
  ⟨(some 90), .bin .add (.c (.str [117, 110, 115, 105, 103, 110, 101, 100, 32])) (.t 89), none, 0, 1⟩,
  ⟨(some 13), .move (.t 90), none, 0, 3⟩]
def f36r29 : List AOper := [
  ⟨(some 91), .move (.t 13), none, 0, 0⟩,
  ⟨(some 92), .move (.t 10), none, 0, 0⟩,
  ⟨(some 93), .build [(.int .i64 0), (.str []), (.int .i64 0), (.int .i64 0), (.int .i64 0), (.int .i64 0)] [(0, 1, (.c (.int .i64 3))), (1, 1, (.t 91)), (2, 1, (.t 92))], none, 0, 3⟩,
  ⟨none, .store 6 (.t 2) (.t 93), none, 0, 7⟩,
  ⟨(some 3), .move (.c (.bool true)), none, 0, 15⟩]
def f36c : ACode :=
  .seq (.region false f36r0 [0, 2] 1)
  (.seq (.region false f36r1 [0, 2, 4] 0)
  (.seq (.seq (.region false f36r2 [0, 2, 4, 29] 0)
  (.cond (.t 29)
    (.region false f36r3 [0, 2, 4] 0)
    (.skip)))
  (.seq (.region false f36r4 [0, 2, 4, 5, 6] 2)
  (.seq (.seq (.region false f36r5 [2, 4, 5, 6, 40, 41, 42] 1)
  (.block 0 (.loop f36l6)))
  (.seq (.region false f36r17 [2, 5, 6, 10, 11, 12] 0)
  (.seq (.seq (.region false f36r18 [2, 5, 6, 10, 11, 71] 0)
  (.cond (.t 71)
    (.seq (.region false f36r19 [2, 3] 0)
    (.ret))
    (.skip)))
  (.seq (.block 2 (.seq (.region false f36r20 [2, 5, 6, 10, 73] 0)
    (.cond (.t 73)
      (.seq (.region false f36r21 [2, 3] 0)
      (.ret))
      (.seq (.region false f36r22 [2, 5, 6, 10, 84] 0)
      (.cond (.t 84)
        (.region false f36r23 [2, 5, 6, 10] 0)
        (.skip))))))
  (.seq (.region false f36r24 [2, 5, 6, 10, 13] 0)
  (.seq (.seq (.region false f36r25 [2, 5, 10, 13, 87] 0)
  (.cond (.t 87)
    (.region false f36r26 [2, 5, 10, 13] 0)
    (.skip)))
  (.seq (.seq (.region false f36r27 [2, 10, 13, 88] 0)
  (.cond (.t 88)
    (.region false f36r28 [2, 10, 13] 0)
    (.skip)))
  (.seq (.region false f36r29 [2, 3] 0)
  (.ret))))))))))))
def f36 : AFn := ⟨1, 94, [.cell 2 true 6, .tmp 3], f36c, 1, none⟩
def f36k : List (Nat × List Nat) := [(0, [0, 2]), (1, [0, 2, 4]), (2, [0, 2, 4, 29]), (3, [0, 2, 4]), (4, [0, 2, 4, 5, 6]), (5, [2, 4, 5, 6, 40, 41, 42]), (6, [2, 4, 5, 6, 40, 41, 42, 43]), (7, [2, 4, 5, 6, 8, 40, 41, 42]), (8, [2, 4, 5, 6, 8, 9, 40, 41, 42]), (9, [2, 4, 5, 6, 8, 9, 40, 41, 42, 48]), (11, [2, 4, 5, 6, 9, 40, 41, 42, 51]), (12, [2, 3]), (10, [2, 4, 5, 6, 9, 40, 41, 42]), (13, [2, 4, 5, 6, 9, 40, 41, 42, 55]), (14, [2, 3]), (15, [2, 4, 5, 6, 40, 41, 42]), (16, [2, 4, 5, 6, 40, 41, 42]), (17, [2, 5, 6, 10, 11, 12]), (18, [2, 5, 6, 10, 11, 71]), (19, [2, 3]), (20, [2, 5, 6, 10, 73]), (22, [2, 5, 6, 10, 84]), (23, [2, 5, 6, 10]), (21, [2, 3]), (24, [2, 5, 6, 10, 13]), (25, [2, 5, 10, 13, 87]), (26, [2, 5, 10, 13]), (27, [2, 10, 13, 88]), (28, [2, 10, 13]), (29, [2, 3])]
def f36v : List Nat := [40]

/-! 37: mortise/token.quoted, parameters [9, 5], results [62, 3, 4] -/
def f37r0 : List AOper := [
  ⟨(some 4), .move (.c (.is [] .nil)), none, 0, 0⟩,
  ⟨(some 5), .move (.c (.int .i64 0)), none, 0, 1⟩,
  ⟨(some 6), .move (.c (.bool false)), none, 0, 3⟩]
def f37r1 : List AOper := [
  ⟨(some 7), .move (.c (.is [] .nil)), none, 0, 0⟩]
def f37r2 : List AOper := [
  ⟨(some 8), .move (.c (.int .i64 0)), none, 0, 0⟩]
def f37r3 : List AOper := [
  ⟨(some 13), .move (.t 8), none, 0, 0⟩,
  ⟨(some 14), .move (.t 0), none, 0, 0⟩,
  ⟨(some 15), .len 0 (.t 14), none, 0, 2⟩,
  ⟨(some 16), .bin .lss (.t 13) (.t 15), none, 0, 7⟩]
def f37r4 : List AOper := [
  ⟨(some 19), .move (.t 0), none, 0, 0⟩,
  ⟨(some 20), .move (.t 8), none, 0, 0⟩,
  ⟨(some 21), .strIndex (.t 19) (.t 20), none, 0, 3⟩,
  ⟨(some 9), .move (.t 21), none, 0, 7⟩]
def f37r5 : List AOper := [
  ⟨(some 22), .move (.t 9), none, 0, 0⟩]
def f37r6 : List AOper := [
  ⟨(some 28), .move (.t 1), none, 0, 0⟩,
  ⟨(some 29), .bin .eql (.t 22) (.t 28), none, 0, 1⟩,
  ⟨(some 27), .move (.t 29), none, 0, 3⟩]
def f37r7 : List AOper := [
  ⟨(some 30), .move (.t 7), none, 0, 0⟩,
  ⟨(some 31), .move (.t 8), none, 0, 0⟩,
  ⟨(some 32), .bin .add (.t 31) (.c (.int .i64 1)), none, 0, 2⟩,
  ⟨(some 4), .move (.t 30), none, 0, 1⟩,
  ⟨(some 5), .move (.t 32), none, 0, 15⟩,
  ⟨(some 6), .move (.c (.bool true)), none, 0, 31⟩]
def f37r8 : List AOper := [
  ⟨(some 34), .bin .eql (.t 22) (.c (.int .u8 10)), none, 0, 0⟩,
  ⟨(some 33), .move (.t 34), none, 0, 1⟩]
def f37r9 : List AOper := [
  ⟨(some 4), .move (.c (.is [] .nil)), none, 0, 0⟩,
  ⟨(some 5), .move (.c (.int .i64 0)), none, 0, 1⟩,
  ⟨(some 6), .move (.c (.bool false)), none, 0, 3⟩]
def f37r10 : List AOper := [
  ⟨(some 36), .bin .eql (.t 22) (.c (.int .u8 92)), none, 0, 0⟩,
  ⟨(some 35), .move (.t 36), none, 0, 1⟩]
def f37r11 : List AOper := [
  ⟨(some 38), .move (.t 0), none, 0, 0⟩,
  ⟨(some 39), .move (.t 8), none, 0, 0⟩,
  ⟨(some 40), .bin .add (.t 39) (.c (.int .i64 1)), none, 0, 2⟩,
  ⟨(some 41), .strSlice (.t 38) (some (.t 40)) none, none, 0, 7⟩,
  ⟨(some 42), .call (.c (.fn 63 [] [])) [(.t 41)], none, 0, 15⟩,
  ⟨(some 37), .move (.t 42), none, 0, 31⟩,
  ⟨(some 43), .extract (.t 37) 0, none, 0, 63⟩,
  ⟨(some 44), .extract (.t 37) 1, none, 0, 63⟩,
  ⟨(some 45), .extract (.t 37) 2, none, 0, 63⟩,
  ⟨(some 10), .move (.t 43), none, 0, 127⟩,
  ⟨(some 11), .move (.t 44), none, 0, 767⟩,
  ⟨(some 12), .move (.t 45), none, 0, 2047⟩]
def f37r12 : List AOper := [
  ⟨(some 46), .move (.t 12), none, 0, 0⟩,
  ⟨(some 47), .un .not (.t 46), none, 0, 1⟩]
def f37r13 : List AOper := [
  ⟨(some 4), .move (.c (.is [] .nil)), none, 0, 0⟩,
  ⟨(some 5), .move (.c (.int .i64 0)), none, 0, 1⟩,
  ⟨(some 6), .move (.c (.bool false)), none, 0, 3⟩]
def f37r14 : List AOper := [
  ⟨(some 48), .move (.t 7), none, 0, 0⟩,
  ⟨(some 49), .move (.t 10), none, 0, 0⟩,
  ⟨(some 50), .buildSlice true 1 1 [(.int .u8 0)] [(0, 1, (.t 49))], none, 0, 2⟩,
  ⟨(some 51), .append true 1 1 (.t 48) (.t 50), none, 0, 7⟩,
  ⟨(some 7), .move (.t 51), none, 1, 15⟩]
def f37r15 : List AOper := [
  ⟨(some 52), .move (.t 8), none, 0, 0⟩,
  ⟨(some 53), .move (.t 11), none, 0, 0⟩,
  ⟨(some 54), .bin .add (.t 52) (.t 53), none, 0, 3⟩,
  ⟨(some 8), .move (.t 54), none, 0, 7⟩]
def f37r16 : List AOper := [
  ⟨(some 23), .move (.t 7), none, 0, 0⟩,
  ⟨(some 24), .move (.t 9), none, 0, 0⟩,
  ⟨(some 25), .buildSlice true 1 1 [(.int .u8 0)] [(0, 1, (.t 24))], none, 0, 2⟩,
  ⟨(some 26), .append true 1 1 (.t 23) (.t 25), none, 0, 7⟩,
  ⟨(some 7), .move (.t 26), none, 1, 15⟩]
def f37r17 : List AOper := [
  ⟨(some 17), .move (.t 8), none, 0, 0⟩,
  ⟨(some 18), .bin .add (.t 17) (.c (.int .i64 1)), none, 0, 1⟩,
  ⟨(some 8), .move (.t 18), none, 0, 3⟩]
def f37m3 : ACode :=
  .seq (.seq (.region false f37r3 [0, 1, 7, 8, 16] 0)
  (.cond (.t 16)
    (.skip)
    (.exit 0)))
  (.seq (.block 1 (.seq (.region false f37r4 [0, 1, 7, 8, 9] 0)
    (.seq (.region false f37r5 [0, 1, 7, 8, 9, 22] 0)
    (.block 2 (.seq (.region false f37r6 [0, 1, 7, 8, 9, 22, 27] 0)
      (.cond (.t 27)
        (.seq (.region false f37r7 [4, 5, 6] 0)
        (.ret))
        (.seq (.region false f37r8 [0, 1, 7, 8, 9, 22, 33] 0)
        (.cond (.t 33)
          (.seq (.region false f37r9 [4, 5, 6] 0)
          (.ret))
          (.seq (.region false f37r10 [0, 1, 7, 8, 9, 35] 0)
          (.cond (.t 35)
            (.seq (.region false f37r11 [0, 1, 7, 8, 10, 11, 12] 0)
            (.seq (.seq (.region false f37r12 [0, 1, 7, 8, 10, 11, 47] 0)
            (.cond (.t 47)
              (.seq (.region false f37r13 [4, 5, 6] 0)
              (.ret))
              (.skip)))
            (.seq (.region false f37r14 [0, 1, 7, 8, 11] 1)
            (.region false f37r15 [0, 1, 7, 8] 0))))
            (.region false f37r16 [0, 1, 7, 8] 1)))))))))))
  (.region false f37r17 [0, 1, 7, 8] 0))
def f37l3 : ACode := f37m3
theorem f37l3_b {A : Tab} {nt : Nat} {e : Env} {h : Heap} : Brun A nt f37l3 e h = Brun A nt f37m3 e h := rfl
def f37r18 : List AOper := [
  ⟨(some 4), .move (.c (.is [] .nil)), none, 0, 0⟩,
  ⟨(some 5), .move (.c (.int .i64 0)), none, 0, 1⟩,
  ⟨(some 6), .move (.c (.bool false)), none, 0, 3⟩]
def f37c : ACode :=
  .seq (.region false f37r0 [0, 1] 0)
  (.seq (.region false f37r1 [0, 1, 7] 0)
  (.seq (.seq (.region false f37r2 [0, 1, 7, 8] 0)
  (.block 0 (.loop f37l3)))
  (.seq (.region false f37r18 [4, 5, 6] 0)
  (.ret))))
def f37 : AFn := ⟨2, 55, [.tmp 4, .tmp 5, .tmp 6], f37c, 1, none⟩
def f37k : List (Nat × List Nat) := [(0, [0, 1]), (1, [0, 1, 7]), (2, [0, 1, 7, 8]), (3, [0, 1, 7, 8, 16]), (5, [0, 1, 7, 8, 9]), (6, [0, 1, 7, 8, 9, 22]), (8, [0, 1, 7, 8, 9, 22, 27]), (10, [0, 1, 7, 8, 9, 22, 33]), (12, [0, 1, 7, 8, 9, 35]), (7, [0, 1, 7, 8]), (13, [0, 1, 7, 8, 10, 11, 12]), (14, [0, 1, 7, 8, 10, 11, 47]), (15, [4, 5, 6]), (16, [0, 1, 7, 8, 11]), (17, [0, 1, 7, 8]), (11, [4, 5, 6]), (9, [4, 5, 6]), (4, [0, 1, 7, 8]), (18, [4, 5, 6])]
def f37v : List Nat := [26, 25, 51, 50]

/-! 38: mortise/token.sign, parameters [9], results [9] -/
def f38r0 : List AOper := [
  ⟨(some 2), .move (.c (.str [])), none, 0, 0⟩]
def f38r1 : List AOper := [
  ⟨(some 6), .build (List.replicate 21 (.str [])) [(0, 1, (.c (.str [60, 60, 61]))), (1, 1, (.c (.str [62, 62, 61]))), (2, 1, (.c (.str [45, 62]))), (3, 1, (.c (.str [43, 43]))), (4, 1, (.c (.str [45, 45]))), (5, 1, (.c (.str [60, 60]))), (6, 1, (.c (.str [62, 62]))), (7, 1, (.c (.str [60, 61]))), (8, 1, (.c (.str [62, 61]))), (9, 1, (.c (.str [61, 61]))), (10, 1, (.c (.str [33, 61]))), (11, 1, (.c (.str [38, 38]))), (12, 1, (.c (.str [124, 124]))), (13, 1, (.c (.str [42, 61]))), (14, 1, (.c (.str [47, 61]))), (15, 1, (.c (.str [37, 61]))), (16, 1, (.c (.str [43, 61]))), (17, 1, (.c (.str [45, 61]))), (18, 1, (.c (.str [38, 61]))), (19, 1, (.c (.str [94, 61]))), (20, 1, (.c (.str [124, 61])))], none, 0, 0⟩,
  ⟨(some 3), .alloc false (List.replicate 21 (.str [])), none, 0, 0⟩,
  ⟨none, .store 21 (.t 3) (.t 6), none, 1, 3⟩]
def f38r2 : List AOper := [
  ⟨(some 7), .load true 21 (.t 3), none, 0, 0⟩,
  ⟨(some 8), .move (.c (.int .i64 0)), none, 0, 0⟩]
def f38r3 : List AOper := [
  ⟨(some 9), .bin .lss (.t 8) (.c (.int .i64 21)), none, 0, 0⟩]
def f38r4 : List AOper := [
  ⟨(some 10), .index false 21 1 (.t 7) (.t 8), none, 0, 0⟩,
  ⟨(some 5), .move (.t 10), none, 0, 1⟩]
def f38r5 : List AOper := [
  ⟨(some 11), .move (.t 0), none, 0, 0⟩,
  ⟨(some 12), .move (.t 5), none, 0, 0⟩,
  ⟨(some 13), .call (.c (.fn 28 [] [])) [(.t 11), (.t 12)], none, 0, 3⟩]
def f38r6 : List AOper := [
  ⟨(some 14), .move (.t 5), none, 0, 0⟩,
  ⟨(some 2), .move (.t 14), none, 0, 1⟩]
def f38r7 : List AOper := [
  ⟨(some 15), .bin .add (.t 8) (.c (.int .i64 1)), none, 0, 0⟩,
  ⟨(some 8), .move (.t 15), none, 0, 1⟩]
def f38m3 : ACode :=
  .seq (.region false f38r3 [0, 7, 8, 9] 0)
  (.seq (.cond (.t 9)
    (.skip)
    (.exit 0))
  (.seq (.block 1 (.seq (.region false f38r4 [0, 5, 7, 8] 0)
    (.seq (.region false f38r5 [0, 5, 7, 8, 13] 0)
    (.cond (.t 13)
      (.seq (.region false f38r6 [2] 0)
      (.ret))
      (.skip)))))
  (.region false f38r7 [0, 7, 8] 0)))
def f38l3 : ACode := f38m3
theorem f38l3_b {A : Tab} {nt : Nat} {e : Env} {h : Heap} : Brun A nt f38l3 e h = Brun A nt f38m3 e h := rfl
def f38r8 : List AOper := [
  ⟨(some 16), .move (.t 0), none, 0, 0⟩,
  ⟨(some 17), .strIndex (.t 16) (.c (.int .i64 0)), none, 0, 1⟩,
  ⟨(some 18), .call (.c (.fn 29 [] [])) [(.c (.str [91, 93, 40, 41, 123, 125, 46, 38, 42, 43, 45, 126, 33, 47, 37, 60, 62, 94, 124, 63, 58, 59, 61, 44])), (.t 17)], none, 0, 3⟩,
  ⟨(some 19), .bin .geq (.t 18) (.c (.int .i64 0)), none, 0, 7⟩]
def f38r9 : List AOper := [
  ⟨(some 20), .move (.t 0), none, 0, 0⟩,
  ⟨(some 21), .strSlice (.t 20) none (some (.c (.int .i64 1))), none, 0, 1⟩,
  ⟨(some 2), .move (.t 21), none, 0, 3⟩]
def f38r10 : List AOper := [
  ⟨(some 2), .move (.c (.str [])), none, 0, 0⟩]
def f38c : ACode :=
  .seq (.region false f38r0 [0] 0)
  (.seq (.region false f38r1 [0, 3] 1)
  (.seq (.seq (.region false f38r2 [0, 7, 8] 0)
  (.block 0 (.loop f38l3)))
  (.seq (.seq (.region false f38r8 [0, 19] 0)
  (.cond (.t 19)
    (.seq (.region false f38r9 [2] 0)
    (.ret))
    (.skip)))
  (.seq (.region false f38r10 [2] 0)
  (.ret)))))
def f38 : AFn := ⟨1, 22, [.tmp 2], f38c, 1, none⟩
def f38k : List (Nat × List Nat) := [(0, [0]), (1, [0, 3]), (2, [0, 7, 8]), (3, [0, 7, 8, 9]), (4, [0, 5, 7, 8]), (5, [0, 5, 7, 8, 13]), (6, [2]), (7, [0, 7, 8]), (8, [0, 19]), (9, [2]), (10, [2])]
def f38v : List Nat := []

/-! 39: mortise/mortiseref02.at, parameters [9, 3, 9], results [4] -/
def f39r0 : List AOper := [
  ⟨(some 6), .move (.c (.bool false)), none, 0, 0⟩]
def f39r1 : List AOper := [
  ⟨(some 7), .move (.t 0), none, 0, 0⟩,
  ⟨(some 8), .len 0 (.t 7), none, 0, 1⟩,
  ⟨(some 9), .move (.t 1), none, 0, 0⟩,
  ⟨(some 10), .bin .sub (.t 8) (.t 9), none, 0, 7⟩,
  ⟨(some 11), .move (.t 2), none, 0, 0⟩,
  ⟨(some 12), .len 0 (.t 11), none, 0, 16⟩,
  ⟨(some 13), .bin .geq (.t 10) (.t 12), none, 0, 63⟩,
  ⟨(some 14), .move (.t 13), none, 0, 127⟩,
  ⟨(some 15), .move (.t 0), (some (14, true)), 0, 255⟩,
  ⟨(some 16), .move (.t 1), (some (14, true)), 0, 255⟩,
  ⟨(some 17), .move (.t 1), (some (14, true)), 0, 255⟩,
  ⟨(some 18), .move (.t 2), (some (14, true)), 0, 255⟩,
  ⟨(some 19), .len 0 (.t 18), (some (14, true)), 0, 2303⟩,
  ⟨(some 20), .bin .add (.t 17) (.t 19), (some (14, true)), 0, 7423⟩,
  ⟨(some 21), .strSlice (.t 15) (some (.t 16)) (some (.t 20)), (some (14, true)), 0, 16383⟩,
  ⟨(some 22), .move (.t 2), (some (14, true)), 0, 255⟩,
  ⟨(some 23), .bin .eql (.t 21) (.t 22), (some (14, true)), 0, 65535⟩,
  ⟨(some 24), .pick (.t 14) (.t 23) (.c (.bool false)), none, 0, 131071⟩,
  ⟨(some 6), .move (.t 24), none, 0, 262143⟩]
def f39c : ACode :=
  .seq (.region false f39r0 [0, 1, 2] 0)
  (.seq (.region false f39r1 [6] 0)
  (.ret))
def f39 : AFn := ⟨3, 25, [.tmp 6], f39c, 1, none⟩
def f39k : List (Nat × List Nat) := [(0, [0, 1, 2]), (1, [6])]
def f39v : List Nat := []

/-! 40: mortise/mortiseref02.letter, parameters [5], results [4] -/
def f40r0 : List AOper := [
  ⟨(some 2), .move (.c (.bool false)), none, 0, 0⟩]
def f40r1 : List AOper := [
  ⟨(some 3), .move (.t 0), none, 0, 0⟩,
  ⟨(some 4), .bin .geq (.t 3) (.c (.int .u8 97)), none, 0, 1⟩,
  ⟨(some 5), .move (.t 4), none, 0, 3⟩,
  ⟨(some 6), .move (.t 0), (some (5, true)), 0, 7⟩,
  ⟨(some 7), .bin .leq (.t 6) (.c (.int .u8 122)), (some (5, true)), 0, 15⟩,
  ⟨(some 8), .pick (.t 5) (.t 7) (.c (.bool false)), none, 0, 31⟩,
  ⟨(some 9), .move (.t 8), none, 0, 63⟩,
  ⟨(some 10), .move (.t 0), (some (9, false)), 0, 127⟩,
  ⟨(some 11), .bin .geq (.t 10) (.c (.int .u8 65)), (some (9, false)), 0, 255⟩,
  ⟨(some 12), .move (.t 11), (some (9, false)), 0, 511⟩,
  ⟨(some 13), .move (.t 0), (some (12, true)), 0, 1023⟩,
  ⟨(some 14), .bin .leq (.t 13) (.c (.int .u8 90)), (some (12, true)), 0, 2047⟩,
  ⟨(some 15), .pick (.t 12) (.t 14) (.c (.bool false)), (some (9, false)), 0, 4095⟩,
  ⟨(some 16), .pick (.t 9) (.c (.bool true)) (.t 15), none, 0, 8191⟩,
  ⟨(some 17), .move (.t 16), none, 0, 16383⟩,
  ⟨(some 18), .move (.t 0), (some (17, false)), 0, 32767⟩,
  ⟨(some 19), .bin .eql (.t 18) (.c (.int .u8 95)), (some (17, false)), 0, 65535⟩,
  ⟨(some 20), .pick (.t 17) (.c (.bool true)) (.t 19), none, 0, 131071⟩,
  ⟨(some 2), .move (.t 20), none, 0, 262143⟩]
def f40c : ACode :=
  .seq (.region false f40r0 [0] 0)
  (.seq (.region false f40r1 [2] 0)
  (.ret))
def f40 : AFn := ⟨1, 21, [.tmp 2], f40c, 1, none⟩
def f40k : List (Nat × List Nat) := [(0, [0]), (1, [2])]
def f40v : List Nat := []

/-! 41: mortise/mortiseref02.digit, parameters [5], results [4] -/
def f41r0 : List AOper := [
  ⟨(some 2), .move (.c (.bool false)), none, 0, 0⟩]
def f41r1 : List AOper := [
  ⟨(some 3), .move (.t 0), none, 0, 0⟩,
  ⟨(some 4), .bin .geq (.t 3) (.c (.int .u8 48)), none, 0, 1⟩,
  ⟨(some 5), .move (.t 4), none, 0, 3⟩,
  ⟨(some 6), .move (.t 0), (some (5, true)), 0, 7⟩,
  ⟨(some 7), .bin .leq (.t 6) (.c (.int .u8 57)), (some (5, true)), 0, 15⟩,
  ⟨(some 8), .pick (.t 5) (.t 7) (.c (.bool false)), none, 0, 31⟩,
  ⟨(some 2), .move (.t 8), none, 0, 63⟩]
def f41c : ACode :=
  .seq (.region false f41r0 [0] 0)
  (.seq (.region false f41r1 [2] 0)
  (.ret))
def f41 : AFn := ⟨1, 9, [.tmp 2], f41c, 1, none⟩
def f41k : List (Nat × List Nat) := [(0, [0]), (1, [2])]
def f41v : List Nat := []

/-! 42: mortise/mortiseref02.number, parameters [9], results [35, 4] -/
def f42r0 : List AOper := [
  ⟨(some 2), .alloc false [(.int .i64 0), (.str []), (.int .i64 0), (.int .i64 0), (.int .i64 0), (.int .i64 0)], none, 0, 0⟩,
  ⟨(some 3), .move (.c (.bool false)), none, 1, 0⟩]
def f42r1 : List AOper := [
  ⟨(some 4), .move (.c (.int .i64 10)), none, 0, 0⟩,
  ⟨(some 5), .move (.c (.int .i64 0)), none, 0, 1⟩]
def f42r2 : List AOper := [
  ⟨(some 11), .move (.t 0), none, 0, 0⟩,
  ⟨(some 12), .strIndex (.t 11) (.c (.int .i64 0)), none, 0, 1⟩,
  ⟨(some 13), .bin .eql (.t 12) (.c (.int .u8 48)), none, 0, 3⟩]
def f42r3 : List AOper := [
  ⟨(some 4), .move (.c (.int .i64 8)), none, 0, 0⟩]
def f42r4 : List AOper := [
  ⟨(some 14), .move (.t 0), none, 0, 0⟩,
  ⟨(some 15), .len 0 (.t 14), none, 0, 1⟩,
  ⟨(some 16), .bin .gtr (.t 15) (.c (.int .i64 1)), none, 0, 3⟩,
  ⟨(some 17), .move (.t 16), none, 0, 7⟩,
  ⟨(some 18), .move (.t 0), (some (17, true)), 0, 15⟩,
  ⟨(some 19), .strIndex (.t 18) (.c (.int .i64 1)), (some (17, true)), 0, 31⟩,
  ⟨(some 20), .bin .eql (.t 19) (.c (.int .u8 120)), (some (17, true)), 0, 63⟩,
  ⟨(some 21), .move (.t 20), (some (17, true)), 0, 127⟩,
  ⟨(some 22), .move (.t 0), (some (21, false)), 0, 255⟩,
  ⟨(some 23), .strIndex (.t 22) (.c (.int .i64 1)), (some (21, false)), 0, 511⟩,
  ⟨(some 24), .bin .eql (.t 23) (.c (.int .u8 88)), (some (21, false)), 0, 1023⟩,
  ⟨(some 25), .pick (.t 21) (.c (.bool true)) (.t 24), (some (17, true)), 0, 2047⟩,
  ⟨(some 26), .pick (.t 17) (.t 25) (.c (.bool false)), none, 0, 4095⟩]
def f42r5 : List AOper := [
  ⟨(some 4), .move (.c (.int .i64 16)), none, 0, 0⟩,
  ⟨(some 5), .move (.c (.int .i64 2)), none, 0, 1⟩]
def f42r6 : List AOper := [
  ⟨(some 27), .move (.t 5), none, 0, 0⟩,
  ⟨(some 6), .move (.t 27), none, 0, 1⟩]
def f42r7 : List AOper := [
  ⟨(some 7), .move (.c (.int .i64 0)), none, 0, 0⟩]
def f42r8 : List AOper := [
  ⟨(some 28), .move (.t 5), none, 0, 0⟩,
  ⟨(some 29), .move (.t 0), none, 0, 0⟩,
  ⟨(some 30), .len 0 (.t 29), none, 0, 2⟩,
  ⟨(some 31), .bin .lss (.t 28) (.t 30), none, 0, 7⟩,
  ⟨(some 32), .move (.t 31), none, 0, 15⟩,
  ⟨(some 33), .move (.t 0), (some (32, true)), 0, 31⟩,
  ⟨(some 34), .move (.t 5), (some (32, true)), 0, 31⟩,
  ⟨(some 35), .strIndex (.t 33) (.t 34), (some (32, true)), 0, 127⟩,
  ⟨(some 36), .call (.c (.fn 64 [] [])) [(.t 35)], (some (32, true)), 0, 255⟩,
  ⟨(some 37), .move (.t 4), (some (32, true)), 0, 31⟩,
  ⟨(some 38), .bin .lss (.t 36) (.t 37), (some (32, true)), 0, 1023⟩,
  ⟨(some 39), .pick (.t 32) (.t 38) (.c (.bool false)), none, 0, 2047⟩]
def f42r9 : List AOper := [
  ⟨(some 40), .move (.t 7), none, 0, 0⟩,
  ⟨(some 41), .move (.t 4), none, 0, 0⟩,
  ⟨(some 42), .bin .mul (.t 40) (.t 41), none, 0, 3⟩,
  ⟨(some 43), .move (.t 0), none, 0, 0⟩,
  ⟨(some 44), .move (.t 5), none, 0, 0⟩,
  ⟨(some 45), .strIndex (.t 43) (.t 44), none, 0, 24⟩,
  ⟨(some 46), .call (.c (.fn 64 [] [])) [(.t 45)], none, 0, 56⟩,
  ⟨(some 47), .bin .add (.t 42) (.t 46), none, 0, 127⟩,
  ⟨(some 7), .move (.t 47), none, 0, 255⟩]
def f42r10 : List AOper := [
  ⟨(some 48), .move (.t 7), none, 0, 0⟩,
  ⟨(some 49), .bin .gtr (.t 48) (.c (.int .i64 4294967295)), none, 0, 1⟩]
def f42r11 : List AOper := [
  ⟨(some 50), .build [(.int .i64 0), (.str []), (.int .i64 0), (.int .i64 0), (.int .i64 0), (.int .i64 0)] [], none, 0, 0⟩,
  ⟨none, .store 6 (.t 2) (.t 50), none, 0, 1⟩,
  ⟨(some 3), .move (.c (.bool false)), none, 0, 3⟩]
def f42r12 : List AOper := [
  ⟨(some 51), .move (.t 5), none, 0, 0⟩,
  ⟨(some 52), .bin .add (.t 51) (.c (.int .i64 1)), none, 0, 1⟩,
  ⟨(some 5), .move (.t 52), none, 0, 3⟩]
def f42m8 : ACode :=
  .seq (.seq (.region false f42r8 [0, 2, 4, 5, 6, 7, 39] 0)
  (.cond (.t 39)
    (.skip)
    (.exit 0)))
  (.block 1 (.seq (.region false f42r9 [0, 2, 4, 5, 6, 7] 0)
    (.seq (.seq (.region false f42r10 [0, 2, 4, 5, 6, 7, 49] 0)
    (.cond (.t 49)
      (.seq (.region false f42r11 [2, 3] 0)
      (.ret))
      (.skip)))
    (.region false f42r12 [0, 2, 4, 5, 6, 7] 0))))
def f42l8 : ACode := f42m8
theorem f42l8_b {A : Tab} {nt : Nat} {e : Env} {h : Heap} : Brun A nt f42l8 e h = Brun A nt f42m8 e h := rfl
def f42r13 : List AOper := [
  ⟨(some 8), .move (.c (.bool false)), none, 0, 0⟩,
  ⟨(some 9), .move (.c (.bool false)), none, 0, 1⟩]
def f42r14 : List AOper := [
  ⟨(some 53), .move (.t 0), none, 0, 0⟩,
  ⟨(some 54), .move (.t 5), none, 0, 0⟩,
  ⟨(some 55), .strSlice (.t 53) (some (.t 54)) none, none, 0, 3⟩,
  ⟨(some 10), .move (.t 55), none, 0, 7⟩]
def f42r15 : List AOper := [
  ⟨(some 58), .move (.t 10), none, 0, 0⟩,
  ⟨(some 59), .bin .eql (.t 58) (.c (.str [])), none, 0, 1⟩,
  ⟨(some 57), .move (.t 59), none, 0, 3⟩]
def f42r16 : List AOper := [
  ⟨(some 61), .move (.t 10), none, 0, 0⟩,
  ⟨(some 62), .bin .eql (.t 61) (.c (.str [117])), none, 0, 1⟩,
  ⟨(some 63), .move (.t 62), none, 0, 3⟩,
  ⟨(some 64), .move (.t 10), (some (63, false)), 0, 7⟩,
  ⟨(some 65), .bin .eql (.t 64) (.c (.str [85])), (some (63, false)), 0, 15⟩,
  ⟨(some 66), .pick (.t 63) (.c (.bool true)) (.t 65), none, 0, 31⟩,
  ⟨(some 60), .move (.t 66), none, 0, 63⟩]
def f42r17 : List AOper := [
  ⟨(some 8), .move (.c (.bool true)), none, 0, 0⟩]
def f42r18 : List AOper := [
  ⟨(some 68), .move (.t 10), none, 0, 0⟩,
  ⟨(some 69), .bin .eql (.t 68) (.c (.str [108])), none, 0, 1⟩,
  ⟨(some 70), .move (.t 69), none, 0, 3⟩,
  ⟨(some 71), .move (.t 10), (some (70, false)), 0, 7⟩,
  ⟨(some 72), .bin .eql (.t 71) (.c (.str [76])), (some (70, false)), 0, 15⟩,
  ⟨(some 73), .pick (.t 70) (.c (.bool true)) (.t 72), none, 0, 31⟩,
  ⟨(some 67), .move (.t 73), none, 0, 63⟩]
def f42r19 : List AOper := [
  ⟨(some 9), .move (.c (.bool true)), none, 0, 0⟩]
def f42r20 : List AOper := [
  ⟨(some 75), .move (.t 10), none, 0, 0⟩,
  ⟨(some 76), .len 0 (.t 75), none, 0, 1⟩,
  ⟨(some 77), .bin .eql (.t 76) (.c (.int .i64 2)), none, 0, 3⟩,
  ⟨(some 78), .move (.t 77), none, 0, 7⟩,
  ⟨(some 79), .move (.t 10), (some (78, true)), 0, 15⟩,
  ⟨(some 80), .strIndex (.t 79) (.c (.int .i64 0)), (some (78, true)), 0, 31⟩,
  ⟨(some 81), .bin .eql (.t 80) (.c (.int .u8 117)), (some (78, true)), 0, 63⟩,
  ⟨(some 82), .move (.t 81), (some (78, true)), 0, 127⟩,
  ⟨(some 83), .move (.t 10), (some (82, false)), 0, 255⟩,
  ⟨(some 84), .strIndex (.t 83) (.c (.int .i64 0)), (some (82, false)), 0, 511⟩,
  ⟨(some 85), .bin .eql (.t 84) (.c (.int .u8 85)), (some (82, false)), 0, 1023⟩,
  ⟨(some 86), .pick (.t 82) (.c (.bool true)) (.t 85), (some (78, true)), 0, 2047⟩,
  ⟨(some 87), .pick (.t 78) (.t 86) (.c (.bool false)), none, 0, 4095⟩,
  ⟨(some 88), .move (.t 87), none, 0, 8191⟩,
  ⟨(some 89), .move (.t 10), (some (88, true)), 0, 16383⟩,
  ⟨(some 90), .strIndex (.t 89) (.c (.int .i64 1)), (some (88, true)), 0, 32767⟩,
  ⟨(some 91), .bin .eql (.t 90) (.c (.int .u8 108)), (some (88, true)), 0, 65535⟩,
  ⟨(some 92), .move (.t 91), (some (88, true)), 0, 131071⟩,
  ⟨(some 93), .move (.t 10), (some (92, false)), 0, 262143⟩,
  ⟨(some 94), .strIndex (.t 93) (.c (.int .i64 1)), (some (92, false)), 0, 524287⟩,
  ⟨(some 95), .bin .eql (.t 94) (.c (.int .u8 76)), (some (92, false)), 0, 1048575⟩,
  ⟨(some 96), .pick (.t 92) (.c (.bool true)) (.t 95), (some (88, true)), 0, 2097151⟩,
  ⟨(some 97), .pick (.t 88) (.t 96) (.c (.bool false)), none, 0, 4194303⟩,
  ⟨(some 74), .move (.t 97), none, 0, 8388607⟩]
def f42r21 : List AOper := [
  ⟨(some 98), .move (.t 10), none, 0, 0⟩,
  ⟨(some 99), .len 0 (.t 98), none, 0, 1⟩,
  ⟨(some 100), .bin .eql (.t 99) (.c (.int .i64 2)), none, 0, 3⟩,
  ⟨(some 101), .move (.t 100), none, 0, 7⟩,
  ⟨(some 102), .move (.t 10), (some (101, true)), 0, 15⟩,
  ⟨(some 103), .strIndex (.t 102) (.c (.int .i64 0)), (some (101, true)), 0, 31⟩,
  ⟨(some 104), .bin .eql (.t 103) (.c (.int .u8 108)), (some (101, true)), 0, 63⟩,
  ⟨(some 105), .move (.t 104), (some (101, true)), 0, 127⟩,
  ⟨(some 106), .move (.t 10), (some (105, false)), 0, 255⟩,
  ⟨(some 107), .strIndex (.t 106) (.c (.int .i64 0)), (some (105, false)), 0, 511⟩,
  ⟨(some 108), .bin .eql (.t 107) (.c (.int .u8 76)), (some (105, false)), 0, 1023⟩,
  ⟨(some 109), .pick (.t 105) (.c (.bool true)) (.t 108), (some (101, true)), 0, 2047⟩,
  ⟨(some 110), .pick (.t 101) (.t 109) (.c (.bool false)), none, 0, 4095⟩,
  ⟨(some 111), .move (.t 110), none, 0, 8191⟩,
  ⟨(some 112), .move (.t 10), (some (111, true)), 0, 16383⟩,
  ⟨(some 113), .strIndex (.t 112) (.c (.int .i64 1)), (some (111, true)), 0, 32767⟩,
  ⟨(some 114), .bin .eql (.t 113) (.c (.int .u8 117)), (some (111, true)), 0, 65535⟩,
  ⟨(some 115), .move (.t 114), (some (111, true)), 0, 131071⟩,
  ⟨(some 116), .move (.t 10), (some (115, false)), 0, 262143⟩,
  ⟨(some 117), .strIndex (.t 116) (.c (.int .i64 1)), (some (115, false)), 0, 524287⟩,
  ⟨(some 118), .bin .eql (.t 117) (.c (.int .u8 85)), (some (115, false)), 0, 1048575⟩,
  ⟨(some 119), .pick (.t 115) (.c (.bool true)) (.t 118), (some (111, true)), 0, 2097151⟩,
  ⟨(some 120), .pick (.t 111) (.t 119) (.c (.bool false)), none, 0, 4194303⟩,
  ⟨(some 74), .move (.t 120), none, 0, 8388607⟩]
def f42r22 : List AOper := [
  ⟨(some 8), .move (.c (.bool true)), none, 0, 0⟩,
  ⟨(some 9), .move (.c (.bool true)), none, 0, 1⟩]
def f42r23 : List AOper := [
  ⟨(some 56), .build [(.int .i64 0), (.str []), (.int .i64 0), (.int .i64 0), (.int .i64 0), (.int .i64 0)] [], none, 0, 0⟩,
  ⟨none, .store 6 (.t 2) (.t 56), none, 0, 1⟩,
  ⟨(some 3), .move (.c (.bool false)), none, 0, 3⟩]
def f42r24 : List AOper := [
  ⟨(some 121), .move (.t 5), none, 0, 0⟩,
  ⟨(some 122), .move (.t 6), none, 0, 0⟩,
  ⟨(some 123), .bin .eql (.t 121) (.t 122), none, 0, 3⟩]
def f42r25 : List AOper := [
  ⟨(some 124), .build [(.int .i64 0), (.str []), (.int .i64 0), (.int .i64 0), (.int .i64 0), (.int .i64 0)] [], none, 0, 0⟩,
  ⟨none, .store 6 (.t 2) (.t 124), none, 0, 1⟩,
  ⟨(some 3), .move (.c (.bool false)), none, 0, 3⟩]
def f42r26 : List AOper := [
  ⟨(some 125), .move (.t 7), none, 0, 0⟩,
  ⟨(some 126), .bin .gtr (.t 125) (.c (.int .i64 2147483647)), none, 0, 1⟩,
  ⟨(some 127), .move (.t 126), none, 0, 3⟩,
  ⟨(some 128), .move (.t 8), (some (127, true)), 0, 7⟩,
  ⟨(some 129), .un .not (.t 128), (some (127, true)), 0, 15⟩,
  ⟨(some 130), .pick (.t 127) (.t 129) (.c (.bool false)), none, 0, 31⟩]
def f42r27 : List AOper := [
  ⟨(some 131), .move (.t 4), none, 0, 0⟩,
  ⟨(some 132), .bin .eql (.t 131) (.c (.int .i64 10)), none, 0, 1⟩]
def f42r28 : List AOper := [
  ⟨(some 133), .build [(.int .i64 0), (.str []), (.int .i64 0), (.int .i64 0), (.int .i64 0), (.int .i64 0)] [], none, 0, 0⟩,
  ⟨none, .store 6 (.t 2) (.t 133), none, 0, 1⟩,
  ⟨(some 3), .move (.c (.bool false)), none, 0, 3⟩]
def f42r29 : List AOper := [
  ⟨(some 8), .move (.c (.bool true)), none, 0, 0⟩]
def f42r30 : List AOper := [
  ⟨(some 134), .move (.t 8), none, 0, 0⟩,
  ⟨(some 135), .move (.t 9), none, 0, 0⟩,
  ⟨(some 136), .call (.c (.fn 65 [] [])) [(.t 134), (.t 135)], none, 0, 3⟩,
  ⟨(some 137), .move (.t 7), none, 0, 0⟩,
  ⟨(some 138), .build [(.int .i64 0), (.str []), (.int .i64 0), (.int .i64 0), (.int .i64 0), (.int .i64 0)] [(0, 1, (.c (.int .i64 3))), (1, 1, (.t 136)), (2, 1, (.t 137))], none, 0, 15⟩,
  ⟨none, .store 6 (.t 2) (.t 138), none, 0, 31⟩,
  ⟨(some 3), .move (.c (.bool true)), none, 0, 63⟩]
def f42c : ACode :=
  .seq (.region false f42r0 [0, 2] 1)
  (.seq (.region false f42r1 [0, 2, 4, 5] 0)
  (.seq (.seq (.region false f42r2 [0, 2, 4, 5, 13] 0)
  (.cond (.t 13)
    (.seq (.region false f42r3 [0, 2, 4, 5] 0)
    (.seq (.region false f42r4 [0, 2, 4, 5, 26] 0)
    (.cond (.t 26)
      (.region false f42r5 [0, 2, 4, 5] 0)
      (.skip))))
    (.skip)))
  (.seq (.region false f42r6 [0, 2, 4, 5, 6] 0)
  (.seq (.region false f42r7 [0, 2, 4, 5, 6, 7] 0)
  (.seq (.block 0 (.loop f42l8))
  (.seq (.region false f42r13 [0, 2, 4, 5, 6, 7, 8, 9] 0)
  (.seq (.region false f42r14 [2, 4, 5, 6, 7, 8, 9, 10] 0)
  (.seq (.block 2 (.seq (.region false f42r15 [2, 4, 5, 6, 7, 8, 9, 10, 57] 0)
    (.cond (.t 57)
      (.skip)
      (.seq (.region false f42r16 [2, 4, 5, 6, 7, 8, 9, 10, 60] 0)
      (.cond (.t 60)
        (.region false f42r17 [2, 4, 5, 6, 7, 8, 9] 0)
        (.seq (.region false f42r18 [2, 4, 5, 6, 7, 8, 10, 67] 0)
        (.cond (.t 67)
          (.region false f42r19 [2, 4, 5, 6, 7, 8, 9] 0)
          (.seq (.seq (.region false f42r20 [2, 4, 5, 6, 7, 10, 74] 0)
          (.cond (.t 74)
            (.skip)
            (.region false f42r21 [2, 4, 5, 6, 7, 74] 0)))
          (.cond (.t 74)
            (.region false f42r22 [2, 4, 5, 6, 7, 8, 9] 0)
            (.seq (.region false f42r23 [2, 3] 0)
            (.ret)))))))))))
  (.seq (.seq (.region false f42r24 [2, 4, 7, 8, 9, 123] 0)
  (.cond (.t 123)
    (.seq (.region false f42r25 [2, 3] 0)
    (.ret))
    (.skip)))
  (.seq (.seq (.region false f42r26 [2, 4, 7, 8, 9, 130] 0)
  (.cond (.t 130)
    (.seq (.seq (.region false f42r27 [2, 7, 9, 132] 0)
    (.cond (.t 132)
      (.seq (.region false f42r28 [2, 3] 0)
      (.ret))
      (.skip)))
    (.region false f42r29 [2, 7, 8, 9] 0))
    (.skip)))
  (.seq (.region false f42r30 [2, 3] 0)
  (.ret))))))))))))
def f42 : AFn := ⟨1, 139, [.cell 2 true 6, .tmp 3], f42c, 1, none⟩
def f42k : List (Nat × List Nat) := [(0, [0, 2]), (1, [0, 2, 4, 5]), (2, [0, 2, 4, 5, 13]), (3, [0, 2, 4, 5]), (4, [0, 2, 4, 5, 26]), (5, [0, 2, 4, 5]), (6, [0, 2, 4, 5, 6]), (7, [0, 2, 4, 5, 6, 7]), (8, [0, 2, 4, 5, 6, 7, 39]), (9, [0, 2, 4, 5, 6, 7]), (10, [0, 2, 4, 5, 6, 7, 49]), (11, [2, 3]), (12, [0, 2, 4, 5, 6, 7]), (13, [0, 2, 4, 5, 6, 7, 8, 9]), (14, [2, 4, 5, 6, 7, 8, 9, 10]), (16, [2, 4, 5, 6, 7, 8, 9, 10, 57]), (17, [2, 4, 5, 6, 7, 8, 9, 10, 60]), (19, [2, 4, 5, 6, 7, 8, 10, 67]), (21, [2, 4, 5, 6, 7, 10, 74]), (22, [2, 4, 5, 6, 7, 74]), (15, [2, 3]), (23, [2, 4, 5, 6, 7, 8, 9]), (20, [2, 4, 5, 6, 7, 8, 9]), (18, [2, 4, 5, 6, 7, 8, 9]), (24, [2, 4, 7, 8, 9, 123]), (25, [2, 3]), (26, [2, 4, 7, 8, 9, 130]), (27, [2, 7, 9, 132]), (28, [2, 3]), (29, [2, 7, 8, 9]), (30, [2, 3])]
def f42v : List Nat := []

/-! 43: mortise/mortiseref02.keyword, parameters [9], results [4] -/
def f43r0 : List AOper := [
  ⟨(some 2), .move (.c (.bool false)), none, 0, 0⟩]
def f43r1 : List AOper := [
  ⟨(some 5), .call (.c (.fn 66 [] [])) [], none, 0, 0⟩,
  ⟨(some 3), .move (.t 5), none, 0, 1⟩]
def f43r2 : List AOper := [
  ⟨(some 4), .move (.c (.int .i64 0)), none, 0, 0⟩]
def f43r3 : List AOper := [
  ⟨(some 6), .move (.t 4), none, 0, 0⟩,
  ⟨(some 7), .move (.t 3), none, 0, 0⟩,
  ⟨(some 8), .len 1 (.t 7), none, 0, 2⟩,
  ⟨(some 9), .bin .lss (.t 6) (.t 8), none, 0, 7⟩]
def f43r4 : List AOper := [
  ⟨(some 12), .move (.t 3), none, 0, 0⟩,
  ⟨(some 13), .move (.t 4), none, 0, 0⟩,
  ⟨(some 14), .idxAddr 1 (.t 12) (.t 13), none, 0, 3⟩,
  ⟨(some 15), .load false 1 (.t 14), none, 0, 7⟩,
  ⟨(some 16), .move (.t 0), none, 0, 0⟩,
  ⟨(some 17), .bin .eql (.t 15) (.t 16), none, 0, 31⟩]
def f43r5 : List AOper := [
  ⟨(some 2), .move (.c (.bool true)), none, 0, 0⟩]
def f43r6 : List AOper := [
  ⟨(some 10), .move (.t 4), none, 0, 0⟩,
  ⟨(some 11), .bin .add (.t 10) (.c (.int .i64 1)), none, 0, 1⟩,
  ⟨(some 4), .move (.t 11), none, 0, 3⟩]
def f43m3 : ACode :=
  .seq (.seq (.region false f43r3 [0, 3, 4, 9] 0)
  (.cond (.t 9)
    (.skip)
    (.exit 0)))
  (.seq (.block 1 (.seq (.region false f43r4 [0, 3, 4, 17] 0)
    (.cond (.t 17)
      (.seq (.region false f43r5 [2] 0)
      (.ret))
      (.skip))))
  (.region false f43r6 [0, 3, 4] 0))
def f43l3 : ACode := f43m3
theorem f43l3_b {A : Tab} {nt : Nat} {e : Env} {h : Heap} : Brun A nt f43l3 e h = Brun A nt f43m3 e h := rfl
def f43r7 : List AOper := [
  ⟨(some 2), .move (.c (.bool false)), none, 0, 0⟩]
def f43c : ACode :=
  .seq (.region false f43r0 [0] 0)
  (.seq (.region false f43r1 [0, 3] 0)
  (.seq (.seq (.region false f43r2 [0, 3, 4] 0)
  (.block 0 (.loop f43l3)))
  (.seq (.region false f43r7 [2] 0)
  (.ret))))
def f43 : AFn := ⟨1, 18, [.tmp 2], f43c, 1, none⟩
def f43k : List (Nat × List Nat) := [(0, [0]), (1, [0, 3]), (2, [0, 3, 4]), (3, [0, 3, 4, 9]), (5, [0, 3, 4, 17]), (6, [2]), (4, [0, 3, 4]), (7, [2])]
def f43v : List Nat := []

/-! 44: mortise/mortiseref02.quoted, parameters [9, 3], results [35, 3, 4] -/
def f44r0 : List AOper := [
  ⟨(some 4), .alloc false [(.int .i64 0), (.str []), (.int .i64 0), (.int .i64 0), (.int .i64 0), (.int .i64 0)], none, 0, 0⟩,
  ⟨(some 5), .move (.c (.int .i64 0)), none, 1, 0⟩,
  ⟨(some 6), .move (.c (.bool false)), none, 1, 2⟩]
def f44r1 : List AOper := [
  ⟨(some 12), .move (.t 0), none, 0, 0⟩,
  ⟨(some 13), .move (.t 1), none, 0, 0⟩,
  ⟨(some 14), .strIndex (.t 12) (.t 13), none, 0, 3⟩,
  ⟨(some 7), .move (.t 14), none, 0, 7⟩]
def f44r2 : List AOper := [
  ⟨(some 8), .move (.c (.is [] .nil)), none, 0, 0⟩]
def f44r3 : List AOper := [
  ⟨(some 15), .move (.t 1), none, 0, 0⟩,
  ⟨(some 16), .bin .add (.t 15) (.c (.int .i64 1)), none, 0, 1⟩,
  ⟨(some 1), .move (.t 16), none, 0, 3⟩]
def f44r4 : List AOper := [
  ⟨(some 17), .move (.t 1), none, 0, 0⟩,
  ⟨(some 18), .move (.t 0), none, 0, 0⟩,
  ⟨(some 19), .len 0 (.t 18), none, 0, 2⟩,
  ⟨(some 20), .bin .lss (.t 17) (.t 19), none, 0, 7⟩,
  ⟨(some 21), .move (.t 20), none, 0, 15⟩,
  ⟨(some 22), .move (.t 0), (some (21, true)), 0, 31⟩,
  ⟨(some 23), .move (.t 1), (some (21, true)), 0, 31⟩,
  ⟨(some 24), .strIndex (.t 22) (.t 23), (some (21, true)), 0, 127⟩,
  ⟨(some 25), .move (.t 7), (some (21, true)), 0, 31⟩,
  ⟨(some 26), .bin .neq (.t 24) (.t 25), (some (21, true)), 0, 511⟩,
  ⟨(some 27), .pick (.t 21) (.t 26) (.c (.bool false)), none, 0, 1023⟩]
def f44r5 : List AOper := [
  ⟨(some 29), .move (.t 0), none, 0, 0⟩,
  ⟨(some 30), .move (.t 1), none, 0, 0⟩,
  ⟨(some 31), .move (.t 7), none, 0, 0⟩,
  ⟨(some 32), .call (.c (.fn 67 [] [])) [(.t 29), (.t 30), (.t 31)], none, 0, 7⟩,
  ⟨(some 28), .move (.t 32), none, 0, 15⟩,
  ⟨(some 33), .extract (.t 28) 0, none, 0, 31⟩,
  ⟨(some 34), .extract (.t 28) 1, none, 0, 31⟩,
  ⟨(some 35), .extract (.t 28) 2, none, 0, 31⟩,
  ⟨(some 9), .move (.t 33), none, 0, 63⟩,
  ⟨(some 10), .move (.t 34), none, 0, 383⟩,
  ⟨(some 11), .move (.t 35), none, 0, 1023⟩]
def f44r6 : List AOper := [
  ⟨(some 36), .move (.t 11), none, 0, 0⟩,
  ⟨(some 37), .un .not (.t 36), none, 0, 1⟩]
def f44r7 : List AOper := [
  ⟨(some 38), .build [(.int .i64 0), (.str []), (.int .i64 0), (.int .i64 0), (.int .i64 0), (.int .i64 0)] [], none, 0, 0⟩,
  ⟨(some 39), .move (.t 1), none, 0, 0⟩,
  ⟨none, .store 6 (.t 4) (.t 38), none, 0, 1⟩,
  ⟨(some 5), .move (.t 39), none, 0, 7⟩,
  ⟨(some 6), .move (.c (.bool false)), none, 0, 15⟩]
def f44r8 : List AOper := [
  ⟨(some 40), .move (.t 8), none, 0, 0⟩,
  ⟨(some 41), .move (.t 9), none, 0, 0⟩,
  ⟨(some 42), .buildSlice true 1 1 [(.int .u8 0)] [(0, 1, (.t 41))], none, 0, 2⟩,
  ⟨(some 43), .append true 1 1 (.t 40) (.t 42), none, 0, 7⟩,
  ⟨(some 8), .move (.t 43), none, 1, 15⟩]
def f44r9 : List AOper := [
  ⟨(some 44), .move (.t 10), none, 0, 0⟩,
  ⟨(some 1), .move (.t 44), none, 0, 1⟩]
def f44m4 : ACode :=
  .seq (.seq (.region false f44r4 [0, 1, 4, 7, 8, 27] 0)
  (.cond (.t 27)
    (.skip)
    (.exit 0)))
  (.block 1 (.seq (.region false f44r5 [0, 1, 4, 7, 8, 9, 10, 11] 0)
    (.seq (.seq (.region false f44r6 [0, 1, 4, 7, 8, 9, 10, 37] 0)
    (.cond (.t 37)
      (.seq (.region false f44r7 [4, 5, 6] 0)
      (.ret))
      (.skip)))
    (.seq (.region false f44r8 [0, 4, 7, 8, 10] 1)
    (.region false f44r9 [0, 1, 4, 7, 8] 0)))))
def f44l4 : ACode := f44m4
theorem f44l4_b {A : Tab} {nt : Nat} {e : Env} {h : Heap} : Brun A nt f44l4 e h = Brun A nt f44m4 e h := rfl
def f44r10 : List AOper := [
  ⟨(some 45), .move (.t 1), none, 0, 0⟩,
  ⟨(some 46), .move (.t 0), none, 0, 0⟩,
  ⟨(some 47), .len 0 (.t 46), none, 0, 2⟩,
  ⟨(some 48), .bin .geq (.t 45) (.t 47), none, 0, 7⟩]
def f44r11 : List AOper := [
  ⟨(some 49), .build [(.int .i64 0), (.str []), (.int .i64 0), (.int .i64 0), (.int .i64 0), (.int .i64 0)] [], none, 0, 0⟩,
  ⟨(some 50), .move (.t 1), none, 0, 0⟩,
  ⟨none, .store 6 (.t 4) (.t 49), none, 0, 1⟩,
  ⟨(some 5), .move (.t 50), none, 0, 7⟩,
  ⟨(some 6), .move (.c (.bool false)), none, 0, 15⟩]
def f44r12 : List AOper := [
  ⟨(some 51), .move (.t 7), none, 0, 0⟩,
  ⟨(some 52), .bin .eql (.t 51) (.c (.int .u8 34)), none, 0, 1⟩]
def f44r13 : List AOper := [
  ⟨(some 53), .move (.t 8), none, 0, 0⟩,
  ⟨(some 54), .toStr (.t 53), none, 0, 1⟩,
  ⟨(some 55), .build [(.int .i64 0), (.str []), (.int .i64 0), (.int .i64 0), (.int .i64 0), (.int .i64 0)] [(0, 1, (.c (.int .i64 5))), (1, 1, (.t 54))], none, 0, 3⟩,
  ⟨(some 56), .move (.t 1), none, 0, 0⟩,
  ⟨(some 57), .bin .add (.t 56) (.c (.int .i64 1)), none, 0, 8⟩,
  ⟨none, .store 6 (.t 4) (.t 55), none, 0, 7⟩,
  ⟨(some 5), .move (.t 57), none, 0, 63⟩,
  ⟨(some 6), .move (.c (.bool true)), none, 0, 127⟩]
def f44r14 : List AOper := [
  ⟨(some 58), .move (.t 8), none, 0, 0⟩,
  ⟨(some 59), .len 1 (.t 58), none, 0, 1⟩,
  ⟨(some 60), .bin .neq (.t 59) (.c (.int .i64 1)), none, 0, 3⟩]
def f44r15 : List AOper := [
  ⟨(some 61), .build [(.int .i64 0), (.str []), (.int .i64 0), (.int .i64 0), (.int .i64 0), (.int .i64 0)] [], none, 0, 0⟩,
  ⟨(some 62), .move (.t 1), none, 0, 0⟩,
  ⟨none, .store 6 (.t 4) (.t 61), none, 0, 1⟩,
  ⟨(some 5), .move (.t 62), none, 0, 7⟩,
  ⟨(some 6), .move (.c (.bool false)), none, 0, 15⟩]
def f44r16 : List AOper := [
  ⟨(some 63), .move (.t 8), none, 0, 0⟩,
  ⟨(some 64), .idxAddr 1 (.t 63) (.c (.int .i64 0)), none, 0, 1⟩,
  ⟨(some 65), .load false 1 (.t 64), none, 0, 3⟩,
  ⟨(some 66), .conv .i8 (.t 65), none, 0, 7⟩,
  ⟨(some 67), .conv .i64 (.t 66), none, 0, 15⟩,
  ⟨(some 68), .build [(.int .i64 0), (.str []), (.int .i64 0), (.int .i64 0), (.int .i64 0), (.int .i64 0)] [(0, 1, (.c (.int .i64 4))), (2, 1, (.t 67))], none, 0, 31⟩,
  ⟨(some 69), .move (.t 1), none, 0, 0⟩,
  ⟨(some 70), .bin .add (.t 69) (.c (.int .i64 1)), none, 0, 64⟩,
  ⟨none, .store 6 (.t 4) (.t 68), none, 0, 63⟩,
  ⟨(some 5), .move (.t 70), none, 0, 511⟩,
  ⟨(some 6), .move (.c (.bool true)), none, 0, 1023⟩]
def f44c : ACode :=
  .seq (.region false f44r0 [0, 1, 4] 1)
  (.seq (.region false f44r1 [0, 1, 4, 7] 0)
  (.seq (.region false f44r2 [0, 1, 4, 7, 8] 0)
  (.seq (.region false f44r3 [0, 1, 4, 7, 8] 0)
  (.seq (.block 0 (.loop f44l4))
  (.seq (.seq (.region false f44r10 [1, 4, 7, 8, 48] 0)
  (.cond (.t 48)
    (.seq (.region false f44r11 [4, 5, 6] 0)
    (.ret))
    (.skip)))
  (.seq (.seq (.region false f44r12 [1, 4, 8, 52] 0)
  (.cond (.t 52)
    (.seq (.region false f44r13 [4, 5, 6] 0)
    (.ret))
    (.skip)))
  (.seq (.seq (.region false f44r14 [1, 4, 8, 60] 0)
  (.cond (.t 60)
    (.seq (.region false f44r15 [4, 5, 6] 0)
    (.ret))
    (.skip)))
  (.seq (.region false f44r16 [4, 5, 6] 0)
  (.ret)))))))))
def f44 : AFn := ⟨2, 71, [.cell 4 true 6, .tmp 5, .tmp 6], f44c, 1, none⟩
def f44k : List (Nat × List Nat) := [(0, [0, 1, 4]), (1, [0, 1, 4, 7]), (2, [0, 1, 4, 7, 8]), (3, [0, 1, 4, 7, 8]), (4, [0, 1, 4, 7, 8, 27]), (5, [0, 1, 4, 7, 8, 9, 10, 11]), (6, [0, 1, 4, 7, 8, 9, 10, 37]), (7, [4, 5, 6]), (8, [0, 4, 7, 8, 10]), (9, [0, 1, 4, 7, 8]), (10, [1, 4, 7, 8, 48]), (11, [4, 5, 6]), (12, [1, 4, 8, 52]), (13, [4, 5, 6]), (14, [1, 4, 8, 60]), (15, [4, 5, 6]), (16, [4, 5, 6])]
def f44v : List Nat := [67, 66, 54, 43, 42]

/-! 45: mortise/mortiseref02.Signs, parameters [], results [63] -/
def f45r0 : List AOper := [
  ⟨(some 0), .move (.c (.is [] .nil)), none, 0, 0⟩]
def f45r1 : List AOper := [
  ⟨(some 1), .buildSlice true 1 45 (List.replicate 45 (.str [])) [(0, 1, (.c (.str [60, 60, 61]))), (1, 1, (.c (.str [62, 62, 61]))), (2, 1, (.c (.str [45, 62]))), (3, 1, (.c (.str [43, 43]))), (4, 1, (.c (.str [45, 45]))), (5, 1, (.c (.str [60, 60]))), (6, 1, (.c (.str [62, 62]))), (7, 1, (.c (.str [60, 61]))), (8, 1, (.c (.str [62, 61]))), (9, 1, (.c (.str [61, 61]))), (10, 1, (.c (.str [33, 61]))), (11, 1, (.c (.str [38, 38]))), (12, 1, (.c (.str [124, 124]))), (13, 1, (.c (.str [42, 61]))), (14, 1, (.c (.str [47, 61]))), (15, 1, (.c (.str [37, 61]))), (16, 1, (.c (.str [43, 61]))), (17, 1, (.c (.str [45, 61]))), (18, 1, (.c (.str [38, 61]))), (19, 1, (.c (.str [94, 61]))), (20, 1, (.c (.str [124, 61]))), (21, 1, (.c (.str [91]))), (22, 1, (.c (.str [93]))), (23, 1, (.c (.str [40]))), (24, 1, (.c (.str [41]))), (25, 1, (.c (.str [123]))), (26, 1, (.c (.str [125]))), (27, 1, (.c (.str [46]))), (28, 1, (.c (.str [38]))), (29, 1, (.c (.str [42]))), (30, 1, (.c (.str [43]))), (31, 1, (.c (.str [45]))), (32, 1, (.c (.str [126]))), (33, 1, (.c (.str [33]))), (34, 1, (.c (.str [47]))), (35, 1, (.c (.str [37]))), (36, 1, (.c (.str [60]))), (37, 1, (.c (.str [62]))), (38, 1, (.c (.str [94]))), (39, 1, (.c (.str [124]))), (40, 1, (.c (.str [63]))), (41, 1, (.c (.str [58]))), (42, 1, (.c (.str [59]))), (43, 1, (.c (.str [61]))), (44, 1, (.c (.str [44])))], none, 0, 0⟩,
  ⟨(some 0), .move (.t 1), none, 0, 1⟩]
def f45c : ACode :=
  .seq (.region false f45r0 [] 0)
  (.seq (.region false f45r1 [0] 0)
  (.ret))
def f45 : AFn := ⟨0, 2, [.tmp 0], f45c, 1, none⟩
def f45k : List (Nat × List Nat) := [(0, []), (1, [0])]
def f45v : List Nat := [1]

/-! 46: mortise/token.alone, parameters [9, 33], results [4] -/
def f46r0 : List AOper := [
  ⟨(some 4), .move (.c (.bool false)), none, 0, 0⟩]
def f46r1 : List AOper := [
  ⟨(some 8), .move (.t 0), none, 0, 0⟩,
  ⟨(some 9), .bin .eql (.t 8) (.c (.str [])), none, 0, 1⟩,
  ⟨(some 10), .move (.t 9), none, 0, 3⟩,
  ⟨(some 11), .move (.t 0), (some (10, false)), 0, 7⟩,
  ⟨(some 12), .strIndex (.t 11) (.c (.int .i64 0)), (some (10, false)), 0, 15⟩,
  ⟨(some 13), .call (.c (.fn 31 [] [])) [(.t 12)], (some (10, false)), 0, 31⟩,
  ⟨(some 14), .un .not (.t 13), (some (10, false)), 0, 63⟩,
  ⟨(some 15), .pick (.t 10) (.c (.bool true)) (.t 14), none, 0, 127⟩]
def f46r2 : List AOper := [
  ⟨(some 4), .move (.c (.bool false)), none, 0, 0⟩]
def f46r3 : List AOper := [
  ⟨(some 17), .move (.t 0), none, 0, 0⟩,
  ⟨(some 18), .call (.c (.fn 16 [] [])) [(.t 17)], none, 0, 1⟩,
  ⟨(some 16), .move (.t 18), none, 0, 3⟩,
  ⟨(some 19), .extract (.t 16) 0, none, 0, 7⟩,
  ⟨(some 20), .extract (.t 16) 1, none, 0, 7⟩,
  ⟨(some 21), .extract (.t 16) 2, none, 0, 7⟩,
  ⟨(some 5), .alloc false [(.int .i64 0), (.str []), (.int .i64 0), (.int .i64 0), (.int .i64 0), (.int .i64 0)], none, 0, 0⟩,
  ⟨none, .store 6 (.t 5) (.t 19), none, 1, 79⟩,
  ⟨(some 6), .move (.t 20), none, 1, 223⟩,
  ⟨(some 7), .move (.t 21), none, 1, 511⟩]
def f46r4 : List AOper := [
  ⟨(some 22), .move (.t 7), none, 0, 0⟩,
  ⟨(some 23), .bin .eql (.t 22) (.c (.int .i64 0)), none, 0, 1⟩,
  ⟨(some 24), .move (.t 23), none, 0, 3⟩,
  ⟨(some 25), .move (.t 6), (some (24, true)), 0, 7⟩,
  ⟨(some 26), .move (.t 0), (some (24, true)), 0, 7⟩,
  ⟨(some 27), .len 0 (.t 26), (some (24, true)), 0, 23⟩,
  ⟨(some 28), .bin .eql (.t 25) (.t 27), (some (24, true)), 0, 63⟩,
  ⟨(some 29), .pick (.t 24) (.t 28) (.c (.bool false)), none, 0, 127⟩,
  ⟨(some 30), .move (.t 29), none, 0, 255⟩,
  ⟨(some 31), .fieldAddr 0 (.t 5), (some (30, true)), 0, 511⟩,
  ⟨(some 32), .load false 1 (.t 31), (some (30, true)), 0, 1023⟩,
  ⟨(some 33), .move (.t 1), (some (30, true)), 0, 511⟩,
  ⟨(some 34), .bin .eql (.t 32) (.t 33), (some (30, true)), 0, 4095⟩,
  ⟨(some 35), .pick (.t 30) (.t 34) (.c (.bool false)), none, 0, 8191⟩,
  ⟨(some 4), .move (.t 35), none, 0, 16383⟩]
def f46c : ACode :=
  .seq (.region false f46r0 [0, 1] 0)
  (.seq (.seq (.region false f46r1 [0, 1, 15] 0)
  (.cond (.t 15)
    (.seq (.region false f46r2 [4] 0)
    (.ret))
    (.skip)))
  (.seq (.region false f46r3 [0, 1, 5, 6, 7] 1)
  (.seq (.region false f46r4 [4] 0)
  (.ret))))
def f46 : AFn := ⟨2, 36, [.tmp 4], f46c, 1, none⟩
def f46k : List (Nat × List Nat) := [(0, [0, 1]), (1, [0, 1, 15]), (2, [4]), (3, [0, 1, 5, 6, 7]), (4, [4])]
def f46v : List Nat := []

/-! 47: strings.LastIndexByte, parameters [9, 5], results [3] -/
def f47r0 : List AOper := [
  ⟨(some 4), .move (.c (.int .i64 0)), none, 0, 0⟩]
def f47r1 : List AOper := [
  ⟨(some 5), .move (.t 0), none, 0, 0⟩,
  ⟨(some 6), .move (.t 1), none, 0, 0⟩,
  ⟨(some 7), .call (.c (.fn 68 [] [])) [(.t 5), (.t 6)], none, 0, 3⟩,
  ⟨(some 4), .move (.t 7), none, 0, 7⟩]
def f47c : ACode :=
  .seq (.region false f47r0 [0, 1] 0)
  (.seq (.region false f47r1 [4] 0)
  (.ret))
def f47 : AFn := ⟨2, 8, [.tmp 4], f47c, 1, none⟩
def f47k : List (Nat × List Nat) := [(0, [0, 1]), (1, [4])]
def f47v : List Nat := []

/-! 48: strings.Count, parameters [9, 9], results [3] -/
def f48r0 : List AOper := [
  ⟨(some 4), .move (.c (.int .i64 0)), none, 0, 0⟩]
def f48r1 : List AOper := [
  ⟨(some 7), .move (.t 1), none, 0, 0⟩,
  ⟨(some 8), .len 0 (.t 7), none, 0, 1⟩,
  ⟨(some 9), .bin .eql (.t 8) (.c (.int .i64 0)), none, 0, 3⟩]
def f48r2 : List AOper := [
  ⟨(some 10), .move (.t 0), none, 0, 0⟩,
  ⟨(some 11), .call (.c (.fn 69 [] [])) [(.t 10)], none, 0, 1⟩,
  ⟨(some 12), .bin .add (.t 11) (.c (.int .i64 1)), none, 0, 3⟩,
  ⟨(some 4), .move (.t 12), none, 0, 7⟩]
def f48r3 : List AOper := [
  ⟨(some 13), .move (.t 1), none, 0, 0⟩,
  ⟨(some 14), .len 0 (.t 13), none, 0, 1⟩,
  ⟨(some 15), .bin .eql (.t 14) (.c (.int .i64 1)), none, 0, 3⟩]
def f48r4 : List AOper := [
  ⟨(some 16), .move (.t 0), none, 0, 0⟩,
  ⟨(some 17), .move (.t 1), none, 0, 0⟩,
  ⟨(some 18), .strIndex (.t 17) (.c (.int .i64 0)), none, 0, 2⟩,
  ⟨(some 19), .ext .count [(.t 16), (.t 18)], none, 0, 7⟩,
  ⟨(some 4), .move (.t 19), none, 0, 15⟩]
def f48r5 : List AOper := [
  ⟨(some 5), .move (.c (.int .i64 0)), none, 0, 0⟩]
def f48r6 : List AOper := [
  ⟨(some 20), .move (.t 0), none, 0, 0⟩,
  ⟨(some 21), .move (.t 1), none, 0, 0⟩,
  ⟨(some 22), .call (.c (.fn 30 [] [])) [(.t 20), (.t 21)], none, 0, 3⟩,
  ⟨(some 6), .move (.t 22), none, 0, 7⟩]
def f48r7 : List AOper := [
  ⟨(some 23), .move (.t 6), none, 0, 0⟩,
  ⟨(some 24), .bin .eql (.t 23) (.c (.int .i64 (-1))), none, 0, 1⟩]
def f48r8 : List AOper := [
  ⟨(some 25), .move (.t 5), none, 0, 0⟩,
  ⟨(some 4), .move (.t 25), none, 0, 1⟩]
def f48r9 : List AOper := [
  ⟨(some 26), .move (.t 5), none, 0, 0⟩,
  ⟨(some 27), .bin .add (.t 26) (.c (.int .i64 1)), none, 0, 1⟩,
  ⟨(some 5), .move (.t 27), none, 0, 3⟩]
def f48r10 : List AOper := [
  ⟨(some 28), .move (.t 0), none, 0, 0⟩,
  ⟨(some 29), .move (.t 6), none, 0, 0⟩,
  ⟨(some 30), .move (.t 1), none, 0, 0⟩,
  ⟨(some 31), .len 0 (.t 30), none, 0, 4⟩,
  ⟨(some 32), .bin .add (.t 29) (.t 31), none, 0, 14⟩,
  ⟨(some 33), .strSlice (.t 28) (some (.t 32)) none, none, 0, 31⟩,
  ⟨(some 0), .move (.t 33), none, 0, 63⟩]
def f48m6 : ACode :=
  .block 1 (.seq (.region false f48r6 [0, 1, 5, 6] 0)
    (.seq (.seq (.region false f48r7 [0, 1, 5, 6, 24] 0)
    (.cond (.t 24)
      (.seq (.region false f48r8 [4] 0)
      (.ret))
      (.skip)))
    (.seq (.region false f48r9 [0, 1, 5, 6] 0)
    (.region false f48r10 [0, 1, 5] 0))))
def f48l6 : ACode := f48m6
theorem f48l6_b {A : Tab} {nt : Nat} {e : Env} {h : Heap} : Brun A nt f48l6 e h = Brun A nt f48m6 e h := rfl
def f48c : ACode :=
  .seq (.region false f48r0 [0, 1] 0)
  (.seq (.seq (.region false f48r1 [0, 1, 9] 0)
  (.cond (.t 9)
    (.seq (.region false f48r2 [4] 0)
    (.ret))
    (.skip)))
  (.seq (.seq (.region false f48r3 [0, 1, 15] 0)
  (.cond (.t 15)
    (.seq (.region false f48r4 [4] 0)
    (.ret))
    (.skip)))
  (.seq (.region false f48r5 [0, 1, 5] 0)
  (.block 0 (.loop f48l6)))))
def f48 : AFn := ⟨2, 34, [.tmp 4], f48c, 1, none⟩
def f48k : List (Nat × List Nat) := [(0, [0, 1]), (1, [0, 1, 9]), (2, [4]), (3, [0, 1, 15]), (4, [4]), (5, [0, 1, 5]), (6, [0, 1, 5, 6]), (7, [0, 1, 5, 6, 24]), (8, [4]), (9, [0, 1, 5, 6]), (10, [0, 1, 5])]
def f48v : List Nat := []

/-! 49: mortise/token.may32, parameters [35], results [4] -/
def f49r0 : List AOper := [
  ⟨(some 1), .box true (.t 0), none, 0, 0⟩,
  ⟨(some 2), .move (.c (.bool false)), none, 0, 0⟩]
def f49r1 : List AOper := [
  ⟨(some 3), .fieldAddr 1 (.t 1), none, 0, 0⟩,
  ⟨(some 4), .load false 1 (.t 3), none, 0, 1⟩]
def f49r2 : List AOper := [
  ⟨(some 6), .bin .eql (.t 4) (.c (.str [105, 110, 116])), none, 0, 0⟩,
  ⟨(some 5), .move (.t 6), none, 0, 1⟩]
def f49r3 : List AOper := [
  ⟨(some 7), .bin .eql (.t 4) (.c (.str [108, 111, 110, 103])), none, 0, 0⟩,
  ⟨(some 5), .move (.t 7), none, 0, 1⟩]
def f49r4 : List AOper := [
  ⟨(some 8), .fieldAddr 2 (.t 1), none, 0, 0⟩,
  ⟨(some 9), .load false 1 (.t 8), none, 0, 1⟩,
  ⟨(some 10), .bin .geq (.t 9) (.c (.int .i64 0)), none, 0, 3⟩,
  ⟨(some 11), .move (.t 10), none, 0, 7⟩,
  ⟨(some 12), .fieldAddr 2 (.t 1), (some (11, true)), 0, 15⟩,
  ⟨(some 13), .load false 1 (.t 12), (some (11, true)), 0, 31⟩,
  ⟨(some 14), .bin .leq (.t 13) (.c (.int .i64 2147483647)), (some (11, true)), 0, 63⟩,
  ⟨(some 15), .pick (.t 11) (.t 14) (.c (.bool false)), none, 0, 127⟩,
  ⟨(some 2), .move (.t 15), none, 0, 255⟩]
def f49r5 : List AOper := [
  ⟨(some 17), .bin .eql (.t 4) (.c (.str [117, 110, 115, 105, 103, 110, 101, 100, 32, 105, 110, 116])), none, 0, 0⟩,
  ⟨(some 16), .move (.t 17), none, 0, 1⟩]
def f49r6 : List AOper := [
  ⟨(some 18), .bin .eql (.t 4) (.c (.str [117, 110, 115, 105, 103, 110, 101, 100, 32, 108, 111, 110, 103])), none, 0, 0⟩,
  ⟨(some 16), .move (.t 18), none, 0, 1⟩]
def f49r7 : List AOper := [
  ⟨(some 19), .fieldAddr 2 (.t 1), none, 0, 0⟩,
  ⟨(some 20), .load false 1 (.t 19), none, 0, 1⟩,
  ⟨(some 21), .bin .geq (.t 20) (.c (.int .i64 0)), none, 0, 3⟩,
  ⟨(some 22), .move (.t 21), none, 0, 7⟩,
  ⟨(some 23), .fieldAddr 2 (.t 1), (some (22, true)), 0, 15⟩,
  ⟨(some 24), .load false 1 (.t 23), (some (22, true)), 0, 31⟩,
  ⟨(some 25), .bin .leq (.t 24) (.c (.int .i64 4294967295)), (some (22, true)), 0, 63⟩,
  ⟨(some 26), .pick (.t 22) (.t 25) (.c (.bool false)), none, 0, 127⟩,
  ⟨(some 2), .move (.t 26), none, 0, 255⟩]
def f49r8 : List AOper := [
  ⟨(some 2), .move (.c (.bool false)), none, 0, 0⟩]
def f49c : ACode :=
  .seq (.region false f49r0 [1] 0)
  (.seq (.seq (.region false f49r1 [1, 4] 0)
  (.block 0 (.seq (.seq (.region false f49r2 [1, 4, 5] 0)
    (.cond (.t 5)
      (.skip)
      (.region false f49r3 [1, 4, 5] 0)))
    (.cond (.t 5)
      (.seq (.region false f49r4 [2] 0)
      (.ret))
      (.seq (.seq (.region false f49r5 [1, 4, 16] 0)
      (.cond (.t 16)
        (.skip)
        (.region false f49r6 [1, 16] 0)))
      (.cond (.t 16)
        (.seq (.region false f49r7 [2] 0)
        (.ret))
        (.skip)))))))
  (.seq (.region false f49r8 [2] 0)
  (.ret)))
def f49 : AFn := ⟨1, 27, [.tmp 2], f49c, 1, none⟩
def f49k : List (Nat × List Nat) := [(0, [1]), (1, [1, 4]), (2, [1, 4, 5]), (3, [1, 4, 5]), (5, [1, 4, 16]), (6, [1, 16]), (7, [2]), (4, [2]), (8, [2])]
def f49v : List Nat := [1]

/-! 50: strings.HasSuffix, parameters [9, 9], results [4] -/
def f50r0 : List AOper := [
  ⟨(some 4), .move (.c (.bool false)), none, 0, 0⟩]
def f50r1 : List AOper := [
  ⟨(some 5), .move (.t 0), none, 0, 0⟩,
  ⟨(some 6), .move (.t 1), none, 0, 0⟩,
  ⟨(some 7), .call (.c (.fn 71 [] [])) [(.t 5), (.t 6)], none, 0, 3⟩,
  ⟨(some 4), .move (.t 7), none, 0, 7⟩]
def f50c : ACode :=
  .seq (.region false f50r0 [0, 1] 0)
  (.seq (.region false f50r1 [4] 0)
  (.ret))
def f50 : AFn := ⟨2, 8, [.tmp 4], f50c, 1, none⟩
def f50k : List (Nat × List Nat) := [(0, [0, 1]), (1, [4])]
def f50v : List Nat := []

/-! 51: mortise/token.quote, parameters [9, 5], results [9] -/
def f51r0 : List AOper := [
  ⟨(some 4), .move (.c (.str [])), none, 0, 0⟩]
def f51r1 : List AOper := [
  ⟨(some 8), .move (.t 1), none, 0, 0⟩,
  ⟨(some 9), .buildSlice true 1 1 [(.int .u8 0)] [(0, 1, (.t 8))], none, 0, 1⟩,
  ⟨(some 5), .move (.t 9), none, 0, 3⟩]
def f51r2 : List AOper := [
  ⟨(some 10), .move (.t 0), none, 0, 0⟩,
  ⟨(some 11), .len 0 (.t 10), none, 0, 1⟩,
  ⟨(some 12), .move (.c (.int .i64 0)), none, 0, 0⟩]
def f51r3 : List AOper := [
  ⟨(some 13), .bin .lss (.t 12) (.t 11), none, 0, 0⟩]
def f51r4 : List AOper := [
  ⟨(some 14), .move (.t 12), none, 0, 0⟩,
  ⟨(some 6), .move (.t 14), none, 0, 1⟩]
def f51r5 : List AOper := [
  ⟨(some 15), .move (.t 0), none, 0, 0⟩,
  ⟨(some 16), .move (.t 6), none, 0, 0⟩,
  ⟨(some 17), .strIndex (.t 15) (.t 16), none, 0, 3⟩,
  ⟨(some 7), .move (.t 17), none, 0, 7⟩]
def f51r6 : List AOper := [
  ⟨(some 32), .move (.t 7), none, 0, 0⟩,
  ⟨(some 33), .bin .eql (.t 32) (.c (.int .u8 10)), none, 0, 1⟩,
  ⟨(some 31), .move (.t 33), none, 0, 3⟩]
def f51r7 : List AOper := [
  ⟨(some 34), .move (.t 5), none, 0, 0⟩,
  ⟨(some 35), .buildSlice true 1 2 [(.int .u8 0), (.int .u8 0)] [(0, 1, (.c (.int .u8 92))), (1, 1, (.c (.int .u8 110)))], none, 0, 0⟩,
  ⟨(some 36), .append true 1 1 (.t 34) (.t 35), none, 0, 3⟩,
  ⟨(some 5), .move (.t 36), none, 1, 7⟩]
def f51r8 : List AOper := [
  ⟨(some 38), .move (.t 7), none, 0, 0⟩,
  ⟨(some 39), .move (.t 1), none, 0, 0⟩,
  ⟨(some 40), .bin .eql (.t 38) (.t 39), none, 0, 3⟩,
  ⟨(some 41), .move (.t 40), none, 0, 7⟩,
  ⟨(some 42), .move (.t 7), (some (41, false)), 0, 15⟩,
  ⟨(some 43), .bin .eql (.t 42) (.c (.int .u8 92)), (some (41, false)), 0, 31⟩,
  ⟨(some 44), .pick (.t 41) (.c (.bool true)) (.t 43), none, 0, 63⟩,
  ⟨(some 37), .move (.t 44), none, 0, 127⟩]
def f51r9 : List AOper := [
  ⟨(some 45), .move (.t 5), none, 0, 0⟩,
  ⟨(some 46), .move (.t 7), none, 0, 0⟩,
  ⟨(some 47), .buildSlice true 1 2 [(.int .u8 0), (.int .u8 0)] [(0, 1, (.c (.int .u8 92))), (1, 1, (.t 46))], none, 0, 2⟩,
  ⟨(some 48), .append true 1 1 (.t 45) (.t 47), none, 0, 7⟩,
  ⟨(some 5), .move (.t 48), none, 1, 15⟩]
def f51r10 : List AOper := [
  ⟨(some 50), .move (.t 7), none, 0, 0⟩,
  ⟨(some 51), .bin .geq (.t 50) (.c (.int .u8 32)), none, 0, 1⟩,
  ⟨(some 52), .move (.t 51), none, 0, 3⟩,
  ⟨(some 53), .move (.t 7), (some (52, true)), 0, 7⟩,
  ⟨(some 54), .bin .leq (.t 53) (.c (.int .u8 126)), (some (52, true)), 0, 15⟩,
  ⟨(some 55), .pick (.t 52) (.t 54) (.c (.bool false)), none, 0, 31⟩,
  ⟨(some 49), .move (.t 55), none, 0, 63⟩]
def f51r11 : List AOper := [
  ⟨(some 56), .move (.t 5), none, 0, 0⟩,
  ⟨(some 57), .move (.t 7), none, 0, 0⟩,
  ⟨(some 58), .buildSlice true 1 1 [(.int .u8 0)] [(0, 1, (.t 57))], none, 0, 2⟩,
  ⟨(some 59), .append true 1 1 (.t 56) (.t 58), none, 0, 7⟩,
  ⟨(some 5), .move (.t 59), none, 1, 15⟩]
def f51r12 : List AOper := [
  ⟨(some 18), .move (.t 5), none, 0, 0⟩,
  ⟨(some 19), .move (.t 7), none, 0, 0⟩,
  ⟨(some 20), .bin .shr (.t 19) (.c (.int .u64 6)), none, 0, 2⟩,
  ⟨(some 21), .bin .add (.c (.int .u8 48)) (.t 20), none, 0, 6⟩,
  ⟨(some 22), .move (.t 7), none, 0, 0⟩,
  ⟨(some 23), .bin .shr (.t 22) (.c (.int .u64 3)), none, 0, 16⟩,
  ⟨(some 24), .bin .and (.t 23) (.c (.int .u8 7)), none, 0, 48⟩,
  ⟨(some 25), .bin .add (.c (.int .u8 48)) (.t 24), none, 0, 112⟩,
  ⟨(some 26), .move (.t 7), none, 0, 0⟩,
  ⟨(some 27), .bin .and (.t 26) (.c (.int .u8 7)), none, 0, 256⟩,
  ⟨(some 28), .bin .add (.c (.int .u8 48)) (.t 27), none, 0, 768⟩,
  ⟨(some 29), .buildSlice true 1 4 [(.int .u8 0), (.int .u8 0), (.int .u8 0), (.int .u8 0)] [(0, 1, (.c (.int .u8 92))), (1, 1, (.t 21)), (2, 1, (.t 25)), (3, 1, (.t 28))], none, 0, 2046⟩,
  ⟨(some 30), .append true 1 1 (.t 18) (.t 29), none, 0, 4095⟩,
  ⟨(some 5), .move (.t 30), none, 1, 8191⟩]
def f51r13 : List AOper := [
  ⟨(some 60), .bin .add (.t 12) (.c (.int .i64 1)), none, 0, 0⟩,
  ⟨(some 12), .move (.t 60), none, 0, 1⟩]
def f51m3 : ACode :=
  .seq (.region false f51r3 [0, 1, 5, 11, 12, 13] 0)
  (.seq (.cond (.t 13)
    (.skip)
    (.exit 0))
  (.seq (.block 1 (.seq (.region false f51r4 [0, 1, 5, 6, 11, 12] 0)
    (.seq (.region false f51r5 [0, 1, 5, 7, 11, 12] 0)
    (.block 2 (.seq (.region false f51r6 [0, 1, 5, 7, 11, 12, 31] 0)
      (.cond (.t 31)
        (.region false f51r7 [0, 1, 5, 11, 12] 1)
        (.seq (.region false f51r8 [0, 1, 5, 7, 11, 12, 37] 0)
        (.cond (.t 37)
          (.region false f51r9 [0, 1, 5, 11, 12] 1)
          (.seq (.region false f51r10 [0, 1, 5, 7, 11, 12, 49] 0)
          (.cond (.t 49)
            (.region false f51r11 [0, 1, 5, 11, 12] 1)
            (.region false f51r12 [0, 1, 5, 11, 12] 1)))))))))))
  (.region false f51r13 [0, 1, 5, 11, 12] 0)))
def f51l3 : ACode := f51m3
theorem f51l3_b {A : Tab} {nt : Nat} {e : Env} {h : Heap} : Brun A nt f51l3 e h = Brun A nt f51m3 e h := rfl
def f51r14 : List AOper := [
  ⟨(some 61), .move (.t 5), none, 0, 0⟩,
  ⟨(some 62), .move (.t 1), none, 0, 0⟩,
  ⟨(some 63), .buildSlice true 1 1 [(.int .u8 0)] [(0, 1, (.t 62))], none, 0, 2⟩,
  ⟨(some 64), .append true 1 1 (.t 61) (.t 63), none, 0, 7⟩,
  ⟨(some 65), .toStr (.t 64), none, 1, 15⟩,
  ⟨(some 4), .move (.t 65), none, 1, 31⟩]
def f51c : ACode :=
  .seq (.region false f51r0 [0, 1] 0)
  (.seq (.region false f51r1 [0, 1, 5] 0)
  (.seq (.seq (.region false f51r2 [0, 1, 5, 11, 12] 0)
  (.block 0 (.loop f51l3)))
  (.seq (.region false f51r14 [4] 1)
  (.ret))))
def f51 : AFn := ⟨2, 66, [.tmp 4], f51c, 1, none⟩
def f51k : List (Nat × List Nat) := [(0, [0, 1]), (1, [0, 1, 5]), (2, [0, 1, 5, 11, 12]), (3, [0, 1, 5, 11, 12, 13]), (4, [0, 1, 5, 6, 11, 12]), (5, [0, 1, 5, 7, 11, 12]), (7, [0, 1, 5, 7, 11, 12, 31]), (9, [0, 1, 5, 7, 11, 12, 37]), (11, [0, 1, 5, 7, 11, 12, 49]), (6, [0, 1, 5, 11, 12]), (12, [0, 1, 5, 11, 12]), (10, [0, 1, 5, 11, 12]), (8, [0, 1, 5, 11, 12]), (13, [0, 1, 5, 11, 12]), (14, [4])]
def f51v : List Nat := [65, 64, 63, 30, 29, 59, 58, 48, 47, 36, 35, 9]

/-! 56: internal/stringslite.HasPrefix, parameters [9, 9], results [4] -/
def f56r0 : List AOper := [
  ⟨(some 4), .move (.c (.bool false)), none, 0, 0⟩]
def f56r1 : List AOper := [
  ⟨(some 5), .move (.t 0), none, 0, 0⟩,
  ⟨(some 6), .len 0 (.t 5), none, 0, 1⟩,
  ⟨(some 7), .move (.t 1), none, 0, 0⟩,
  ⟨(some 8), .len 0 (.t 7), none, 0, 4⟩,
  ⟨(some 9), .bin .geq (.t 6) (.t 8), none, 0, 15⟩,
  ⟨(some 10), .move (.t 9), none, 0, 31⟩,
  ⟨(some 11), .move (.t 0), (some (10, true)), 0, 63⟩,
  ⟨(some 12), .move (.t 1), (some (10, true)), 0, 63⟩,
  ⟨(some 13), .len 0 (.t 12), (some (10, true)), 0, 191⟩,
  ⟨(some 14), .strSlice (.t 11) none (some (.t 13)), (some (10, true)), 0, 511⟩,
  ⟨(some 15), .move (.t 1), (some (10, true)), 0, 63⟩,
  ⟨(some 16), .bin .eql (.t 14) (.t 15), (some (10, true)), 0, 2047⟩,
  ⟨(some 17), .pick (.t 10) (.t 16) (.c (.bool false)), none, 0, 4095⟩,
  ⟨(some 4), .move (.t 17), none, 0, 8191⟩]
def f56c : ACode :=
  .seq (.region false f56r0 [0, 1] 0)
  (.seq (.region false f56r1 [4] 0)
  (.ret))
def f56 : AFn := ⟨2, 18, [.tmp 4], f56c, 1, none⟩
def f56k : List (Nat × List Nat) := [(0, [0, 1]), (1, [4])]
def f56v : List Nat := []

/-! 57: internal/stringslite.IndexByte, parameters [9, 5], results [3] -/
def f57r0 : List AOper := [
  ⟨(some 4), .move (.c (.int .i64 0)), none, 0, 0⟩]
def f57r1 : List AOper := [
  ⟨(some 5), .move (.t 0), none, 0, 0⟩,
  ⟨(some 6), .move (.t 1), none, 0, 0⟩,
  ⟨(some 7), .ext .idxByte [(.t 5), (.t 6)], none, 0, 3⟩,
  ⟨(some 4), .move (.t 7), none, 0, 7⟩]
def f57c : ACode :=
  .seq (.region false f57r0 [0, 1] 0)
  (.seq (.region false f57r1 [4] 0)
  (.ret))
def f57 : AFn := ⟨2, 8, [.tmp 4], f57c, 1, none⟩
def f57k : List (Nat × List Nat) := [(0, [0, 1]), (1, [4])]
def f57v : List Nat := []

/-! 60: mortise/token.number$1, parameters [5], results [4] -/
def f60r0 : List AOper := [
  ⟨(some 2), .move (.c (.bool false)), none, 0, 0⟩]
def f60r1 : List AOper := [
  ⟨(some 6), .move (.t 0), none, 0, 0⟩,
  ⟨(some 7), .call (.c (.fn 61 [] [])) [(.t 6)], none, 0, 1⟩,
  ⟨(some 5), .move (.t 7), none, 0, 3⟩,
  ⟨(some 8), .extract (.t 5) 0, none, 0, 7⟩,
  ⟨(some 9), .extract (.t 5) 1, none, 0, 7⟩,
  ⟨(some 3), .move (.t 8), none, 0, 15⟩,
  ⟨(some 4), .move (.t 9), none, 0, 63⟩]
def f60r2 : List AOper := [
  ⟨(some 10), .move (.t 4), none, 0, 0⟩,
  ⟨(some 2), .move (.t 10), none, 0, 1⟩]
def f60c : ACode :=
  .seq (.region false f60r0 [0] 0)
  (.seq (.region false f60r1 [4] 0)
  (.seq (.region false f60r2 [2] 0)
  (.ret)))
def f60 : AFn := ⟨1, 11, [.tmp 2], f60c, 1, none⟩
def f60k : List (Nat × List Nat) := [(0, [0]), (1, [4]), (2, [2])]
def f60v : List Nat := []

/-! 61: mortise/token.hex, parameters [5], results [3, 4] -/
def f61r0 : List AOper := [
  ⟨(some 2), .move (.c (.int .i64 0)), none, 0, 0⟩,
  ⟨(some 3), .move (.c (.bool false)), none, 0, 1⟩]
def f61r1 : List AOper := [
  ⟨(some 5), .move (.t 0), none, 0, 0⟩,
  ⟨(some 6), .call (.c (.fn 35 [] [])) [(.t 5)], none, 0, 1⟩,
  ⟨(some 4), .move (.t 6), none, 0, 3⟩]
def f61r2 : List AOper := [
  ⟨(some 7), .move (.t 0), none, 0, 0⟩,
  ⟨(some 8), .bin .sub (.t 7) (.c (.int .u8 48)), none, 0, 1⟩,
  ⟨(some 9), .conv .i64 (.t 8), none, 0, 3⟩,
  ⟨(some 2), .move (.t 9), none, 0, 7⟩,
  ⟨(some 3), .move (.c (.bool true)), none, 0, 15⟩]
def f61r3 : List AOper := [
  ⟨(some 11), .move (.t 0), none, 0, 0⟩,
  ⟨(some 12), .bin .or (.t 11) (.c (.int .u8 32)), none, 0, 1⟩,
  ⟨(some 13), .bin .geq (.t 12) (.c (.int .u8 97)), none, 0, 3⟩,
  ⟨(some 14), .move (.t 13), none, 0, 7⟩,
  ⟨(some 15), .move (.t 0), (some (14, true)), 0, 15⟩,
  ⟨(some 16), .bin .or (.t 15) (.c (.int .u8 32)), (some (14, true)), 0, 31⟩,
  ⟨(some 17), .bin .leq (.t 16) (.c (.int .u8 102)), (some (14, true)), 0, 63⟩,
  ⟨(some 18), .pick (.t 14) (.t 17) (.c (.bool false)), none, 0, 127⟩,
  ⟨(some 10), .move (.t 18), none, 0, 255⟩]
def f61r4 : List AOper := [
  ⟨(some 19), .move (.t 0), none, 0, 0⟩,
  ⟨(some 20), .bin .or (.t 19) (.c (.int .u8 32)), none, 0, 1⟩,
  ⟨(some 21), .bin .sub (.t 20) (.c (.int .u8 97)), none, 0, 3⟩,
  ⟨(some 22), .conv .i64 (.t 21), none, 0, 7⟩,
  ⟨(some 23), .bin .add (.t 22) (.c (.int .i64 10)), none, 0, 15⟩,
  ⟨(some 2), .move (.t 23), none, 0, 31⟩,
  ⟨(some 3), .move (.c (.bool true)), none, 0, 63⟩]
def f61r5 : List AOper := [
  ⟨(some 2), .move (.c (.int .i64 0)), none, 0, 0⟩,
  ⟨(some 3), .move (.c (.bool false)), none, 0, 1⟩]
def f61c : ACode :=
  .seq (.region false f61r0 [0] 0)
  (.seq (.block 0 (.seq (.region false f61r1 [0, 4] 0)
    (.cond (.t 4)
      (.seq (.region false f61r2 [2, 3] 0)
      (.ret))
      (.seq (.region false f61r3 [0, 10] 0)
      (.cond (.t 10)
        (.seq (.region false f61r4 [2, 3] 0)
        (.ret))
        (.skip))))))
  (.seq (.region false f61r5 [2, 3] 0)
  (.ret)))
def f61 : AFn := ⟨1, 24, [.tmp 2, .tmp 3], f61c, 1, none⟩
def f61k : List (Nat × List Nat) := [(0, [0]), (1, [0, 4]), (3, [0, 10]), (4, [2, 3]), (2, [2, 3]), (5, [2, 3])]
def f61v : List Nat := [22, 9]

end Go.Proofs.YtmpdpjkblcdfkaaGreatDoor
