/- The seat's functions as the machine's, part 0. Printed by a program. -/
import Derived.Test.YtmpdpjkblcdfkaaDoorLib
namespace Go.Proofs.YtmpdpjkblcdfkaaDoor
open Go.AM
set_option maxRecDepth 100000
/-! 3: mortise/mortiselaw02.TokenSpots, parameters [9, 3], results [4] -/
def f3r0 : List AOper := [
  ⟨(some 4), .move (.c (.bool false)), none, 0, 0⟩]
def f3r1 : List AOper := [
  ⟨(some 5), .move (.t 0), none, 0, 0⟩,
  ⟨(some 6), .move (.t 1), none, 0, 0⟩,
  ⟨(some 7), .call (.c (.fn 9 [] [])) [(.t 5), (.t 6)], none, 0, 3⟩,
  ⟨(some 8), .move (.t 0), none, 0, 0⟩,
  ⟨(some 9), .move (.t 1), none, 0, 0⟩,
  ⟨(some 10), .call (.c (.fn 10 [] [])) [(.t 8), (.t 9)], none, 0, 31⟩,
  ⟨(some 11), .eq false (.agg [.int .i64, .int .i64, .int .i64]) (.t 7) (.t 10), none, 0, 63⟩,
  ⟨(some 12), .move (.t 11), none, 0, 127⟩,
  ⟨(some 13), .move (.t 0), (some (12, true)), 0, 255⟩,
  ⟨(some 14), .call (.c (.fn 11 [] [])) [(.t 13)], (some (12, true)), 0, 511⟩,
  ⟨(some 15), .move (.t 0), (some (12, true)), 0, 255⟩,
  ⟨(some 16), .call (.c (.fn 12 [] [])) [(.t 15)], (some (12, true)), 0, 2047⟩,
  ⟨(some 17), .eq false .bool (.t 14) (.t 16), (some (12, true)), 0, 4095⟩,
  ⟨(some 18), .pick (.t 12) (.t 17) (.c (.bool false)), none, 0, 8191⟩,
  ⟨(some 19), .move (.t 18), none, 0, 16383⟩,
  ⟨(some 20), .move (.t 0), (some (19, true)), 0, 32767⟩,
  ⟨(some 21), .call (.c (.fn 13 [] [])) [(.t 20)], (some (19, true)), 0, 65535⟩,
  ⟨(some 22), .move (.t 0), (some (19, true)), 0, 32767⟩,
  ⟨(some 23), .call (.c (.fn 14 [] [])) [(.t 22)], (some (19, true)), 0, 262143⟩,
  ⟨(some 24), .eq false .bool (.t 21) (.t 23), (some (19, true)), 0, 524287⟩,
  ⟨(some 25), .pick (.t 19) (.t 24) (.c (.bool false)), none, 0, 1048575⟩,
  ⟨(some 26), .move (.t 25), none, 0, 2097151⟩,
  ⟨(some 27), .call (.c (.fn 15 [] [])) [], (some (26, true)), 0, 4194303⟩,
  ⟨(some 28), .pick (.t 26) (.t 27) (.c (.bool false)), none, 0, 8388607⟩,
  ⟨(some 4), .move (.t 28), none, 0, 16777215⟩]
def f3c : ACode :=
  .seq (.region false f3r0 [0, 1] 0)
  (.seq (.region false f3r1 [4] 0)
  (.ret))
def f3 : AFn := ⟨2, 29, [.tmp 4], f3c, 1, none⟩
def f3k : List (Nat × List Nat) := [(0, [0, 1]), (1, [4])]
def f3v : List Nat := []

/-! 4: mortise/mortiselaw02.TokenBack, parameters [28], results [4] -/
def f4r0 : List AOper := [
  ⟨(some 2), .move (.c (.bool false)), none, 0, 0⟩]
def f4r1 : List AOper := [
  ⟨(some 9), .move (.t 0), none, 0, 0⟩,
  ⟨(some 10), .call (.c (.fn 16 [] [])) [(.t 9)], none, 0, 1⟩,
  ⟨(some 8), .move (.t 10), none, 0, 3⟩,
  ⟨(some 11), .extract (.t 8) 0, none, 0, 7⟩,
  ⟨(some 12), .extract (.t 8) 1, none, 0, 7⟩,
  ⟨(some 3), .move (.t 11), none, 0, 15⟩,
  ⟨(some 4), .move (.t 12), none, 0, 63⟩]
def f4r2 : List AOper := [
  ⟨(some 13), .move (.t 4), none, 0, 0⟩,
  ⟨(some 14), .call (.c (.fn 17 [] [])) [(.t 13)], none, 0, 1⟩,
  ⟨(some 15), .bin .neq (.t 14) (.c (.int .i64 0)), none, 0, 3⟩]
def f4r3 : List AOper := [
  ⟨(some 16), .move (.t 3), none, 0, 0⟩,
  ⟨(some 17), .bin .eql (.t 16) (.c (.str [])), none, 0, 1⟩,
  ⟨(some 18), .move (.t 17), none, 0, 3⟩,
  ⟨(some 19), .call (.c (.fn 15 [] [])) [], (some (18, true)), 0, 7⟩,
  ⟨(some 20), .pick (.t 18) (.t 19) (.c (.bool false)), none, 0, 15⟩,
  ⟨(some 2), .move (.t 20), none, 0, 31⟩]
def f4r4 : List AOper := [
  ⟨(some 22), .move (.t 3), none, 0, 0⟩,
  ⟨(some 23), .call (.c (.fn 18 [] [])) [(.t 22)], none, 0, 1⟩,
  ⟨(some 21), .move (.t 23), none, 0, 3⟩,
  ⟨(some 24), .extract (.t 21) 0, none, 0, 7⟩,
  ⟨(some 25), .extract (.t 21) 1, none, 0, 7⟩,
  ⟨(some 6), .alloc false [(.int .i64 0), (.int .i64 0), (.int .i64 0), (.int .i64 0)], none, 0, 0⟩,
  ⟨(some 5), .move (.t 24), none, 1, 47⟩,
  ⟨none, .store 4 (.t 6) (.t 25), none, 1, 127⟩]
def f4r5 : List AOper := [
  ⟨(some 26), .fieldAddr 0 (.t 6), none, 0, 0⟩,
  ⟨(some 27), .load false 1 (.t 26), none, 0, 1⟩,
  ⟨(some 28), .call (.c (.fn 17 [] [])) [(.t 27)], none, 0, 3⟩,
  ⟨(some 29), .bin .eql (.t 28) (.c (.int .i64 23)), none, 0, 7⟩,
  ⟨(some 30), .move (.t 29), none, 0, 15⟩,
  ⟨(some 31), .fieldAddr 0 (.t 6), (some (30, false)), 0, 31⟩,
  ⟨(some 32), .load false 1 (.t 31), (some (30, false)), 0, 63⟩,
  ⟨(some 33), .call (.c (.fn 17 [] [])) [(.t 32)], (some (30, false)), 0, 127⟩,
  ⟨(some 34), .bin .eql (.t 33) (.c (.int .i64 24)), (some (30, false)), 0, 255⟩,
  ⟨(some 35), .pick (.t 30) (.c (.bool true)) (.t 34), none, 0, 511⟩]
def f4r6 : List AOper := [
  ⟨(some 36), .move (.t 0), none, 0, 0⟩,
  ⟨(some 37), .len 1 (.t 36), none, 0, 1⟩,
  ⟨(some 38), .bin .gtr (.t 37) (.c (.int .i64 16384)), none, 0, 3⟩,
  ⟨(some 39), .move (.t 38), none, 0, 7⟩,
  ⟨(some 40), .move (.t 3), (some (39, false)), 0, 15⟩,
  ⟨(some 41), .len 0 (.t 40), (some (39, false)), 0, 31⟩,
  ⟨(some 42), .bin .gtr (.t 41) (.c (.int .i64 65536)), (some (39, false)), 0, 63⟩,
  ⟨(some 43), .pick (.t 39) (.c (.bool true)) (.t 42), none, 0, 127⟩,
  ⟨(some 44), .move (.t 43), none, 0, 255⟩,
  ⟨(some 45), .call (.c (.fn 15 [] [])) [], (some (44, true)), 0, 511⟩,
  ⟨(some 46), .pick (.t 44) (.t 45) (.c (.bool false)), none, 0, 1023⟩,
  ⟨(some 2), .move (.t 46), none, 0, 2047⟩]
def f4r7 : List AOper := [
  ⟨(some 47), .move (.t 0), none, 0, 0⟩,
  ⟨(some 48), .call (.c (.fn 19 [] [])) [(.t 47)], none, 0, 1⟩,
  ⟨(some 7), .move (.t 48), none, 0, 3⟩]
def f4r8 : List AOper := [
  ⟨(some 49), .move (.t 7), none, 0, 0⟩,
  ⟨(some 50), .len 1 (.t 49), none, 0, 1⟩,
  ⟨(some 51), .bin .eql (.t 50) (.c (.int .i64 0)), none, 0, 3⟩,
  ⟨(some 52), .move (.t 51), none, 0, 7⟩,
  ⟨(some 53), .move (.t 7), (some (52, false)), 0, 15⟩,
  ⟨(some 54), .move (.t 7), (some (52, false)), 0, 15⟩,
  ⟨(some 55), .len 1 (.t 54), (some (52, false)), 0, 47⟩,
  ⟨(some 56), .bin .sub (.t 55) (.c (.int .i64 1)), (some (52, false)), 0, 111⟩,
  ⟨(some 57), .idxAddr 6 (.t 53) (.t 56), (some (52, false)), 0, 255⟩,
  ⟨(some 58), .fieldAddr 0 (.t 57), (some (52, false)), 0, 511⟩,
  ⟨(some 59), .load false 1 (.t 58), (some (52, false)), 0, 1023⟩,
  ⟨(some 60), .bin .neq (.t 59) (.c (.int .i64 0)), (some (52, false)), 0, 2047⟩,
  ⟨(some 61), .pick (.t 52) (.c (.bool true)) (.t 60), none, 0, 4095⟩]
def f4r9 : List AOper := [
  ⟨(some 62), .move (.t 7), none, 0, 0⟩,
  ⟨(some 63), .build [(.int .i64 0), (.str []), (.int .i64 0), (.int .i64 0), (.int .i64 0), (.int .i64 0)] [], none, 0, 0⟩,
  ⟨(some 64), .buildSlice true 6 1 [(.int .i64 0), (.str []), (.int .i64 0), (.int .i64 0), (.int .i64 0), (.int .i64 0)] [(0, 6, (.t 63))], none, 0, 2⟩,
  ⟨(some 65), .append true 6 56 (.t 62) (.t 64), none, 0, 7⟩,
  ⟨(some 7), .move (.t 65), none, 1, 15⟩]
def f4r10 : List AOper := [
  ⟨(some 66), .load true 4 (.t 6), none, 0, 0⟩,
  ⟨(some 67), .build [(.int .i64 0), (.int .i64 0), (.int .i64 0), (.int .i64 0)] [], none, 0, 0⟩,
  ⟨(some 68), .eq false (.agg [.int .i64, .int .i64, .int .i64, .int .i64]) (.t 66) (.t 67), none, 0, 3⟩,
  ⟨(some 69), .move (.t 68), none, 0, 7⟩,
  ⟨(some 70), .move (.t 5), (some (69, true)), 0, 15⟩,
  ⟨(some 71), .call (.c (.fn 19 [] [])) [(.t 70)], (some (69, true)), 0, 31⟩,
  ⟨(some 72), .move (.t 7), (some (69, true)), 0, 15⟩,
  ⟨(some 73), .call (.c (.fn 20 [] [])) [(.t 71), (.t 72)], (some (69, true)), 0, 127⟩,
  ⟨(some 74), .pick (.t 69) (.t 73) (.c (.bool false)), none, 0, 255⟩,
  ⟨(some 75), .move (.t 74), none, 0, 511⟩,
  ⟨(some 76), .call (.c (.fn 15 [] [])) [], (some (75, true)), 0, 1023⟩,
  ⟨(some 77), .pick (.t 75) (.t 76) (.c (.bool false)), none, 0, 2047⟩,
  ⟨(some 2), .move (.t 77), none, 0, 4095⟩]
def f4c : ACode :=
  .seq (.region false f4r0 [0] 0)
  (.seq (.region false f4r1 [0, 3, 4] 0)
  (.seq (.seq (.region false f4r2 [0, 3, 15] 0)
  (.cond (.t 15)
    (.seq (.region false f4r3 [2] 0)
    (.ret))
    (.skip)))
  (.seq (.region false f4r4 [0, 3, 5, 6] 1)
  (.seq (.seq (.region false f4r5 [0, 3, 5, 6, 35] 0)
  (.cond (.t 35)
    (.seq (.region false f4r6 [2] 0)
    (.ret))
    (.skip)))
  (.seq (.region false f4r7 [5, 6, 7] 0)
  (.seq (.seq (.region false f4r8 [5, 6, 7, 61] 0)
  (.cond (.t 61)
    (.region false f4r9 [5, 6, 7] 1)
    (.skip)))
  (.seq (.region false f4r10 [2] 0)
  (.ret))))))))
def f4 : AFn := ⟨1, 78, [.tmp 2], f4c, 1, none⟩
def f4k : List (Nat × List Nat) := [(0, [0]), (1, [0, 3, 4]), (2, [0, 3, 15]), (3, [2]), (4, [0, 3, 5, 6]), (5, [0, 3, 5, 6, 35]), (6, [2]), (7, [5, 6, 7]), (8, [5, 6, 7, 61]), (9, [5, 6, 7]), (10, [2])]
def f4v : List Nat := [65, 64]

/-! 5: mortise/mortiselaw02.TokenSilent, parameters [9, 43], results [4] -/
def f5r0 : List AOper := [
  ⟨(some 4), .move (.c (.bool false)), none, 0, 0⟩]
def f5r1 : List AOper := [
  ⟨(some 16), .move (.t 0), none, 0, 0⟩,
  ⟨(some 17), .call (.c (.fn 18 [] [])) [(.t 16)], none, 0, 1⟩,
  ⟨(some 15), .move (.t 17), none, 0, 3⟩,
  ⟨(some 18), .extract (.t 15) 0, none, 0, 7⟩,
  ⟨(some 19), .extract (.t 15) 1, none, 0, 7⟩,
  ⟨(some 6), .alloc false [(.int .i64 0), (.int .i64 0), (.int .i64 0), (.int .i64 0)], none, 0, 0⟩,
  ⟨(some 5), .move (.t 18), none, 1, 47⟩,
  ⟨none, .store 4 (.t 6) (.t 19), none, 1, 127⟩]
def f5r2 : List AOper := [
  ⟨(some 20), .load true 4 (.t 6), none, 0, 0⟩,
  ⟨(some 21), .build [(.int .i64 0), (.int .i64 0), (.int .i64 0), (.int .i64 0)] [], none, 0, 0⟩,
  ⟨(some 22), .eq true (.agg [.int .i64, .int .i64, .int .i64, .int .i64]) (.t 20) (.t 21), none, 0, 3⟩]
def f5r3 : List AOper := [
  ⟨(some 23), .fieldAddr 0 (.t 6), none, 0, 0⟩,
  ⟨(some 24), .load false 1 (.t 23), none, 0, 1⟩,
  ⟨(some 25), .call (.c (.fn 17 [] [])) [(.t 24)], none, 0, 3⟩,
  ⟨(some 26), .bin .geq (.t 25) (.c (.int .i64 20)), none, 0, 7⟩,
  ⟨(some 27), .move (.t 26), none, 0, 15⟩,
  ⟨(some 28), .fieldAddr 0 (.t 6), (some (27, true)), 0, 31⟩,
  ⟨(some 29), .load false 1 (.t 28), (some (27, true)), 0, 63⟩,
  ⟨(some 30), .call (.c (.fn 17 [] [])) [(.t 29)], (some (27, true)), 0, 127⟩,
  ⟨(some 31), .bin .leq (.t 30) (.c (.int .i64 26)), (some (27, true)), 0, 255⟩,
  ⟨(some 32), .pick (.t 27) (.t 31) (.c (.bool false)), none, 0, 511⟩,
  ⟨(some 33), .move (.t 32), none, 0, 1023⟩,
  ⟨(some 34), .call (.c (.fn 15 [] [])) [], (some (33, true)), 0, 2047⟩,
  ⟨(some 35), .pick (.t 33) (.t 34) (.c (.bool false)), none, 0, 4095⟩,
  ⟨(some 4), .move (.t 35), none, 0, 8191⟩]
def f5r4 : List AOper := [
  ⟨(some 36), .buildSlice true 1 6 (List.replicate 6 (.str [])) [(0, 1, (.c (.str [32]))), (1, 1, (.c (.str [10]))), (2, 1, (.c (.str [47, 42, 34, 42, 47]))), (3, 1, (.c (.str [9, 13, 11, 12, 32]))), (4, 1, (.c (.str [47, 47, 32, 39, 10]))), (5, 1, (.c (.str [47, 42, 42, 42, 47, 32, 47, 42, 42, 47])))], none, 0, 0⟩,
  ⟨(some 7), .move (.t 36), none, 0, 1⟩]
def f5r5 : List AOper := [
  ⟨(some 8), .move (.c (.str [10])), none, 0, 0⟩]
def f5r6 : List AOper := [
  ⟨(some 9), .move (.c (.int .i64 0)), none, 0, 0⟩]
def f5r7 : List AOper := [
  ⟨(some 37), .move (.t 9), none, 0, 0⟩,
  ⟨(some 38), .move (.t 5), none, 0, 0⟩,
  ⟨(some 39), .len 1 (.t 38), none, 0, 2⟩,
  ⟨(some 40), .bin .lss (.t 37) (.t 39), none, 0, 7⟩,
  ⟨(some 41), .move (.t 40), none, 0, 15⟩,
  ⟨(some 42), .move (.t 8), (some (41, true)), 0, 31⟩,
  ⟨(some 43), .len 0 (.t 42), (some (41, true)), 0, 63⟩,
  ⟨(some 44), .bin .lss (.t 43) (.c (.int .i64 60000)), (some (41, true)), 0, 127⟩,
  ⟨(some 45), .pick (.t 41) (.t 44) (.c (.bool false)), none, 0, 255⟩]
def f5r8 : List AOper := [
  ⟨(some 49), .move (.t 5), none, 0, 0⟩,
  ⟨(some 50), .move (.t 9), none, 0, 0⟩,
  ⟨(some 51), .idxAddr 6 (.t 49) (.t 50), none, 0, 3⟩,
  ⟨(some 52), .load true 6 (.t 51), none, 0, 7⟩,
  ⟨(some 53), .call (.c (.fn 21 [] [])) [(.t 52)], none, 0, 15⟩,
  ⟨(some 48), .move (.t 53), none, 0, 31⟩,
  ⟨(some 54), .extract (.t 48) 0, none, 0, 63⟩,
  ⟨(some 55), .extract (.t 48) 1, none, 0, 63⟩,
  ⟨(some 10), .move (.t 54), none, 0, 127⟩,
  ⟨(some 11), .move (.t 55), none, 0, 511⟩]
def f5r9 : List AOper := [
  ⟨(some 56), .move (.t 11), none, 0, 0⟩,
  ⟨(some 57), .call (.c (.fn 17 [] [])) [(.t 56)], none, 0, 1⟩,
  ⟨(some 58), .bin .neq (.t 57) (.c (.int .i64 0)), none, 0, 3⟩]
def f5r10 : List AOper := [
  ⟨(some 4), .move (.c (.bool false)), none, 0, 0⟩]
def f5r11 : List AOper := [
  ⟨(some 12), .move (.c (.int .i64 0)), none, 0, 0⟩]
def f5r12 : List AOper := [
  ⟨(some 59), .move (.t 9), none, 0, 0⟩,
  ⟨(some 60), .move (.t 1), none, 0, 0⟩,
  ⟨(some 61), .len 1 (.t 60), none, 0, 2⟩,
  ⟨(some 62), .bin .lss (.t 59) (.t 61), none, 0, 7⟩]
def f5r13 : List AOper := [
  ⟨(some 63), .move (.t 1), none, 0, 0⟩,
  ⟨(some 64), .move (.t 9), none, 0, 0⟩,
  ⟨(some 65), .idxAddr 1 (.t 63) (.t 64), none, 0, 3⟩,
  ⟨(some 66), .load false 1 (.t 65), none, 0, 7⟩,
  ⟨(some 67), .conv .i64 (.t 66), none, 0, 15⟩,
  ⟨(some 68), .move (.t 7), none, 0, 0⟩,
  ⟨(some 69), .len 1 (.t 68), none, 0, 32⟩,
  ⟨(some 70), .bin .rem (.t 67) (.t 69), none, 0, 127⟩,
  ⟨(some 12), .move (.t 70), none, 0, 255⟩]
def f5r14 : List AOper := [
  ⟨(some 71), .move (.t 8), none, 0, 0⟩,
  ⟨(some 72), .move (.t 10), none, 0, 0⟩,
  ⟨(some 73), .bin .add (.t 71) (.t 72), none, 0, 3⟩,
  ⟨(some 74), .bin .add (.t 73) (.c (.str [32])), none, 0, 7⟩,
  ⟨(some 75), .move (.t 7), none, 0, 0⟩,
  ⟨(some 76), .move (.t 12), none, 0, 0⟩,
  ⟨(some 77), .idxAddr 1 (.t 75) (.t 76), none, 0, 48⟩,
  ⟨(some 78), .load false 1 (.t 77), none, 0, 112⟩,
  ⟨(some 79), .bin .add (.t 74) (.t 78), none, 0, 255⟩,
  ⟨(some 8), .move (.t 79), none, 0, 511⟩]
def f5r15 : List AOper := [
  ⟨(some 46), .move (.t 9), none, 0, 0⟩,
  ⟨(some 47), .bin .add (.t 46) (.c (.int .i64 1)), none, 0, 1⟩,
  ⟨(some 9), .move (.t 47), none, 0, 3⟩]
def f5m7 : ACode :=
  .seq (.seq (.region false f5r7 [1, 5, 7, 8, 9, 45] 0)
  (.cond (.t 45)
    (.skip)
    (.exit 0)))
  (.seq (.block 1 (.seq (.region false f5r8 [1, 5, 7, 8, 9, 10, 11] 0)
    (.seq (.seq (.region false f5r9 [1, 5, 7, 8, 9, 10, 58] 0)
    (.cond (.t 58)
      (.seq (.region false f5r10 [4] 0)
      (.ret))
      (.skip)))
    (.seq (.region false f5r11 [1, 5, 7, 8, 9, 10, 12] 0)
    (.seq (.seq (.region false f5r12 [1, 5, 7, 8, 9, 10, 12, 62] 0)
    (.cond (.t 62)
      (.region false f5r13 [1, 5, 7, 8, 9, 10, 12] 0)
      (.skip)))
    (.region false f5r14 [1, 5, 7, 8, 9] 0))))))
  (.region false f5r15 [1, 5, 7, 8, 9] 0))
def f5l7 : ACode := f5m7
theorem f5l7_b {A : Tab} {nt : Nat} {e : Env} {h : Heap} : Brun A nt f5l7 e h = Brun A nt f5m7 e h := rfl
def f5r16 : List AOper := [
  ⟨(some 80), .move (.t 8), none, 0, 0⟩,
  ⟨(some 81), .len 0 (.t 80), none, 0, 1⟩,
  ⟨(some 82), .bin .geq (.t 81) (.c (.int .i64 60000)), none, 0, 3⟩]
def f5r17 : List AOper := [
  ⟨(some 83), .call (.c (.fn 15 [] [])) [], none, 0, 0⟩,
  ⟨(some 4), .move (.t 83), none, 0, 1⟩]
def f5r18 : List AOper := [
  ⟨(some 85), .move (.t 8), none, 0, 0⟩,
  ⟨(some 86), .call (.c (.fn 18 [] [])) [(.t 85)], none, 0, 1⟩,
  ⟨(some 84), .move (.t 86), none, 0, 3⟩,
  ⟨(some 87), .extract (.t 84) 0, none, 0, 7⟩,
  ⟨(some 88), .extract (.t 84) 1, none, 0, 7⟩,
  ⟨(some 14), .alloc false [(.int .i64 0), (.int .i64 0), (.int .i64 0), (.int .i64 0)], none, 0, 0⟩,
  ⟨(some 13), .move (.t 87), none, 1, 47⟩,
  ⟨none, .store 4 (.t 14) (.t 88), none, 1, 127⟩]
def f5r19 : List AOper := [
  ⟨(some 89), .load true 4 (.t 14), none, 0, 0⟩,
  ⟨(some 90), .build [(.int .i64 0), (.int .i64 0), (.int .i64 0), (.int .i64 0)] [], none, 0, 0⟩,
  ⟨(some 91), .eq false (.agg [.int .i64, .int .i64, .int .i64, .int .i64]) (.t 89) (.t 90), none, 0, 3⟩,
  ⟨(some 92), .move (.t 91), none, 0, 7⟩,
  ⟨(some 93), .move (.t 5), (some (92, true)), 0, 15⟩,
  ⟨(some 94), .call (.c (.fn 19 [] [])) [(.t 93)], (some (92, true)), 0, 31⟩,
  ⟨(some 95), .move (.t 13), (some (92, true)), 0, 15⟩,
  ⟨(some 96), .call (.c (.fn 19 [] [])) [(.t 95)], (some (92, true)), 0, 127⟩,
  ⟨(some 97), .call (.c (.fn 20 [] [])) [(.t 94), (.t 96)], (some (92, true)), 0, 255⟩,
  ⟨(some 98), .pick (.t 92) (.t 97) (.c (.bool false)), none, 0, 511⟩,
  ⟨(some 99), .move (.t 98), none, 0, 1023⟩,
  ⟨(some 100), .call (.c (.fn 15 [] [])) [], (some (99, true)), 0, 2047⟩,
  ⟨(some 101), .pick (.t 99) (.t 100) (.c (.bool false)), none, 0, 4095⟩,
  ⟨(some 4), .move (.t 101), none, 0, 8191⟩]
def f5c : ACode :=
  .seq (.region false f5r0 [0, 1] 0)
  (.seq (.region false f5r1 [1, 5, 6] 1)
  (.seq (.seq (.region false f5r2 [1, 5, 6, 22] 0)
  (.cond (.t 22)
    (.seq (.region false f5r3 [4] 0)
    (.ret))
    (.skip)))
  (.seq (.region false f5r4 [1, 5, 7] 0)
  (.seq (.region false f5r5 [1, 5, 7, 8] 0)
  (.seq (.seq (.region false f5r6 [1, 5, 7, 8, 9] 0)
  (.block 0 (.loop f5l7)))
  (.seq (.seq (.region false f5r16 [5, 8, 82] 0)
  (.cond (.t 82)
    (.seq (.region false f5r17 [4] 0)
    (.ret))
    (.skip)))
  (.seq (.region false f5r18 [5, 13, 14] 1)
  (.seq (.region false f5r19 [4] 0)
  (.ret)))))))))
def f5 : AFn := ⟨2, 102, [.tmp 4], f5c, 1, none⟩
def f5k : List (Nat × List Nat) := [(0, [0, 1]), (1, [1, 5, 6]), (2, [1, 5, 6, 22]), (3, [4]), (4, [1, 5, 7]), (5, [1, 5, 7, 8]), (6, [1, 5, 7, 8, 9]), (7, [1, 5, 7, 8, 9, 45]), (9, [1, 5, 7, 8, 9, 10, 11]), (10, [1, 5, 7, 8, 9, 10, 58]), (11, [4]), (12, [1, 5, 7, 8, 9, 10, 12]), (13, [1, 5, 7, 8, 9, 10, 12, 62]), (14, [1, 5, 7, 8, 9, 10, 12]), (15, [1, 5, 7, 8, 9]), (8, [1, 5, 7, 8, 9]), (16, [5, 8, 82]), (17, [4]), (18, [5, 13, 14]), (19, [4])]
def f5v : List Nat := [67, 36]

/-! 6: mortise/mortiselaw02.TokenFirst, parameters [9], results [4] -/
def f6r0 : List AOper := [
  ⟨(some 2), .move (.c (.bool false)), none, 0, 0⟩]
def f6r1 : List AOper := [
  ⟨(some 8), .move (.t 0), none, 0, 0⟩,
  ⟨(some 9), .call (.c (.fn 18 [] [])) [(.t 8)], none, 0, 1⟩,
  ⟨(some 7), .move (.t 9), none, 0, 3⟩,
  ⟨(some 10), .extract (.t 7) 0, none, 0, 7⟩,
  ⟨(some 11), .extract (.t 7) 1, none, 0, 7⟩,
  ⟨(some 4), .alloc false [(.int .i64 0), (.int .i64 0), (.int .i64 0), (.int .i64 0)], none, 0, 0⟩,
  ⟨(some 3), .move (.t 10), none, 1, 47⟩,
  ⟨none, .store 4 (.t 4) (.t 11), none, 1, 127⟩]
def f6r2 : List AOper := [
  ⟨(some 12), .load true 4 (.t 4), none, 0, 0⟩,
  ⟨(some 13), .build [(.int .i64 0), (.int .i64 0), (.int .i64 0), (.int .i64 0)] [], none, 0, 0⟩,
  ⟨(some 14), .eq false (.agg [.int .i64, .int .i64, .int .i64, .int .i64]) (.t 12) (.t 13), none, 0, 3⟩,
  ⟨(some 15), .move (.t 14), none, 0, 7⟩,
  ⟨(some 16), .fieldAddr 0 (.t 4), (some (15, false)), 0, 15⟩,
  ⟨(some 17), .load false 1 (.t 16), (some (15, false)), 0, 31⟩,
  ⟨(some 18), .call (.c (.fn 17 [] [])) [(.t 17)], (some (15, false)), 0, 63⟩,
  ⟨(some 19), .bin .eql (.t 18) (.c (.int .i64 24)), (some (15, false)), 0, 127⟩,
  ⟨(some 20), .pick (.t 15) (.c (.bool true)) (.t 19), none, 0, 255⟩]
def f6r3 : List AOper := [
  ⟨(some 21), .fieldAddr 0 (.t 4), none, 0, 0⟩,
  ⟨(some 22), .load false 1 (.t 21), none, 0, 1⟩,
  ⟨(some 23), .call (.c (.fn 17 [] [])) [(.t 22)], none, 0, 3⟩,
  ⟨(some 24), .bin .eql (.t 23) (.c (.int .i64 24)), none, 0, 7⟩,
  ⟨(some 25), .move (.t 0), none, 0, 0⟩,
  ⟨(some 26), .len 0 (.t 25), none, 0, 16⟩,
  ⟨(some 27), .bin .gtr (.t 26) (.c (.int .i64 65536)), none, 0, 48⟩,
  ⟨(some 28), .eq false .bool (.t 24) (.t 27), none, 0, 127⟩,
  ⟨(some 29), .move (.t 28), none, 0, 255⟩,
  ⟨(some 30), .call (.c (.fn 15 [] [])) [], (some (29, true)), 0, 511⟩,
  ⟨(some 31), .pick (.t 29) (.t 30) (.c (.bool false)), none, 0, 1023⟩,
  ⟨(some 2), .move (.t 31), none, 0, 2047⟩]
def f6q4 : List AOper := [
  ⟨(some 32), .fieldAddr 1 (.t 4), none, 0, 0⟩,
  ⟨(some 33), .fieldAddr 2 (.t 32), none, 0, 1⟩,
  ⟨(some 34), .load false 1 (.t 33), none, 0, 3⟩,
  ⟨(some 35), .bin .lss (.t 34) (.c (.int .i64 0)), none, 0, 7⟩,
  ⟨(some 36), .move (.t 35), none, 0, 15⟩,
  ⟨(some 37), .fieldAddr 1 (.t 4), (some (36, false)), 0, 31⟩,
  ⟨(some 38), .fieldAddr 2 (.t 37), (some (36, false)), 0, 63⟩,
  ⟨(some 39), .load false 1 (.t 38), (some (36, false)), 0, 127⟩,
  ⟨(some 40), .move (.t 0), (some (36, false)), 0, 31⟩,
  ⟨(some 41), .len 0 (.t 40), (some (36, false)), 0, 287⟩,
  ⟨(some 42), .bin .gtr (.t 39) (.t 41), (some (36, false)), 0, 1023⟩,
  ⟨(some 43), .pick (.t 36) (.c (.bool true)) (.t 42), none, 0, 2047⟩,
  ⟨(some 44), .move (.t 43), none, 0, 4095⟩,
  ⟨(some 45), .move (.t 0), (some (44, false)), 0, 8191⟩,
  ⟨(some 46), .fieldAddr 1 (.t 4), (some (44, false)), 0, 8191⟩,
  ⟨(some 47), .fieldAddr 2 (.t 46), (some (44, false)), 0, 24575⟩,
  ⟨(some 48), .load false 1 (.t 47), (some (44, false)), 0, 57343⟩,
  ⟨(some 49), .call (.c (.fn 9 [] [])) [(.t 45), (.t 48)], (some (44, false)), 0, 131071⟩,
  ⟨(some 50), .fieldAddr 1 (.t 4), (some (44, false)), 0, 8191⟩,
  ⟨(some 51), .load true 3 (.t 50), (some (44, false)), 0, 270335⟩,
  ⟨(some 52), .eq true (.agg [.int .i64, .int .i64, .int .i64]) (.t 49) (.t 51), (some (44, false)), 0, 1048575⟩,
  ⟨(some 53), .pick (.t 44) (.c (.bool true)) (.t 52), none, 0, 2097151⟩]
def f6r4 : List AOper := f6q4
def f6r5 : List AOper := [
  ⟨(some 2), .move (.c (.bool false)), none, 0, 0⟩]
def f6r6 : List AOper := [
  ⟨(some 55), .move (.t 0), none, 0, 0⟩,
  ⟨(some 56), .fieldAddr 1 (.t 4), none, 0, 0⟩,
  ⟨(some 57), .fieldAddr 2 (.t 56), none, 0, 2⟩,
  ⟨(some 58), .load false 1 (.t 57), none, 0, 6⟩,
  ⟨(some 59), .strSlice (.t 55) none (some (.t 58)), none, 0, 15⟩,
  ⟨(some 60), .call (.c (.fn 18 [] [])) [(.t 59)], none, 0, 31⟩,
  ⟨(some 54), .move (.t 60), none, 0, 63⟩,
  ⟨(some 61), .extract (.t 54) 0, none, 0, 127⟩,
  ⟨(some 62), .extract (.t 54) 1, none, 0, 127⟩,
  ⟨(some 6), .alloc false [(.int .i64 0), (.int .i64 0), (.int .i64 0), (.int .i64 0)], none, 0, 0⟩,
  ⟨(some 5), .move (.t 61), none, 1, 767⟩,
  ⟨none, .store 4 (.t 6) (.t 62), none, 1, 2047⟩]
def f6r7 : List AOper := [
  ⟨(some 63), .load true 4 (.t 6), none, 0, 0⟩,
  ⟨(some 64), .build [(.int .i64 0), (.int .i64 0), (.int .i64 0), (.int .i64 0)] [], none, 0, 0⟩,
  ⟨(some 65), .eq false (.agg [.int .i64, .int .i64, .int .i64, .int .i64]) (.t 63) (.t 64), none, 0, 3⟩,
  ⟨(some 66), .move (.t 65), none, 0, 7⟩,
  ⟨(some 67), .call (.c (.fn 15 [] [])) [], (some (66, true)), 0, 15⟩,
  ⟨(some 68), .pick (.t 66) (.t 67) (.c (.bool false)), none, 0, 31⟩,
  ⟨(some 2), .move (.t 68), none, 0, 63⟩]
theorem f6r4_s : staticOK 0 f6r4 = true := by rfl
theorem f6r4_w {A : Tab} {nt : Nat} {keep : List Nat} {n : Nat} {e : Env} {h : Heap} (hr : (bkeep keep (stepsF nt (stepF A true) h.length f6r4 e (h ++ List.replicate n .free))).isSome = true) : Brun A nt (.region true f6r4 keep n) e h = bkeep keep (stepsF nt (stepF A true) h.length f6r4 e (h ++ List.replicate n .free)) := Brun_drawnS f6r4_s hr
theorem f6r4_u (nt base : Nat) (step : Nat → AOp → Env → Heap → Option (AV × Heap)) (e : Env) (h : Heap) : stepsF nt step base f6r4 e h = stepsF nt step base f6q4 e h := rfl
def f6c : ACode :=
  .seq (.region false f6r0 [0] 0)
  (.seq (.region false f6r1 [0, 4] 1)
  (.seq (.seq (.region false f6r2 [0, 4, 20] 0)
  (.cond (.t 20)
    (.seq (.region false f6r3 [2] 0)
    (.ret))
    (.skip)))
  (.seq (.seq (.region true f6r4 [0, 4, 53] 0)
  (.cond (.t 53)
    (.seq (.region false f6r5 [2] 0)
    (.ret))
    (.skip)))
  (.seq (.region false f6r6 [6] 1)
  (.seq (.region false f6r7 [2] 0)
  (.ret))))))
def f6 : AFn := ⟨1, 69, [.tmp 2], f6c, 1, none⟩
def f6k : List (Nat × List Nat) := [(0, [0]), (1, [0, 4]), (2, [0, 4, 20]), (3, [2]), (4, [0, 4, 53]), (5, [2]), (6, [6]), (7, [2])]
def f6v : List Nat := []

/-! 7: mortise/mortiselaw02.TokenApart, parameters [9, 9], results [4] -/
def f7r0 : List AOper := [
  ⟨(some 4), .move (.c (.bool false)), none, 0, 0⟩]
def f7r1 : List AOper := [
  ⟨(some 13), .move (.t 0), none, 0, 0⟩,
  ⟨(some 14), .call (.c (.fn 18 [] [])) [(.t 13)], none, 0, 1⟩,
  ⟨(some 12), .move (.t 14), none, 0, 3⟩,
  ⟨(some 15), .extract (.t 12) 0, none, 0, 7⟩,
  ⟨(some 16), .extract (.t 12) 1, none, 0, 7⟩,
  ⟨(some 6), .alloc false [(.int .i64 0), (.int .i64 0), (.int .i64 0), (.int .i64 0)], none, 0, 0⟩,
  ⟨(some 5), .move (.t 15), none, 1, 47⟩,
  ⟨none, .store 4 (.t 6) (.t 16), none, 1, 127⟩]
def f7r2 : List AOper := [
  ⟨(some 18), .move (.t 1), none, 0, 0⟩,
  ⟨(some 19), .call (.c (.fn 18 [] [])) [(.t 18)], none, 0, 1⟩,
  ⟨(some 17), .move (.t 19), none, 0, 3⟩,
  ⟨(some 20), .extract (.t 17) 0, none, 0, 7⟩,
  ⟨(some 21), .extract (.t 17) 1, none, 0, 7⟩,
  ⟨(some 8), .alloc false [(.int .i64 0), (.int .i64 0), (.int .i64 0), (.int .i64 0)], none, 0, 0⟩,
  ⟨(some 7), .move (.t 20), none, 1, 47⟩,
  ⟨none, .store 4 (.t 8) (.t 21), none, 1, 127⟩]
def f7r3 : List AOper := [
  ⟨(some 22), .load true 4 (.t 6), none, 0, 0⟩,
  ⟨(some 23), .build [(.int .i64 0), (.int .i64 0), (.int .i64 0), (.int .i64 0)] [], none, 0, 0⟩,
  ⟨(some 24), .eq true (.agg [.int .i64, .int .i64, .int .i64, .int .i64]) (.t 22) (.t 23), none, 0, 3⟩,
  ⟨(some 25), .move (.t 24), none, 0, 7⟩,
  ⟨(some 26), .load true 4 (.t 8), (some (25, false)), 0, 15⟩,
  ⟨(some 27), .build [(.int .i64 0), (.int .i64 0), (.int .i64 0), (.int .i64 0)] [], (some (25, false)), 0, 15⟩,
  ⟨(some 28), .eq true (.agg [.int .i64, .int .i64, .int .i64, .int .i64]) (.t 26) (.t 27), (some (25, false)), 0, 63⟩,
  ⟨(some 29), .pick (.t 25) (.c (.bool true)) (.t 28), none, 0, 127⟩,
  ⟨(some 30), .move (.t 29), none, 0, 255⟩,
  ⟨(some 31), .move (.t 0), (some (30, false)), 0, 511⟩,
  ⟨(some 32), .len 0 (.t 31), (some (30, false)), 0, 1023⟩,
  ⟨(some 33), .move (.t 1), (some (30, false)), 0, 511⟩,
  ⟨(some 34), .len 0 (.t 33), (some (30, false)), 0, 2559⟩,
  ⟨(some 35), .bin .add (.t 32) (.t 34), (some (30, false)), 0, 8191⟩,
  ⟨(some 36), .bin .gtr (.t 35) (.c (.int .i64 60000)), (some (30, false)), 0, 16383⟩,
  ⟨(some 37), .pick (.t 30) (.c (.bool true)) (.t 36), none, 0, 32767⟩,
  ⟨(some 38), .move (.t 37), none, 0, 65535⟩,
  ⟨(some 39), .move (.t 5), (some (38, false)), 0, 131071⟩,
  ⟨(some 40), .len 1 (.t 39), (some (38, false)), 0, 262143⟩,
  ⟨(some 41), .move (.t 7), (some (38, false)), 0, 131071⟩,
  ⟨(some 42), .len 1 (.t 41), (some (38, false)), 0, 655359⟩,
  ⟨(some 43), .bin .add (.t 40) (.t 42), (some (38, false)), 0, 2097151⟩,
  ⟨(some 44), .bin .gtr (.t 43) (.c (.int .i64 16000)), (some (38, false)), 0, 4194303⟩,
  ⟨(some 45), .pick (.t 38) (.c (.bool true)) (.t 44), none, 0, 8388607⟩]
def f7r4 : List AOper := [
  ⟨(some 46), .call (.c (.fn 15 [] [])) [], none, 0, 0⟩,
  ⟨(some 4), .move (.t 46), none, 0, 1⟩]
def f7r5 : List AOper := [
  ⟨(some 48), .move (.t 0), none, 0, 0⟩,
  ⟨(some 49), .bin .add (.t 48) (.c (.str [10])), none, 0, 1⟩,
  ⟨(some 50), .move (.t 1), none, 0, 0⟩,
  ⟨(some 51), .bin .add (.t 49) (.t 50), none, 0, 7⟩,
  ⟨(some 52), .call (.c (.fn 18 [] [])) [(.t 51)], none, 0, 15⟩,
  ⟨(some 47), .move (.t 52), none, 0, 31⟩,
  ⟨(some 53), .extract (.t 47) 0, none, 0, 63⟩,
  ⟨(some 54), .extract (.t 47) 1, none, 0, 63⟩,
  ⟨(some 10), .alloc false [(.int .i64 0), (.int .i64 0), (.int .i64 0), (.int .i64 0)], none, 0, 0⟩,
  ⟨(some 9), .move (.t 53), none, 1, 383⟩,
  ⟨none, .store 4 (.t 10) (.t 54), none, 1, 1023⟩]
def f7r6 : List AOper := [
  ⟨(some 55), .load true 4 (.t 10), none, 0, 0⟩,
  ⟨(some 56), .build [(.int .i64 0), (.int .i64 0), (.int .i64 0), (.int .i64 0)] [], none, 0, 0⟩,
  ⟨(some 57), .eq true (.agg [.int .i64, .int .i64, .int .i64, .int .i64]) (.t 55) (.t 56), none, 0, 3⟩,
  ⟨(some 58), .move (.t 57), none, 0, 7⟩,
  ⟨(some 59), .move (.t 9), (some (58, false)), 0, 15⟩,
  ⟨(some 60), .len 1 (.t 59), (some (58, false)), 0, 31⟩,
  ⟨(some 61), .move (.t 5), (some (58, false)), 0, 15⟩,
  ⟨(some 62), .len 1 (.t 61), (some (58, false)), 0, 79⟩,
  ⟨(some 63), .bin .sub (.t 62) (.c (.int .i64 1)), (some (58, false)), 0, 207⟩,
  ⟨(some 64), .move (.t 7), (some (58, false)), 0, 15⟩,
  ⟨(some 65), .len 1 (.t 64), (some (58, false)), 0, 527⟩,
  ⟨(some 66), .bin .add (.t 63) (.t 65), (some (58, false)), 0, 1999⟩,
  ⟨(some 67), .bin .neq (.t 60) (.t 66), (some (58, false)), 0, 4095⟩,
  ⟨(some 68), .pick (.t 58) (.c (.bool true)) (.t 67), none, 0, 8191⟩]
def f7r7 : List AOper := [
  ⟨(some 4), .move (.c (.bool false)), none, 0, 0⟩]
def f7r8 : List AOper := [
  ⟨(some 69), .move (.t 5), none, 0, 0⟩,
  ⟨(some 70), .move (.t 5), none, 0, 0⟩,
  ⟨(some 71), .len 1 (.t 70), none, 0, 2⟩,
  ⟨(some 72), .bin .sub (.t 71) (.c (.int .i64 1)), none, 0, 6⟩,
  ⟨(some 73), .slice 6 (.t 69) none (some (.t 72)) none, none, 0, 15⟩,
  ⟨(some 74), .call (.c (.fn 19 [] [])) [(.t 73)], none, 0, 31⟩,
  ⟨(some 75), .move (.t 7), none, 0, 0⟩,
  ⟨(some 76), .call (.c (.fn 19 [] [])) [(.t 75)], none, 0, 127⟩,
  ⟨(some 77), .append true 6 56 (.t 74) (.t 76), none, 0, 255⟩,
  ⟨(some 11), .move (.t 77), none, 1, 511⟩]
def f7r9 : List AOper := [
  ⟨(some 78), .move (.t 9), none, 0, 0⟩,
  ⟨(some 79), .call (.c (.fn 19 [] [])) [(.t 78)], none, 0, 1⟩,
  ⟨(some 80), .move (.t 11), none, 0, 0⟩,
  ⟨(some 81), .call (.c (.fn 20 [] [])) [(.t 79), (.t 80)], none, 0, 7⟩,
  ⟨(some 82), .move (.t 81), none, 0, 15⟩,
  ⟨(some 83), .call (.c (.fn 15 [] [])) [], (some (82, true)), 0, 31⟩,
  ⟨(some 84), .pick (.t 82) (.t 83) (.c (.bool false)), none, 0, 63⟩,
  ⟨(some 4), .move (.t 84), none, 0, 127⟩]
def f7c : ACode :=
  .seq (.region false f7r0 [0, 1] 0)
  (.seq (.region false f7r1 [0, 1, 5, 6] 1)
  (.seq (.region false f7r2 [0, 1, 5, 6, 7, 8] 1)
  (.seq (.seq (.region false f7r3 [0, 1, 5, 7, 45] 0)
  (.cond (.t 45)
    (.seq (.region false f7r4 [4] 0)
    (.ret))
    (.skip)))
  (.seq (.region false f7r5 [5, 7, 9, 10] 1)
  (.seq (.seq (.region false f7r6 [5, 7, 9, 68] 0)
  (.cond (.t 68)
    (.seq (.region false f7r7 [4] 0)
    (.ret))
    (.skip)))
  (.seq (.region false f7r8 [9, 11] 1)
  (.seq (.region false f7r9 [4] 0)
  (.ret))))))))
def f7 : AFn := ⟨2, 85, [.tmp 4], f7c, 1, none⟩
def f7k : List (Nat × List Nat) := [(0, [0, 1]), (1, [0, 1, 5, 6]), (2, [0, 1, 5, 6, 7, 8]), (3, [0, 1, 5, 7, 45]), (4, [4]), (5, [5, 7, 9, 10]), (6, [5, 7, 9, 68]), (7, [4]), (8, [9, 11]), (9, [4])]
def f7v : List Nat := [77]

/-! 8: mortise/mortiselaw02.TokenNumbers, parameters [48], results [4] -/
def f8r0 : List AOper := [
  ⟨(some 2), .move (.c (.bool false)), none, 0, 0⟩]
def f8r1 : List AOper := [
  ⟨(some 3), .move (.c (.str [])), none, 0, 0⟩]
def f8r2 : List AOper := [
  ⟨(some 4), .move (.c (.str [])), none, 0, 0⟩]
def f8r3 : List AOper := [
  ⟨(some 5), .move (.c (.str [])), none, 0, 0⟩]
def f8r4 : List AOper := [
  ⟨(some 12), .move (.t 0), none, 0, 0⟩,
  ⟨(some 6), .move (.t 12), none, 0, 1⟩]
def f8r5 : List AOper := [
  ⟨(some 13), .move (.t 6), none, 0, 0⟩,
  ⟨(some 14), .bin .gtr (.t 13) (.c (.int .u32 0)), none, 0, 1⟩]
def f8r6 : List AOper := [
  ⟨(some 17), .move (.t 6), none, 0, 0⟩,
  ⟨(some 18), .bin .rem (.t 17) (.c (.int .u32 16)), none, 0, 1⟩,
  ⟨(some 19), .strIndex (.c (.str [48, 49, 50, 51, 52, 53, 54, 55, 56, 57, 97, 98, 99, 100, 101, 102])) (.t 18), none, 0, 3⟩,
  ⟨(some 20), .strId (.t 19), none, 0, 7⟩,
  ⟨(some 21), .move (.t 3), none, 0, 0⟩,
  ⟨(some 22), .bin .add (.t 20) (.t 21), none, 0, 31⟩,
  ⟨(some 3), .move (.t 22), none, 0, 63⟩]
def f8r7 : List AOper := [
  ⟨(some 15), .move (.t 6), none, 0, 0⟩,
  ⟨(some 16), .bin .quo (.t 15) (.c (.int .u32 16)), none, 0, 1⟩,
  ⟨(some 6), .move (.t 16), none, 0, 3⟩]
def f8m5 : ACode :=
  .seq (.seq (.region false f8r5 [0, 3, 4, 5, 6, 14] 0)
  (.cond (.t 14)
    (.skip)
    (.exit 0)))
  (.seq (.block 1 (.region false f8r6 [0, 3, 4, 5, 6] 0))
  (.region false f8r7 [0, 3, 4, 5, 6] 0))
def f8l5 : ACode := f8m5
theorem f8l5_b {A : Tab} {nt : Nat} {e : Env} {h : Heap} : Brun A nt f8l5 e h = Brun A nt f8m5 e h := rfl
def f8r8 : List AOper := [
  ⟨(some 23), .move (.t 0), none, 0, 0⟩,
  ⟨(some 7), .move (.t 23), none, 0, 1⟩]
def f8r9 : List AOper := [
  ⟨(some 24), .move (.t 7), none, 0, 0⟩,
  ⟨(some 25), .bin .gtr (.t 24) (.c (.int .u32 0)), none, 0, 1⟩]
def f8r10 : List AOper := [
  ⟨(some 28), .move (.t 7), none, 0, 0⟩,
  ⟨(some 29), .bin .rem (.t 28) (.c (.int .u32 8)), none, 0, 1⟩,
  ⟨(some 30), .strIndex (.c (.str [48, 49, 50, 51, 52, 53, 54, 55])) (.t 29), none, 0, 3⟩,
  ⟨(some 31), .strId (.t 30), none, 0, 7⟩,
  ⟨(some 32), .move (.t 4), none, 0, 0⟩,
  ⟨(some 33), .bin .add (.t 31) (.t 32), none, 0, 31⟩,
  ⟨(some 4), .move (.t 33), none, 0, 63⟩]
def f8r11 : List AOper := [
  ⟨(some 26), .move (.t 7), none, 0, 0⟩,
  ⟨(some 27), .bin .quo (.t 26) (.c (.int .u32 8)), none, 0, 1⟩,
  ⟨(some 7), .move (.t 27), none, 0, 3⟩]
def f8m9 : ACode :=
  .seq (.seq (.region false f8r9 [0, 3, 4, 5, 7, 25] 0)
  (.cond (.t 25)
    (.skip)
    (.exit 2)))
  (.seq (.block 3 (.region false f8r10 [0, 3, 4, 5, 7] 0))
  (.region false f8r11 [0, 3, 4, 5, 7] 0))
def f8l9 : ACode := f8m9
theorem f8l9_b {A : Tab} {nt : Nat} {e : Env} {h : Heap} : Brun A nt f8l9 e h = Brun A nt f8m9 e h := rfl
def f8r12 : List AOper := [
  ⟨(some 34), .move (.t 0), none, 0, 0⟩,
  ⟨(some 8), .move (.t 34), none, 0, 1⟩]
def f8r13 : List AOper := [
  ⟨(some 35), .move (.t 8), none, 0, 0⟩,
  ⟨(some 36), .bin .gtr (.t 35) (.c (.int .u32 0)), none, 0, 1⟩]
def f8r14 : List AOper := [
  ⟨(some 39), .move (.t 8), none, 0, 0⟩,
  ⟨(some 40), .bin .rem (.t 39) (.c (.int .u32 10)), none, 0, 1⟩,
  ⟨(some 41), .strIndex (.c (.str [48, 49, 50, 51, 52, 53, 54, 55, 56, 57])) (.t 40), none, 0, 3⟩,
  ⟨(some 42), .strId (.t 41), none, 0, 7⟩,
  ⟨(some 43), .move (.t 5), none, 0, 0⟩,
  ⟨(some 44), .bin .add (.t 42) (.t 43), none, 0, 31⟩,
  ⟨(some 5), .move (.t 44), none, 0, 63⟩]
def f8r15 : List AOper := [
  ⟨(some 37), .move (.t 8), none, 0, 0⟩,
  ⟨(some 38), .bin .quo (.t 37) (.c (.int .u32 10)), none, 0, 1⟩,
  ⟨(some 8), .move (.t 38), none, 0, 3⟩]
def f8m13 : ACode :=
  .seq (.seq (.region false f8r13 [0, 3, 4, 5, 8, 36] 0)
  (.cond (.t 36)
    (.skip)
    (.exit 4)))
  (.seq (.block 5 (.region false f8r14 [0, 3, 4, 5, 8] 0))
  (.region false f8r15 [0, 3, 4, 5, 8] 0))
def f8l13 : ACode := f8m13
theorem f8l13_b {A : Tab} {nt : Nat} {e : Env} {h : Heap} : Brun A nt f8l13 e h = Brun A nt f8m13 e h := rfl
def f8r16 : List AOper := [
  ⟨(some 45), .move (.t 0), none, 0, 0⟩,
  ⟨(some 46), .bin .eql (.t 45) (.c (.int .u32 0)), none, 0, 1⟩]
def f8r17 : List AOper := [
  ⟨(some 3), .move (.c (.str [48])), none, 0, 0⟩]
def f8r18 : List AOper := [
  ⟨(some 5), .move (.c (.str [48])), none, 0, 0⟩]
def f8r19 : List AOper := [
  ⟨(some 48), .move (.t 3), none, 0, 0⟩,
  ⟨(some 49), .bin .add (.c (.str [48, 120])) (.t 48), none, 0, 1⟩,
  ⟨(some 50), .bin .add (.t 49) (.c (.str [32, 48])), none, 0, 3⟩,
  ⟨(some 51), .move (.t 4), none, 0, 0⟩,
  ⟨(some 52), .bin .add (.t 50) (.t 51), none, 0, 15⟩,
  ⟨(some 53), .bin .add (.t 52) (.c (.str [32])), none, 0, 31⟩,
  ⟨(some 54), .move (.t 5), none, 0, 0⟩,
  ⟨(some 55), .bin .add (.t 53) (.t 54), none, 0, 127⟩,
  ⟨(some 56), .bin .add (.t 55) (.c (.str [117])), none, 0, 255⟩,
  ⟨(some 57), .call (.c (.fn 18 [] [])) [(.t 56)], none, 0, 511⟩,
  ⟨(some 47), .move (.t 57), none, 0, 1023⟩,
  ⟨(some 58), .extract (.t 47) 0, none, 0, 2047⟩,
  ⟨(some 59), .extract (.t 47) 1, none, 0, 2047⟩,
  ⟨(some 10), .alloc false [(.int .i64 0), (.int .i64 0), (.int .i64 0), (.int .i64 0)], none, 0, 0⟩,
  ⟨(some 9), .move (.t 58), none, 1, 12287⟩,
  ⟨none, .store 4 (.t 10) (.t 59), none, 1, 32767⟩]
def f8r20 : List AOper := [
  ⟨(some 60), .load true 4 (.t 10), none, 0, 0⟩,
  ⟨(some 61), .build [(.int .i64 0), (.int .i64 0), (.int .i64 0), (.int .i64 0)] [], none, 0, 0⟩,
  ⟨(some 62), .eq true (.agg [.int .i64, .int .i64, .int .i64, .int .i64]) (.t 60) (.t 61), none, 0, 3⟩,
  ⟨(some 63), .move (.t 62), none, 0, 7⟩,
  ⟨(some 64), .move (.t 9), (some (63, false)), 0, 15⟩,
  ⟨(some 65), .len 1 (.t 64), (some (63, false)), 0, 31⟩,
  ⟨(some 66), .bin .neq (.t 65) (.c (.int .i64 4)), (some (63, false)), 0, 63⟩,
  ⟨(some 67), .pick (.t 63) (.c (.bool true)) (.t 66), none, 0, 127⟩]
def f8r21 : List AOper := [
  ⟨(some 2), .move (.c (.bool false)), none, 0, 0⟩]
def f8r22 : List AOper := [
  ⟨(some 11), .move (.c (.str [105, 110, 116])), none, 0, 0⟩]
def f8r23 : List AOper := [
  ⟨(some 68), .move (.t 0), none, 0, 0⟩,
  ⟨(some 69), .bin .gtr (.t 68) (.c (.int .u32 2147483647)), none, 0, 1⟩]
def f8r24 : List AOper := [
  ⟨(some 11), .move (.c (.str [117, 110, 115, 105, 103, 110, 101, 100, 32, 105, 110, 116])), none, 0, 0⟩]
def f8r25 : List AOper := [
  ⟨(some 70), .move (.t 9), none, 0, 0⟩,
  ⟨(some 71), .idxAddr 6 (.t 70) (.c (.int .i64 0)), none, 0, 1⟩,
  ⟨(some 72), .fieldAddr 2 (.t 71), none, 0, 3⟩,
  ⟨(some 73), .load false 1 (.t 72), none, 0, 7⟩,
  ⟨(some 74), .move (.t 0), none, 0, 0⟩,
  ⟨(some 75), .conv .i64 (.t 74), none, 0, 16⟩,
  ⟨(some 76), .bin .eql (.t 73) (.t 75), none, 0, 63⟩,
  ⟨(some 77), .move (.t 76), none, 0, 127⟩,
  ⟨(some 78), .move (.t 9), (some (77, true)), 0, 255⟩,
  ⟨(some 79), .idxAddr 6 (.t 78) (.c (.int .i64 1)), (some (77, true)), 0, 511⟩,
  ⟨(some 80), .fieldAddr 2 (.t 79), (some (77, true)), 0, 1023⟩,
  ⟨(some 81), .load false 1 (.t 80), (some (77, true)), 0, 2047⟩,
  ⟨(some 82), .move (.t 0), (some (77, true)), 0, 255⟩,
  ⟨(some 83), .conv .i64 (.t 82), (some (77, true)), 0, 4351⟩,
  ⟨(some 84), .bin .eql (.t 81) (.t 83), (some (77, true)), 0, 16383⟩,
  ⟨(some 85), .pick (.t 77) (.t 84) (.c (.bool false)), none, 0, 32767⟩,
  ⟨(some 86), .move (.t 85), none, 0, 65535⟩,
  ⟨(some 87), .move (.t 9), (some (86, true)), 0, 131071⟩,
  ⟨(some 88), .idxAddr 6 (.t 87) (.c (.int .i64 2)), (some (86, true)), 0, 262143⟩,
  ⟨(some 89), .fieldAddr 2 (.t 88), (some (86, true)), 0, 524287⟩,
  ⟨(some 90), .load false 1 (.t 89), (some (86, true)), 0, 1048575⟩,
  ⟨(some 91), .move (.t 0), (some (86, true)), 0, 131071⟩,
  ⟨(some 92), .conv .i64 (.t 91), (some (86, true)), 0, 2228223⟩,
  ⟨(some 93), .bin .eql (.t 90) (.t 92), (some (86, true)), 0, 8388607⟩,
  ⟨(some 94), .pick (.t 86) (.t 93) (.c (.bool false)), none, 0, 16777215⟩,
  ⟨(some 95), .move (.t 94), none, 0, 33554431⟩,
  ⟨(some 96), .move (.t 9), (some (95, true)), 0, 67108863⟩,
  ⟨(some 97), .idxAddr 6 (.t 96) (.c (.int .i64 0)), (some (95, true)), 0, 134217727⟩,
  ⟨(some 98), .fieldAddr 1 (.t 97), (some (95, true)), 0, 268435455⟩,
  ⟨(some 99), .load false 1 (.t 98), (some (95, true)), 0, 536870911⟩,
  ⟨(some 100), .move (.t 11), (some (95, true)), 0, 67108863⟩,
  ⟨(some 101), .bin .eql (.t 99) (.t 100), (some (95, true)), 0, 2147483647⟩,
  ⟨(some 102), .pick (.t 95) (.t 101) (.c (.bool false)), none, 0, 4294967295⟩,
  ⟨(some 103), .move (.t 102), none, 0, 8589934591⟩,
  ⟨(some 104), .move (.t 9), (some (103, true)), 0, 17179869183⟩,
  ⟨(some 105), .idxAddr 6 (.t 104) (.c (.int .i64 1)), (some (103, true)), 0, 34359738367⟩,
  ⟨(some 106), .fieldAddr 1 (.t 105), (some (103, true)), 0, 68719476735⟩,
  ⟨(some 107), .load false 1 (.t 106), (some (103, true)), 0, 137438953471⟩,
  ⟨(some 108), .move (.t 11), (some (103, true)), 0, 17179869183⟩,
  ⟨(some 109), .bin .eql (.t 107) (.t 108), (some (103, true)), 0, 549755813887⟩,
  ⟨(some 110), .pick (.t 103) (.t 109) (.c (.bool false)), none, 0, 1099511627775⟩,
  ⟨(some 111), .move (.t 110), none, 0, 2199023255551⟩,
  ⟨(some 112), .move (.t 9), (some (111, true)), 0, 4398046511103⟩,
  ⟨(some 113), .idxAddr 6 (.t 112) (.c (.int .i64 2)), (some (111, true)), 0, 8796093022207⟩,
  ⟨(some 114), .fieldAddr 1 (.t 113), (some (111, true)), 0, 17592186044415⟩,
  ⟨(some 115), .load false 1 (.t 114), (some (111, true)), 0, 35184372088831⟩,
  ⟨(some 116), .bin .eql (.t 115) (.c (.str [117, 110, 115, 105, 103, 110, 101, 100, 32, 105, 110, 116])), (some (111, true)), 0, 70368744177663⟩,
  ⟨(some 117), .pick (.t 111) (.t 116) (.c (.bool false)), none, 0, 140737488355327⟩,
  ⟨(some 118), .move (.t 117), none, 0, 281474976710655⟩,
  ⟨(some 119), .call (.c (.fn 15 [] [])) [], (some (118, true)), 0, 562949953421311⟩,
  ⟨(some 120), .pick (.t 118) (.t 119) (.c (.bool false)), none, 0, 1125899906842623⟩,
  ⟨(some 2), .move (.t 120), none, 0, 2251799813685247⟩]
def f8c : ACode :=
  .seq (.region false f8r0 [0] 0)
  (.seq (.region false f8r1 [0, 3] 0)
  (.seq (.region false f8r2 [0, 3, 4] 0)
  (.seq (.region false f8r3 [0, 3, 4, 5] 0)
  (.seq (.seq (.region false f8r4 [0, 3, 4, 5, 6] 0)
  (.block 0 (.loop f8l5)))
  (.seq (.seq (.region false f8r8 [0, 3, 4, 5, 7] 0)
  (.block 2 (.loop f8l9)))
  (.seq (.seq (.region false f8r12 [0, 3, 4, 5, 8] 0)
  (.block 4 (.loop f8l13)))
  (.seq (.seq (.region false f8r16 [0, 3, 4, 5, 46] 0)
  (.cond (.t 46)
    (.seq (.region false f8r17 [0, 3, 4] 0)
    (.region false f8r18 [0, 3, 4, 5] 0))
    (.skip)))
  (.seq (.region false f8r19 [0, 9, 10] 1)
  (.seq (.seq (.region false f8r20 [0, 9, 67] 0)
  (.cond (.t 67)
    (.seq (.region false f8r21 [2] 0)
    (.ret))
    (.skip)))
  (.seq (.region false f8r22 [0, 9, 11] 0)
  (.seq (.seq (.region false f8r23 [0, 9, 11, 69] 0)
  (.cond (.t 69)
    (.region false f8r24 [0, 9, 11] 0)
    (.skip)))
  (.seq (.region false f8r25 [2] 0)
  (.ret)))))))))))))
def f8 : AFn := ⟨1, 121, [.tmp 2], f8c, 1, none⟩
def f8k : List (Nat × List Nat) := [(0, [0]), (1, [0, 3]), (2, [0, 3, 4]), (3, [0, 3, 4, 5]), (4, [0, 3, 4, 5, 6]), (5, [0, 3, 4, 5, 6, 14]), (7, [0, 3, 4, 5, 6]), (6, [0, 3, 4, 5, 6]), (8, [0, 3, 4, 5, 7]), (9, [0, 3, 4, 5, 7, 25]), (11, [0, 3, 4, 5, 7]), (10, [0, 3, 4, 5, 7]), (12, [0, 3, 4, 5, 8]), (13, [0, 3, 4, 5, 8, 36]), (15, [0, 3, 4, 5, 8]), (14, [0, 3, 4, 5, 8]), (16, [0, 3, 4, 5, 46]), (17, [0, 3, 4]), (18, [0, 3, 4, 5]), (19, [0, 9, 10]), (20, [0, 9, 67]), (21, [2]), (22, [0, 9, 11]), (23, [0, 9, 11, 69]), (24, [0, 9, 11]), (25, [2])]
def f8v : List Nat := [92, 83, 75, 42, 31, 20]

/-! 9: mortise/token.At, parameters [9, 3], results [23] -/
def f9r0 : List AOper := [
  ⟨(some 4), .alloc false [(.int .i64 0), (.int .i64 0), (.int .i64 0)], none, 0, 0⟩]
def f9r1 : List AOper := [
  ⟨(some 7), .move (.t 1), none, 0, 0⟩,
  ⟨(some 8), .move (.t 0), none, 0, 0⟩,
  ⟨(some 9), .len 0 (.t 8), none, 0, 2⟩,
  ⟨(some 10), .min (.t 7) (.t 9), none, 0, 7⟩,
  ⟨(some 11), .max (.c (.int .i64 0)) (.t 10), none, 0, 15⟩,
  ⟨(some 1), .move (.t 11), none, 0, 31⟩]
def f9r2 : List AOper := [
  ⟨(some 12), .move (.t 0), none, 0, 0⟩,
  ⟨(some 13), .move (.t 1), none, 0, 0⟩,
  ⟨(some 14), .strSlice (.t 12) none (some (.t 13)), none, 0, 3⟩,
  ⟨(some 5), .move (.t 14), none, 0, 7⟩]
def f9r3 : List AOper := [
  ⟨(some 15), .move (.t 5), none, 0, 0⟩,
  ⟨(some 16), .call (.c (.fn 22 [] [])) [(.t 15), (.c (.int .u8 10))], none, 0, 1⟩,
  ⟨(some 6), .move (.t 16), none, 0, 3⟩]
def f9r4 : List AOper := [
  ⟨(some 17), .move (.t 5), none, 0, 0⟩,
  ⟨(some 18), .call (.c (.fn 23 [] [])) [(.t 17), (.c (.str [10]))], none, 0, 1⟩,
  ⟨(some 19), .bin .add (.c (.int .i64 1)) (.t 18), none, 0, 3⟩,
  ⟨(some 20), .move (.t 1), none, 0, 0⟩,
  ⟨(some 21), .move (.t 6), none, 0, 0⟩,
  ⟨(some 22), .bin .sub (.t 20) (.t 21), none, 0, 24⟩,
  ⟨(some 23), .move (.t 1), none, 0, 0⟩,
  ⟨(some 24), .build [(.int .i64 0), (.int .i64 0), (.int .i64 0)] [(0, 1, (.t 19)), (1, 1, (.t 22)), (2, 1, (.t 23))], none, 0, 127⟩,
  ⟨none, .store 3 (.t 4) (.t 24), none, 0, 255⟩]
def f9c : ACode :=
  .seq (.region false f9r0 [0, 1, 4] 1)
  (.seq (.region false f9r1 [0, 1, 4] 0)
  (.seq (.region false f9r2 [1, 4, 5] 0)
  (.seq (.region false f9r3 [1, 4, 5, 6] 0)
  (.seq (.region false f9r4 [4] 0)
  (.ret)))))
def f9 : AFn := ⟨2, 25, [.cell 4 true 3], f9c, 1, none⟩
def f9k : List (Nat × List Nat) := [(0, [0, 1, 4]), (1, [0, 1, 4]), (2, [1, 4, 5]), (3, [1, 4, 5, 6]), (4, [4])]
def f9v : List Nat := []

/-! 10: mortise/mortiseref02.At, parameters [9, 3], results [23] -/
def f10r0 : List AOper := [
  ⟨(some 4), .alloc false [(.int .i64 0), (.int .i64 0), (.int .i64 0)], none, 0, 0⟩]
def f10r1 : List AOper := [
  ⟨(some 7), .move (.t 1), none, 0, 0⟩,
  ⟨(some 8), .move (.t 0), none, 0, 0⟩,
  ⟨(some 9), .len 0 (.t 8), none, 0, 2⟩,
  ⟨(some 10), .min (.t 7) (.t 9), none, 0, 7⟩,
  ⟨(some 11), .max (.c (.int .i64 0)) (.t 10), none, 0, 15⟩,
  ⟨(some 1), .move (.t 11), none, 0, 31⟩]
def f10r2 : List AOper := [
  ⟨(some 12), .move (.t 1), none, 0, 0⟩,
  ⟨(some 13), .build [(.int .i64 0), (.int .i64 0), (.int .i64 0)] [(0, 1, (.c (.int .i64 1))), (1, 1, (.c (.int .i64 1))), (2, 1, (.t 12))], none, 0, 1⟩,
  ⟨(some 5), .alloc false [(.int .i64 0), (.int .i64 0), (.int .i64 0)], none, 0, 0⟩,
  ⟨none, .store 3 (.t 5) (.t 13), none, 1, 7⟩]
def f10r3 : List AOper := [
  ⟨(some 6), .move (.c (.int .i64 0)), none, 0, 0⟩]
def f10r4 : List AOper := [
  ⟨(some 14), .move (.t 6), none, 0, 0⟩,
  ⟨(some 15), .move (.t 1), none, 0, 0⟩,
  ⟨(some 16), .bin .lss (.t 14) (.t 15), none, 0, 3⟩]
def f10r5 : List AOper := [
  ⟨(some 19), .fieldAddr 1 (.t 5), none, 0, 0⟩,
  ⟨(some 20), .load false 1 (.t 19), none, 0, 1⟩,
  ⟨(some 21), .bin .add (.t 20) (.c (.int .i64 1)), none, 0, 3⟩,
  ⟨(some 22), .fieldAddr 1 (.t 5), none, 0, 7⟩,
  ⟨none, .store 1 (.t 22) (.t 21), none, 0, 15⟩]
def f10r6 : List AOper := [
  ⟨(some 23), .move (.t 0), none, 0, 0⟩,
  ⟨(some 24), .move (.t 6), none, 0, 0⟩,
  ⟨(some 25), .strIndex (.t 23) (.t 24), none, 0, 3⟩,
  ⟨(some 26), .bin .eql (.t 25) (.c (.int .u8 10)), none, 0, 7⟩]
def f10r7 : List AOper := [
  ⟨(some 27), .fieldAddr 0 (.t 5), none, 0, 0⟩,
  ⟨(some 28), .load false 1 (.t 27), none, 0, 1⟩,
  ⟨(some 29), .bin .add (.t 28) (.c (.int .i64 1)), none, 0, 3⟩,
  ⟨(some 30), .fieldAddr 0 (.t 5), none, 0, 7⟩,
  ⟨none, .store 1 (.t 30) (.t 29), none, 0, 15⟩]
def f10r8 : List AOper := [
  ⟨(some 31), .fieldAddr 1 (.t 5), none, 0, 0⟩,
  ⟨none, .store 1 (.t 31) (.c (.int .i64 1)), none, 0, 1⟩]
def f10r9 : List AOper := [
  ⟨(some 17), .move (.t 6), none, 0, 0⟩,
  ⟨(some 18), .bin .add (.t 17) (.c (.int .i64 1)), none, 0, 1⟩,
  ⟨(some 6), .move (.t 18), none, 0, 3⟩]
def f10m4 : ACode :=
  .seq (.seq (.region false f10r4 [0, 1, 4, 5, 6, 16] 0)
  (.cond (.t 16)
    (.skip)
    (.exit 0)))
  (.seq (.block 1 (.seq (.region false f10r5 [0, 1, 4, 5, 6] 0)
    (.seq (.region false f10r6 [0, 1, 4, 5, 6, 26] 0)
    (.cond (.t 26)
      (.seq (.region false f10r7 [0, 1, 4, 5, 6] 0)
      (.region false f10r8 [0, 1, 4, 5, 6] 0))
      (.skip)))))
  (.region false f10r9 [0, 1, 4, 5, 6] 0))
def f10l4 : ACode := f10m4
theorem f10l4_b {A : Tab} {nt : Nat} {e : Env} {h : Heap} : Brun A nt f10l4 e h = Brun A nt f10m4 e h := rfl
def f10r10 : List AOper := [
  ⟨(some 32), .load true 3 (.t 5), none, 0, 0⟩,
  ⟨none, .store 3 (.t 4) (.t 32), none, 0, 1⟩]
def f10c : ACode :=
  .seq (.region false f10r0 [0, 1, 4] 1)
  (.seq (.region false f10r1 [0, 1, 4] 0)
  (.seq (.region false f10r2 [0, 1, 4, 5] 1)
  (.seq (.seq (.region false f10r3 [0, 1, 4, 5, 6] 0)
  (.block 0 (.loop f10l4)))
  (.seq (.region false f10r10 [4] 0)
  (.ret)))))
def f10 : AFn := ⟨2, 33, [.cell 4 true 3], f10c, 1, none⟩
def f10k : List (Nat × List Nat) := [(0, [0, 1, 4]), (1, [0, 1, 4]), (2, [0, 1, 4, 5]), (3, [0, 1, 4, 5, 6]), (4, [0, 1, 4, 5, 6, 16]), (6, [0, 1, 4, 5, 6]), (7, [0, 1, 4, 5, 6, 26]), (8, [0, 1, 4, 5, 6]), (9, [0, 1, 4, 5, 6]), (5, [0, 1, 4, 5, 6]), (10, [4])]
def f10v : List Nat := []

/-! 11: mortise/token.Name, parameters [9], results [4] -/
def f11r0 : List AOper := [
  ⟨(some 2), .move (.c (.bool false)), none, 0, 0⟩]
def f11r1 : List AOper := [
  ⟨(some 3), .move (.t 0), none, 0, 0⟩,
  ⟨(some 4), .call (.c (.fn 24 [] [])) [(.t 3), (.c (.int .i64 1))], none, 0, 1⟩,
  ⟨(some 2), .move (.t 4), none, 0, 3⟩]
def f11c : ACode :=
  .seq (.region false f11r0 [0] 0)
  (.seq (.region false f11r1 [2] 0)
  (.ret))
def f11 : AFn := ⟨1, 5, [.tmp 2], f11c, 1, none⟩
def f11k : List (Nat × List Nat) := [(0, [0]), (1, [2])]
def f11v : List Nat := []

/-! 12: mortise/mortiseref02.Name, parameters [9], results [4] -/
def f12r0 : List AOper := [
  ⟨(some 2), .move (.c (.bool false)), none, 0, 0⟩]
def f12r1 : List AOper := [
  ⟨(some 4), .move (.t 0), none, 0, 0⟩,
  ⟨(some 5), .len 0 (.t 4), none, 0, 1⟩,
  ⟨(some 6), .bin .eql (.t 5) (.c (.int .i64 0)), none, 0, 3⟩,
  ⟨(some 7), .move (.t 6), none, 0, 7⟩,
  ⟨(some 8), .move (.t 0), (some (7, false)), 0, 15⟩,
  ⟨(some 9), .len 0 (.t 8), (some (7, false)), 0, 31⟩,
  ⟨(some 10), .bin .gtr (.t 9) (.c (.int .i64 63)), (some (7, false)), 0, 63⟩,
  ⟨(some 11), .pick (.t 7) (.c (.bool true)) (.t 10), none, 0, 127⟩,
  ⟨(some 12), .move (.t 11), none, 0, 255⟩,
  ⟨(some 13), .move (.t 0), (some (12, false)), 0, 511⟩,
  ⟨(some 14), .strIndex (.t 13) (.c (.int .i64 0)), (some (12, false)), 0, 1023⟩,
  ⟨(some 15), .call (.c (.fn 25 [] [])) [(.t 14)], (some (12, false)), 0, 2047⟩,
  ⟨(some 16), .un .not (.t 15), (some (12, false)), 0, 4095⟩,
  ⟨(some 17), .pick (.t 12) (.c (.bool true)) (.t 16), none, 0, 8191⟩]
def f12r2 : List AOper := [
  ⟨(some 2), .move (.c (.bool false)), none, 0, 0⟩]
def f12r3 : List AOper := [
  ⟨(some 3), .move (.c (.int .i64 0)), none, 0, 0⟩]
def f12r4 : List AOper := [
  ⟨(some 18), .move (.t 3), none, 0, 0⟩,
  ⟨(some 19), .move (.t 0), none, 0, 0⟩,
  ⟨(some 20), .len 0 (.t 19), none, 0, 2⟩,
  ⟨(some 21), .bin .lss (.t 18) (.t 20), none, 0, 7⟩]
def f12r5 : List AOper := [
  ⟨(some 24), .move (.t 0), none, 0, 0⟩,
  ⟨(some 25), .move (.t 3), none, 0, 0⟩,
  ⟨(some 26), .strIndex (.t 24) (.t 25), none, 0, 3⟩,
  ⟨(some 27), .call (.c (.fn 25 [] [])) [(.t 26)], none, 0, 7⟩,
  ⟨(some 28), .un .not (.t 27), none, 0, 15⟩,
  ⟨(some 29), .move (.t 28), none, 0, 31⟩,
  ⟨(some 30), .move (.t 0), (some (29, true)), 0, 63⟩,
  ⟨(some 31), .move (.t 3), (some (29, true)), 0, 63⟩,
  ⟨(some 32), .strIndex (.t 30) (.t 31), (some (29, true)), 0, 255⟩,
  ⟨(some 33), .call (.c (.fn 26 [] [])) [(.t 32)], (some (29, true)), 0, 511⟩,
  ⟨(some 34), .un .not (.t 33), (some (29, true)), 0, 1023⟩,
  ⟨(some 35), .pick (.t 29) (.t 34) (.c (.bool false)), none, 0, 2047⟩]
def f12r6 : List AOper := [
  ⟨(some 2), .move (.c (.bool false)), none, 0, 0⟩]
def f12r7 : List AOper := [
  ⟨(some 22), .move (.t 3), none, 0, 0⟩,
  ⟨(some 23), .bin .add (.t 22) (.c (.int .i64 1)), none, 0, 1⟩,
  ⟨(some 3), .move (.t 23), none, 0, 3⟩]
def f12m4 : ACode :=
  .seq (.seq (.region false f12r4 [0, 3, 21] 0)
  (.cond (.t 21)
    (.skip)
    (.exit 0)))
  (.seq (.block 1 (.seq (.region false f12r5 [0, 3, 35] 0)
    (.cond (.t 35)
      (.seq (.region false f12r6 [2] 0)
      (.ret))
      (.skip))))
  (.region false f12r7 [0, 3] 0))
def f12l4 : ACode := f12m4
theorem f12l4_b {A : Tab} {nt : Nat} {e : Env} {h : Heap} : Brun A nt f12l4 e h = Brun A nt f12m4 e h := rfl
def f12r8 : List AOper := [
  ⟨(some 36), .move (.t 0), none, 0, 0⟩,
  ⟨(some 37), .call (.c (.fn 27 [] [])) [(.t 36)], none, 0, 1⟩,
  ⟨(some 38), .un .not (.t 37), none, 0, 3⟩,
  ⟨(some 2), .move (.t 38), none, 0, 7⟩]
def f12c : ACode :=
  .seq (.region false f12r0 [0] 0)
  (.seq (.seq (.region false f12r1 [0, 17] 0)
  (.cond (.t 17)
    (.seq (.region false f12r2 [2] 0)
    (.ret))
    (.skip)))
  (.seq (.seq (.region false f12r3 [0, 3] 0)
  (.block 0 (.loop f12l4)))
  (.seq (.region false f12r8 [2] 0)
  (.ret))))
def f12 : AFn := ⟨1, 39, [.tmp 2], f12c, 1, none⟩
def f12k : List (Nat × List Nat) := [(0, [0]), (1, [0, 17]), (2, [2]), (3, [0, 3]), (4, [0, 3, 21]), (6, [0, 3, 35]), (7, [2]), (5, [0, 3]), (8, [2])]
def f12v : List Nat := []

/-! 13: mortise/token.Word, parameters [9], results [4] -/
def f13r0 : List AOper := [
  ⟨(some 2), .move (.c (.bool false)), none, 0, 0⟩]
def f13r1 : List AOper := [
  ⟨(some 3), .move (.t 0), none, 0, 0⟩,
  ⟨(some 4), .call (.c (.fn 24 [] [])) [(.t 3), (.c (.int .i64 2))], none, 0, 1⟩,
  ⟨(some 2), .move (.t 4), none, 0, 3⟩]
def f13c : ACode :=
  .seq (.region false f13r0 [0] 0)
  (.seq (.region false f13r1 [2] 0)
  (.ret))
def f13 : AFn := ⟨1, 5, [.tmp 2], f13c, 1, none⟩
def f13k : List (Nat × List Nat) := [(0, [0]), (1, [2])]
def f13v : List Nat := []

/-! 14: mortise/mortiseref02.Word, parameters [9], results [4] -/
def f14r0 : List AOper := [
  ⟨(some 2), .move (.c (.bool false)), none, 0, 0⟩]
def f14r1 : List AOper := [
  ⟨(some 3), .move (.t 0), none, 0, 0⟩,
  ⟨(some 4), .call (.c (.fn 27 [] [])) [(.t 3)], none, 0, 1⟩,
  ⟨(some 2), .move (.t 4), none, 0, 3⟩]
def f14c : ACode :=
  .seq (.region false f14r0 [0] 0)
  (.seq (.region false f14r1 [2] 0)
  (.ret))
def f14 : AFn := ⟨1, 5, [.tmp 2], f14c, 1, none⟩
def f14k : List (Nat × List Nat) := [(0, [0]), (1, [2])]
def f14v : List Nat := []

/-! 15: mortise/mortiselaw02.heads, parameters [], results [4] -/
def f15r0 : List AOper := [
  ⟨(some 0), .move (.c (.bool false)), none, 0, 0⟩]
def f15r1 : List AOper := [
  ⟨(some 8), .call (.c (.fn 18 [] [])) [(.c (.str [105, 110, 116, 32, 97, 91, 50, 93, 61, 123, 48, 120, 49, 102, 44, 39, 92, 110, 39, 125, 59, 32, 47, 47, 32, 120]))], none, 0, 0⟩,
  ⟨(some 7), .move (.t 8), none, 0, 1⟩,
  ⟨(some 9), .extract (.t 7) 0, none, 0, 3⟩,
  ⟨(some 10), .extract (.t 7) 1, none, 0, 3⟩,
  ⟨(some 2), .alloc false [(.int .i64 0), (.int .i64 0), (.int .i64 0), (.int .i64 0)], none, 0, 0⟩,
  ⟨(some 1), .move (.t 9), none, 1, 23⟩,
  ⟨none, .store 4 (.t 2) (.t 10), none, 1, 63⟩]
def f15r2 : List AOper := [
  ⟨(some 12), .call (.c (.fn 18 [] [])) [(.c (.str [97, 10, 32, 48, 56]))], none, 0, 0⟩,
  ⟨(some 11), .move (.t 12), none, 0, 1⟩,
  ⟨(some 13), .extract (.t 11) 0, none, 0, 3⟩,
  ⟨(some 14), .extract (.t 11) 1, none, 0, 3⟩,
  ⟨(some 4), .alloc false [(.int .i64 0), (.int .i64 0), (.int .i64 0), (.int .i64 0)], none, 0, 0⟩,
  ⟨(some 3), .move (.t 13), none, 1, 23⟩,
  ⟨none, .store 4 (.t 4) (.t 14), none, 1, 63⟩]
def f15r3 : List AOper := [
  ⟨(some 16), .build [(.int .i64 0), (.str []), (.int .i64 0), (.int .i64 0), (.int .i64 0), (.int .i64 0)] [(0, 1, (.c (.int .i64 1))), (1, 1, (.c (.str [97])))], none, 0, 0⟩,
  ⟨(some 17), .build [(.int .i64 0), (.str []), (.int .i64 0), (.int .i64 0), (.int .i64 0), (.int .i64 0)] [(0, 1, (.c (.int .i64 6))), (1, 1, (.c (.str [45, 62])))], none, 0, 0⟩,
  ⟨(some 18), .build [(.int .i64 0), (.str []), (.int .i64 0), (.int .i64 0), (.int .i64 0), (.int .i64 0)] [(0, 1, (.c (.int .i64 3))), (2, 1, (.c (.int .i64 7))), (1, 1, (.c (.str [117, 110, 115, 105, 103, 110, 101, 100, 32, 105, 110, 116])))], none, 0, 0⟩,
  ⟨(some 19), .build [(.int .i64 0), (.str []), (.int .i64 0), (.int .i64 0), (.int .i64 0), (.int .i64 0)] [(0, 1, (.c (.int .i64 4))), (2, 1, (.c (.int .i64 (-1))))], none, 0, 0⟩,
  ⟨(some 20), .build [(.int .i64 0), (.str []), (.int .i64 0), (.int .i64 0), (.int .i64 0), (.int .i64 0)] [(0, 1, (.c (.int .i64 5))), (1, 1, (.c (.str [120, 10])))], none, 0, 0⟩,
  ⟨(some 21), .buildSlice true 6 5 [(.int .i64 0), (.str []), (.int .i64 0), (.int .i64 0), (.int .i64 0), (.int .i64 0), (.int .i64 0), (.str []), (.int .i64 0), (.int .i64 0), (.int .i64 0), (.int .i64 0), (.int .i64 0), (.str []), (.int .i64 0), (.int .i64 0), (.int .i64 0), (.int .i64 0), (.int .i64 0), (.str []), (.int .i64 0), (.int .i64 0), (.int .i64 0), (.int .i64 0), (.int .i64 0), (.str []), (.int .i64 0), (.int .i64 0), (.int .i64 0), (.int .i64 0)] [(0, 6, (.t 16)), (6, 6, (.t 17)), (12, 6, (.t 18)), (18, 6, (.t 19)), (24, 6, (.t 20))], none, 0, 31⟩,
  ⟨(some 22), .call (.c (.fn 16 [] [])) [(.t 21)], none, 0, 63⟩,
  ⟨(some 15), .move (.t 22), none, 0, 127⟩,
  ⟨(some 23), .extract (.t 15) 0, none, 0, 255⟩,
  ⟨(some 24), .extract (.t 15) 1, none, 0, 255⟩,
  ⟨(some 5), .move (.t 23), none, 0, 511⟩,
  ⟨(some 6), .move (.t 24), none, 0, 2047⟩]
def f15r4 : List AOper := [
  ⟨(some 25), .load true 4 (.t 2), none, 0, 0⟩,
  ⟨(some 26), .build [(.int .i64 0), (.int .i64 0), (.int .i64 0), (.int .i64 0)] [], none, 0, 0⟩,
  ⟨(some 27), .eq false (.agg [.int .i64, .int .i64, .int .i64, .int .i64]) (.t 25) (.t 26), none, 0, 3⟩,
  ⟨(some 28), .move (.t 27), none, 0, 7⟩,
  ⟨(some 29), .move (.t 1), (some (28, true)), 0, 15⟩,
  ⟨(some 30), .len 1 (.t 29), (some (28, true)), 0, 31⟩,
  ⟨(some 31), .bin .eql (.t 30) (.c (.int .i64 13)), (some (28, true)), 0, 63⟩,
  ⟨(some 32), .pick (.t 28) (.t 31) (.c (.bool false)), none, 0, 127⟩,
  ⟨(some 33), .move (.t 32), none, 0, 255⟩,
  ⟨(some 34), .move (.t 1), (some (33, true)), 0, 511⟩,
  ⟨(some 35), .idxAddr 6 (.t 34) (.c (.int .i64 0)), (some (33, true)), 0, 1023⟩,
  ⟨(some 36), .fieldAddr 0 (.t 35), (some (33, true)), 0, 2047⟩,
  ⟨(some 37), .load false 1 (.t 36), (some (33, true)), 0, 4095⟩,
  ⟨(some 38), .bin .eql (.t 37) (.c (.int .i64 2)), (some (33, true)), 0, 8191⟩,
  ⟨(some 39), .pick (.t 33) (.t 38) (.c (.bool false)), none, 0, 16383⟩,
  ⟨(some 40), .move (.t 39), none, 0, 32767⟩,
  ⟨(some 41), .move (.t 1), (some (40, true)), 0, 65535⟩,
  ⟨(some 42), .idxAddr 6 (.t 41) (.c (.int .i64 7)), (some (40, true)), 0, 131071⟩,
  ⟨(some 43), .fieldAddr 2 (.t 42), (some (40, true)), 0, 262143⟩,
  ⟨(some 44), .load false 1 (.t 43), (some (40, true)), 0, 524287⟩,
  ⟨(some 45), .bin .eql (.t 44) (.c (.int .i64 31)), (some (40, true)), 0, 1048575⟩,
  ⟨(some 46), .pick (.t 40) (.t 45) (.c (.bool false)), none, 0, 2097151⟩,
  ⟨(some 47), .move (.t 46), none, 0, 4194303⟩,
  ⟨(some 48), .move (.t 1), (some (47, true)), 0, 8388607⟩,
  ⟨(some 49), .idxAddr 6 (.t 48) (.c (.int .i64 9)), (some (47, true)), 0, 16777215⟩,
  ⟨(some 50), .fieldAddr 2 (.t 49), (some (47, true)), 0, 33554431⟩,
  ⟨(some 51), .load false 1 (.t 50), (some (47, true)), 0, 67108863⟩,
  ⟨(some 52), .bin .eql (.t 51) (.c (.int .i64 10)), (some (47, true)), 0, 134217727⟩,
  ⟨(some 53), .pick (.t 47) (.t 52) (.c (.bool false)), none, 0, 268435455⟩,
  ⟨(some 54), .move (.t 53), none, 0, 536870911⟩,
  ⟨(some 55), .move (.t 1), (some (54, true)), 0, 1073741823⟩,
  ⟨(some 56), .idxAddr 6 (.t 55) (.c (.int .i64 9)), (some (54, true)), 0, 2147483647⟩,
  ⟨(some 57), .fieldAddr 0 (.t 56), (some (54, true)), 0, 4294967295⟩,
  ⟨(some 58), .load false 1 (.t 57), (some (54, true)), 0, 8589934591⟩,
  ⟨(some 59), .bin .eql (.t 58) (.c (.int .i64 4)), (some (54, true)), 0, 17179869183⟩,
  ⟨(some 60), .pick (.t 54) (.t 59) (.c (.bool false)), none, 0, 34359738367⟩,
  ⟨(some 61), .move (.t 60), none, 0, 68719476735⟩,
  ⟨(some 62), .move (.t 1), (some (61, true)), 0, 137438953471⟩,
  ⟨(some 63), .idxAddr 6 (.t 62) (.c (.int .i64 12)), (some (61, true)), 0, 274877906943⟩,
  ⟨(some 64), .fieldAddr 0 (.t 63), (some (61, true)), 0, 549755813887⟩,
  ⟨(some 65), .load false 1 (.t 64), (some (61, true)), 0, 1099511627775⟩,
  ⟨(some 66), .bin .eql (.t 65) (.c (.int .i64 0)), (some (61, true)), 0, 2199023255551⟩,
  ⟨(some 67), .pick (.t 61) (.t 66) (.c (.bool false)), none, 0, 4398046511103⟩,
  ⟨(some 68), .move (.t 67), none, 0, 8796093022207⟩,
  ⟨(some 69), .load true 4 (.t 4), (some (68, true)), 0, 17592186044415⟩,
  ⟨(some 70), .build [(.int .i64 0), (.int .i64 0), (.int .i64 0)] [(2, 1, (.c (.int .i64 3))), (0, 1, (.c (.int .i64 2))), (1, 1, (.c (.int .i64 2)))], (some (68, true)), 0, 17592186044415⟩,
  ⟨(some 71), .build [(.int .i64 0), (.int .i64 0), (.int .i64 0), (.int .i64 0)] [(0, 1, (.c (.int .i64 21))), (1, 3, (.t 70))], (some (68, true)), 0, 52776558133247⟩,
  ⟨(some 72), .eq false (.agg [.int .i64, .int .i64, .int .i64, .int .i64]) (.t 69) (.t 71), (some (68, true)), 0, 140737488355327⟩,
  ⟨(some 73), .pick (.t 68) (.t 72) (.c (.bool false)), none, 0, 281474976710655⟩,
  ⟨(some 74), .move (.t 73), none, 0, 562949953421311⟩,
  ⟨(some 75), .move (.t 6), (some (74, true)), 0, 1125899906842623⟩,
  ⟨(some 76), .call (.c (.fn 17 [] [])) [(.t 75)], (some (74, true)), 0, 2251799813685247⟩,
  ⟨(some 77), .bin .eql (.t 76) (.c (.int .i64 0)), (some (74, true)), 0, 4503599627370495⟩,
  ⟨(some 78), .pick (.t 74) (.t 77) (.c (.bool false)), none, 0, 9007199254740991⟩,
  ⟨(some 79), .move (.t 78), none, 0, 18014398509481983⟩,
  ⟨(some 80), .move (.t 5), (some (79, true)), 0, 36028797018963967⟩,
  ⟨(some 81), .bin .eql (.t 80) (.c (.str [97, 32, 45, 62, 32, 55, 85, 32, 39, 92, 51, 55, 55, 39, 32, 34, 120, 92, 110, 34])), (some (79, true)), 0, 72057594037927935⟩,
  ⟨(some 82), .pick (.t 79) (.t 81) (.c (.bool false)), none, 0, 144115188075855871⟩,
  ⟨(some 83), .move (.t 82), none, 0, 288230376151711743⟩,
  ⟨(some 84), .call (.c (.fn 11 [] [])) [(.c (.str [113, 95, 49]))], (some (83, true)), 0, 576460752303423487⟩,
  ⟨(some 85), .pick (.t 83) (.t 84) (.c (.bool false)), none, 0, 1152921504606846975⟩,
  ⟨(some 86), .move (.t 85), none, 0, 2305843009213693951⟩,
  ⟨(some 87), .call (.c (.fn 11 [] [])) [(.c (.str [49, 113]))], (some (86, true)), 0, 4611686018427387903⟩,
  ⟨(some 88), .un .not (.t 87), (some (86, true)), 0, 9223372036854775807⟩,
  ⟨(some 89), .pick (.t 86) (.t 88) (.c (.bool false)), none, 0, 18446744073709551615⟩,
  ⟨(some 90), .move (.t 89), none, 0, 36893488147419103231⟩,
  ⟨(some 91), .call (.c (.fn 11 [] [])) [(.c (.str [105, 110, 116]))], (some (90, true)), 0, 73786976294838206463⟩,
  ⟨(some 92), .un .not (.t 91), (some (90, true)), 0, 147573952589676412927⟩,
  ⟨(some 93), .pick (.t 90) (.t 92) (.c (.bool false)), none, 0, 295147905179352825855⟩,
  ⟨(some 94), .move (.t 93), none, 0, 590295810358705651711⟩,
  ⟨(some 95), .call (.c (.fn 13 [] [])) [(.c (.str [105, 110, 116]))], (some (94, true)), 0, 1180591620717411303423⟩,
  ⟨(some 96), .pick (.t 94) (.t 95) (.c (.bool false)), none, 0, 2361183241434822606847⟩,
  ⟨(some 97), .move (.t 96), none, 0, 4722366482869645213695⟩,
  ⟨(some 98), .call (.c (.fn 9 [] [])) [(.c (.str [97, 98, 10, 98])), (.c (.int .i64 4))], (some (97, true)), 0, 9444732965739290427391⟩,
  ⟨(some 99), .build [(.int .i64 0), (.int .i64 0), (.int .i64 0)] [(2, 1, (.c (.int .i64 4))), (0, 1, (.c (.int .i64 2))), (1, 1, (.c (.int .i64 2)))], (some (97, true)), 0, 9444732965739290427391⟩,
  ⟨(some 100), .eq false (.agg [.int .i64, .int .i64, .int .i64]) (.t 98) (.t 99), (some (97, true)), 0, 37778931862957161709567⟩,
  ⟨(some 101), .pick (.t 97) (.t 100) (.c (.bool false)), none, 0, 75557863725914323419135⟩,
  ⟨(some 0), .move (.t 101), none, 0, 151115727451828646838271⟩]
def f15c : ACode :=
  .seq (.region false f15r0 [] 0)
  (.seq (.region false f15r1 [1, 2] 1)
  (.seq (.region false f15r2 [1, 2, 4] 1)
  (.seq (.region false f15r3 [1, 2, 4, 5, 6] 0)
  (.seq (.region false f15r4 [0] 0)
  (.ret)))))
def f15 : AFn := ⟨0, 102, [.tmp 0], f15c, 1, none⟩
def f15k : List (Nat × List Nat) := [(0, []), (1, [1, 2]), (2, [1, 2, 4]), (3, [1, 2, 4, 5, 6]), (4, [0])]
def f15v : List Nat := [21]

/-! 16: mortise/token.Join, parameters [28], results [9, 29] -/
def f16r0 : List AOper := [
  ⟨(some 2), .move (.c (.str [])), none, 0, 0⟩,
  ⟨(some 3), .move (.c (.int .i64 0)), none, 0, 1⟩]
def f16r1 : List AOper := [
  ⟨(some 4), .move (.c (.is [] .nil)), none, 0, 0⟩]
def f16r2 : List AOper := [
  ⟨(some 9), .move (.t 0), none, 0, 0⟩,
  ⟨(some 10), .len 1 (.t 9), none, 0, 1⟩,
  ⟨(some 11), .move (.c (.int .i64 0)), none, 0, 0⟩]
def f16r3 : List AOper := [
  ⟨(some 12), .bin .lss (.t 11) (.t 10), none, 0, 0⟩]
def f16r4 : List AOper := [
  ⟨(some 13), .move (.t 11), none, 0, 0⟩,
  ⟨(some 14), .idxAddr 6 (.t 9) (.t 11), none, 0, 0⟩,
  ⟨(some 15), .load true 6 (.t 14), none, 0, 2⟩,
  ⟨(some 6), .alloc false [(.int .i64 0), (.str []), (.int .i64 0), (.int .i64 0), (.int .i64 0), (.int .i64 0)], none, 0, 0⟩,
  ⟨(some 5), .move (.t 13), none, 1, 15⟩,
  ⟨none, .store 6 (.t 6) (.t 15), none, 1, 31⟩]
def f16r5 : List AOper := [
  ⟨(some 17), .load true 6 (.t 6), none, 0, 0⟩,
  ⟨(some 18), .call (.c (.fn 21 [] [])) [(.t 17)], none, 0, 1⟩,
  ⟨(some 16), .move (.t 18), none, 0, 3⟩,
  ⟨(some 19), .extract (.t 16) 0, none, 0, 7⟩,
  ⟨(some 20), .extract (.t 16) 1, none, 0, 7⟩,
  ⟨(some 7), .move (.t 19), none, 0, 15⟩,
  ⟨(some 8), .move (.t 20), none, 0, 63⟩]
def f16r6 : List AOper := [
  ⟨(some 21), .move (.t 8), none, 0, 0⟩,
  ⟨(some 22), .bin .neq (.t 21) (.c (.int .i64 0)), none, 0, 1⟩,
  ⟨(some 23), .move (.t 22), none, 0, 3⟩,
  ⟨(some 24), .fieldAddr 0 (.t 6), (some (23, false)), 0, 7⟩,
  ⟨(some 25), .load false 1 (.t 24), (some (23, false)), 0, 15⟩,
  ⟨(some 26), .bin .eql (.t 25) (.c (.int .i64 0)), (some (23, false)), 0, 31⟩,
  ⟨(some 27), .move (.t 26), (some (23, false)), 0, 63⟩,
  ⟨(some 28), .move (.t 5), (some (27, true)), 0, 127⟩,
  ⟨(some 29), .move (.t 0), (some (27, true)), 0, 127⟩,
  ⟨(some 30), .len 1 (.t 29), (some (27, true)), 0, 383⟩,
  ⟨(some 31), .bin .sub (.t 30) (.c (.int .i64 1)), (some (27, true)), 0, 895⟩,
  ⟨(some 32), .bin .lss (.t 28) (.t 31), (some (27, true)), 0, 2047⟩,
  ⟨(some 33), .pick (.t 27) (.t 32) (.c (.bool false)), (some (23, false)), 0, 4095⟩,
  ⟨(some 34), .pick (.t 23) (.c (.bool true)) (.t 33), none, 0, 8191⟩]
def f16r7 : List AOper := [
  ⟨(some 2), .move (.c (.str [])), none, 0, 0⟩,
  ⟨(some 3), .move (.c (.int .i64 2)), none, 0, 1⟩]
def f16r8 : List AOper := [
  ⟨(some 35), .move (.t 4), none, 0, 0⟩,
  ⟨(some 36), .move (.t 7), none, 0, 0⟩,
  ⟨(some 37), .buildSlice true 1 1 [(.str [])] [(0, 1, (.t 36))], none, 0, 2⟩,
  ⟨(some 38), .append true 1 16 (.t 35) (.t 37), none, 0, 7⟩,
  ⟨(some 4), .move (.t 38), none, 1, 15⟩]
def f16r9 : List AOper := [
  ⟨(some 39), .bin .add (.t 11) (.c (.int .i64 1)), none, 0, 0⟩,
  ⟨(some 11), .move (.t 39), none, 0, 1⟩]
def f16m3 : ACode :=
  .seq (.region false f16r3 [0, 4, 9, 10, 11, 12] 0)
  (.seq (.cond (.t 12)
    (.skip)
    (.exit 0))
  (.seq (.block 1 (.seq (.region false f16r4 [0, 4, 5, 6, 9, 10, 11] 1)
    (.seq (.region false f16r5 [0, 4, 5, 6, 7, 8, 9, 10, 11] 0)
    (.seq (.seq (.region false f16r6 [0, 4, 7, 9, 10, 11, 34] 0)
    (.cond (.t 34)
      (.seq (.region false f16r7 [2, 3] 0)
      (.ret))
      (.skip)))
    (.region false f16r8 [0, 4, 9, 10, 11] 1)))))
  (.region false f16r9 [0, 4, 9, 10, 11] 0)))
def f16l3 : ACode := f16m3
theorem f16l3_b {A : Tab} {nt : Nat} {e : Env} {h : Heap} : Brun A nt f16l3 e h = Brun A nt f16m3 e h := rfl
def f16r10 : List AOper := [
  ⟨(some 40), .move (.t 4), none, 0, 0⟩,
  ⟨(some 41), .call (.c (.fn 28 [] [])) [(.t 40), (.c (.str [32]))], none, 0, 1⟩,
  ⟨(some 2), .move (.t 41), none, 0, 3⟩,
  ⟨(some 3), .move (.c (.int .i64 0)), none, 0, 7⟩]
def f16c : ACode :=
  .seq (.region false f16r0 [0] 0)
  (.seq (.region false f16r1 [0, 4] 0)
  (.seq (.seq (.region false f16r2 [0, 4, 9, 10, 11] 0)
  (.block 0 (.loop f16l3)))
  (.seq (.region false f16r10 [2, 3] 0)
  (.ret))))
def f16 : AFn := ⟨1, 42, [.tmp 2, .tmp 3], f16c, 1, none⟩
def f16k : List (Nat × List Nat) := [(0, [0]), (1, [0, 4]), (2, [0, 4, 9, 10, 11]), (3, [0, 4, 9, 10, 11, 12]), (4, [0, 4, 5, 6, 9, 10, 11]), (5, [0, 4, 5, 6, 7, 8, 9, 10, 11]), (6, [0, 4, 7, 9, 10, 11, 34]), (7, [2, 3]), (8, [0, 4, 9, 10, 11]), (9, [0, 4, 9, 10, 11]), (10, [2, 3])]
def f16v : List Nat := [38, 37]

/-! 17: mortise/mortiselaw02.num, parameters [29], results [3] -/
def f17r0 : List AOper := [
  ⟨(some 2), .move (.c (.int .i64 0)), none, 0, 0⟩]
def f17r1 : List AOper := [
  ⟨(some 3), .move (.t 0), none, 0, 0⟩,
  ⟨(some 2), .move (.t 3), none, 0, 1⟩]
def f17c : ACode :=
  .seq (.region false f17r0 [0] 0)
  (.seq (.region false f17r1 [2] 0)
  (.ret))
def f17 : AFn := ⟨1, 4, [.tmp 2], f17c, 1, none⟩
def f17k : List (Nat × List Nat) := [(0, [0]), (1, [2])]
def f17v : List Nat := []

/-! 18: mortise/token.Scan, parameters [9], results [28, 34] -/
def f18r0 : List AOper := [
  ⟨(some 2), .move (.c (.is [] .nil)), none, 0, 0⟩,
  ⟨(some 3), .alloc false [(.int .i64 0), (.int .i64 0), (.int .i64 0), (.int .i64 0)], none, 0, 0⟩]
def f18r1 : List AOper := [
  ⟨(some 11), .move (.t 0), none, 0, 0⟩,
  ⟨(some 12), .len 0 (.t 11), none, 0, 1⟩,
  ⟨(some 13), .bin .gtr (.t 12) (.c (.int .i64 65536)), none, 0, 3⟩]
def f18r2 : List AOper := [
  ⟨(some 14), .build [(.int .i64 0), (.int .i64 0), (.int .i64 0), (.int .i64 0)] [(0, 1, (.c (.int .i64 24)))], none, 0, 0⟩,
  ⟨(some 2), .move (.c (.is [] .nil)), none, 0, 0⟩,
  ⟨none, .store 4 (.t 3) (.t 14), none, 0, 3⟩]
def f18r3 : List AOper := [
  ⟨(some 15), .move (.t 0), none, 0, 0⟩,
  ⟨(some 16), .build [(.int .i64 0), (.int .i64 0), (.int .i64 0)] [(0, 1, (.c (.int .i64 1))), (1, 1, (.c (.int .i64 1)))], none, 0, 0⟩,
  ⟨(some 17), .build [(.str []), (.int .i64 0), (.int .i64 0), (.int .i64 0)] [(0, 1, (.t 15)), (1, 3, (.t 16))], none, 0, 3⟩,
  ⟨(some 18), .box false (.t 17), none, 0, 7⟩,
  ⟨(some 4), .move (.t 18), none, 1, 15⟩]
def f18r4 : List AOper := [
  ⟨(some 5), .move (.c (.is [] .nil)), none, 0, 0⟩]
def f18r5 : List AOper := [
  ⟨(some 6), .move (.c (.int .i64 0)), none, 0, 0⟩]
def f18r6 : List AOper := [
  ⟨(some 20), .move (.t 0), none, 0, 0⟩,
  ⟨(some 21), .move (.t 6), none, 0, 0⟩,
  ⟨(some 22), .call (.c (.fn 29 [] [])) [(.t 20), (.t 21)], none, 0, 3⟩,
  ⟨(some 19), .move (.t 22), none, 0, 7⟩,
  ⟨(some 23), .extract (.t 19) 0, none, 0, 15⟩,
  ⟨(some 24), .extract (.t 19) 1, none, 0, 15⟩,
  ⟨(some 7), .move (.t 23), none, 0, 31⟩,
  ⟨(some 8), .move (.t 24), none, 0, 127⟩]
def f18r7 : List AOper := [
  ⟨(some 25), .move (.t 8), none, 0, 0⟩,
  ⟨(some 26), .bin .neq (.t 25) (.c (.int .i64 0)), none, 0, 1⟩]
def f18r8 : List AOper := [
  ⟨(some 27), .move (.t 8), none, 0, 0⟩,
  ⟨(some 28), .move (.t 4), none, 0, 0⟩,
  ⟨(some 29), .move (.t 7), none, 0, 0⟩,
  ⟨(some 30), .call (.c (.fn 30 [] [])) [(.t 28), (.t 29)], none, 0, 6⟩,
  ⟨(some 31), .build [(.int .i64 0), (.int .i64 0), (.int .i64 0), (.int .i64 0)] [(0, 1, (.t 27)), (1, 3, (.t 30))], none, 0, 15⟩,
  ⟨(some 2), .move (.c (.is [] .nil)), none, 0, 14⟩,
  ⟨none, .store 4 (.t 3) (.t 31), none, 0, 63⟩]
def f18r9 : List AOper := [
  ⟨(some 32), .move (.t 7), none, 0, 0⟩,
  ⟨(some 33), .move (.t 0), none, 0, 0⟩,
  ⟨(some 34), .len 0 (.t 33), none, 0, 2⟩,
  ⟨(some 35), .bin .eql (.t 32) (.t 34), none, 0, 7⟩]
def f18r10 : List AOper := [
  ⟨(some 36), .move (.t 5), none, 0, 0⟩,
  ⟨(some 37), .move (.t 4), none, 0, 0⟩,
  ⟨(some 38), .move (.t 7), none, 0, 0⟩,
  ⟨(some 39), .call (.c (.fn 30 [] [])) [(.t 37), (.t 38)], none, 0, 6⟩,
  ⟨(some 40), .build [(.int .i64 0), (.str []), (.int .i64 0), (.int .i64 0), (.int .i64 0), (.int .i64 0)] [(3, 3, (.t 39))], none, 0, 14⟩,
  ⟨(some 41), .buildSlice true 6 1 [(.int .i64 0), (.str []), (.int .i64 0), (.int .i64 0), (.int .i64 0), (.int .i64 0)] [(0, 6, (.t 40))], none, 0, 30⟩,
  ⟨(some 42), .append true 6 56 (.t 36) (.t 41), none, 0, 63⟩,
  ⟨(some 43), .build [(.int .i64 0), (.int .i64 0), (.int .i64 0), (.int .i64 0)] [], none, 1, 0⟩,
  ⟨(some 2), .move (.t 42), none, 1, 127⟩,
  ⟨none, .store 4 (.t 3) (.t 43), none, 1, 511⟩]
def f18r11 : List AOper := [
  ⟨(some 45), .move (.t 0), none, 0, 0⟩,
  ⟨(some 46), .move (.t 7), none, 0, 0⟩,
  ⟨(some 47), .strSlice (.t 45) (some (.t 46)) none, none, 0, 3⟩,
  ⟨(some 48), .call (.c (.fn 31 [] [])) [(.t 47)], none, 0, 7⟩,
  ⟨(some 44), .move (.t 48), none, 0, 15⟩,
  ⟨(some 49), .extract (.t 44) 0, none, 0, 31⟩,
  ⟨(some 50), .extract (.t 44) 1, none, 0, 31⟩,
  ⟨(some 51), .extract (.t 44) 2, none, 0, 31⟩,
  ⟨(some 9), .alloc false [(.int .i64 0), (.str []), (.int .i64 0), (.int .i64 0), (.int .i64 0), (.int .i64 0)], none, 0, 0⟩,
  ⟨none, .store 6 (.t 9) (.t 49), none, 1, 319⟩,
  ⟨(some 10), .move (.t 50), none, 1, 895⟩,
  ⟨(some 8), .move (.t 51), none, 1, 2047⟩]
def f18r12 : List AOper := [
  ⟨(some 52), .move (.t 4), none, 0, 0⟩,
  ⟨(some 53), .move (.t 7), none, 0, 0⟩,
  ⟨(some 54), .call (.c (.fn 30 [] [])) [(.t 52), (.t 53)], none, 0, 3⟩,
  ⟨(some 55), .fieldAddr 3 (.t 9), none, 0, 7⟩,
  ⟨none, .store 3 (.t 55) (.t 54), none, 0, 15⟩]
def f18r13 : List AOper := [
  ⟨(some 56), .move (.t 8), none, 0, 0⟩,
  ⟨(some 57), .bin .eql (.t 56) (.c (.int .i64 0)), none, 0, 1⟩,
  ⟨(some 58), .move (.t 57), none, 0, 3⟩,
  ⟨(some 59), .move (.t 5), (some (58, true)), 0, 7⟩,
  ⟨(some 60), .len 1 (.t 59), (some (58, true)), 0, 15⟩,
  ⟨(some 61), .bin .eql (.t 60) (.c (.int .i64 16384)), (some (58, true)), 0, 31⟩,
  ⟨(some 62), .pick (.t 58) (.t 61) (.c (.bool false)), none, 0, 63⟩]
def f18r14 : List AOper := [
  ⟨(some 8), .move (.c (.int .i64 23)), none, 0, 0⟩]
def f18r15 : List AOper := [
  ⟨(some 63), .move (.t 8), none, 0, 0⟩,
  ⟨(some 64), .bin .neq (.t 63) (.c (.int .i64 0)), none, 0, 1⟩]
def f18q16 : List AOper := [
  ⟨(some 65), .move (.t 8), none, 0, 0⟩,
  ⟨(some 66), .fieldAddr 3 (.t 9), none, 0, 0⟩,
  ⟨(some 67), .load true 3 (.t 66), none, 0, 2⟩,
  ⟨(some 68), .build [(.int .i64 0), (.int .i64 0), (.int .i64 0), (.int .i64 0)] [(0, 1, (.t 65)), (1, 3, (.t 67))], none, 0, 7⟩,
  ⟨(some 2), .move (.c (.is [] .nil)), none, 0, 0⟩,
  ⟨none, .store 4 (.t 3) (.t 68), none, 0, 31⟩]
def f18r16 : List AOper := f18q16
def f18r17 : List AOper := [
  ⟨(some 69), .move (.t 5), none, 0, 0⟩,
  ⟨(some 70), .load true 6 (.t 9), none, 0, 0⟩,
  ⟨(some 71), .buildSlice true 6 1 [(.int .i64 0), (.str []), (.int .i64 0), (.int .i64 0), (.int .i64 0), (.int .i64 0)] [(0, 6, (.t 70))], none, 0, 2⟩,
  ⟨(some 72), .append true 6 56 (.t 69) (.t 71), none, 0, 7⟩,
  ⟨(some 5), .move (.t 72), none, 1, 15⟩]
def f18r18 : List AOper := [
  ⟨(some 73), .move (.t 7), none, 0, 0⟩,
  ⟨(some 74), .move (.t 10), none, 0, 0⟩,
  ⟨(some 75), .bin .add (.t 73) (.t 74), none, 0, 3⟩,
  ⟨(some 6), .move (.t 75), none, 0, 7⟩]
def f18m6 : ACode :=
  .block 1 (.seq (.region false f18r6 [0, 3, 4, 5, 7, 8] 0)
    (.seq (.seq (.region false f18r7 [0, 3, 4, 5, 7, 8, 26] 0)
    (.cond (.t 26)
      (.seq (.region false f18r8 [2, 3] 0)
      (.ret))
      (.skip)))
    (.seq (.seq (.region false f18r9 [0, 3, 4, 5, 7, 35] 0)
    (.cond (.t 35)
      (.seq (.region false f18r10 [2, 3] 1)
      (.ret))
      (.skip)))
    (.seq (.region false f18r11 [0, 3, 4, 5, 7, 8, 9, 10] 1)
    (.seq (.region false f18r12 [0, 3, 4, 5, 7, 8, 9, 10] 0)
    (.seq (.seq (.region false f18r13 [0, 3, 4, 5, 7, 8, 9, 10, 62] 0)
    (.cond (.t 62)
      (.region false f18r14 [0, 3, 4, 5, 7, 8, 9, 10] 0)
      (.skip)))
    (.seq (.seq (.region false f18r15 [0, 3, 4, 5, 7, 8, 9, 10, 64] 0)
    (.cond (.t 64)
      (.seq (.region true f18r16 [2, 3] 0)
      (.ret))
      (.skip)))
    (.seq (.region false f18r17 [0, 3, 4, 5, 7, 10] 1)
    (.region false f18r18 [0, 3, 4, 5, 6] 0)))))))))
def f18l6 : ACode := f18m6
theorem f18l6_b {A : Tab} {nt : Nat} {e : Env} {h : Heap} : Brun A nt f18l6 e h = Brun A nt f18m6 e h := rfl
theorem f18r16_s : staticOK 0 f18r16 = true := by rfl
theorem f18r16_w {A : Tab} {nt : Nat} {keep : List Nat} {n : Nat} {e : Env} {h : Heap} (hr : (bkeep keep (stepsF nt (stepF A true) h.length f18r16 e (h ++ List.replicate n .free))).isSome = true) : Brun A nt (.region true f18r16 keep n) e h = bkeep keep (stepsF nt (stepF A true) h.length f18r16 e (h ++ List.replicate n .free)) := Brun_drawnS f18r16_s hr
theorem f18r16_u (nt base : Nat) (step : Nat → AOp → Env → Heap → Option (AV × Heap)) (e : Env) (h : Heap) : stepsF nt step base f18r16 e h = stepsF nt step base f18q16 e h := rfl
def f18c : ACode :=
  .seq (.region false f18r0 [0, 3] 1)
  (.seq (.seq (.region false f18r1 [0, 3, 13] 0)
  (.cond (.t 13)
    (.seq (.region false f18r2 [2, 3] 0)
    (.ret))
    (.skip)))
  (.seq (.region false f18r3 [0, 3, 4] 1)
  (.seq (.region false f18r4 [0, 3, 4, 5] 0)
  (.seq (.region false f18r5 [0, 3, 4, 5, 6] 0)
  (.block 0 (.loop f18l6))))))
def f18 : AFn := ⟨1, 76, [.tmp 2, .cell 3 true 4], f18c, 1, none⟩
def f18k : List (Nat × List Nat) := [(0, [0, 3]), (1, [0, 3, 13]), (2, [2, 3]), (3, [0, 3, 4]), (4, [0, 3, 4, 5]), (5, [0, 3, 4, 5, 6]), (6, [0, 3, 4, 5, 7, 8]), (7, [0, 3, 4, 5, 7, 8, 26]), (8, [2, 3]), (9, [0, 3, 4, 5, 7, 35]), (10, [2, 3]), (11, [0, 3, 4, 5, 7, 8, 9, 10]), (12, [0, 3, 4, 5, 7, 8, 9, 10]), (13, [0, 3, 4, 5, 7, 8, 9, 10, 62]), (14, [0, 3, 4, 5, 7, 8, 9, 10]), (15, [0, 3, 4, 5, 7, 8, 9, 10, 64]), (16, [2, 3]), (17, [0, 3, 4, 5, 7, 10]), (18, [0, 3, 4, 5, 6])]
def f18v : List Nat := [72, 71, 42, 41]

/-! 19: mortise/mortiselaw02.plain, parameters [28], results [28] -/
def f19r0 : List AOper := [
  ⟨(some 2), .move (.c (.is [] .nil)), none, 0, 0⟩]
def f19r1 : List AOper := [
  ⟨(some 3), .move (.c (.is [] .nil)), none, 0, 0⟩]
def f19r2 : List AOper := [
  ⟨(some 4), .move (.c (.int .i64 0)), none, 0, 0⟩]
def f19r3 : List AOper := [
  ⟨(some 6), .move (.t 4), none, 0, 0⟩,
  ⟨(some 7), .move (.t 0), none, 0, 0⟩,
  ⟨(some 8), .len 1 (.t 7), none, 0, 2⟩,
  ⟨(some 9), .bin .lss (.t 6) (.t 8), none, 0, 7⟩]
def f19r4 : List AOper := [
  ⟨(some 12), .move (.t 0), none, 0, 0⟩,
  ⟨(some 13), .move (.t 4), none, 0, 0⟩,
  ⟨(some 14), .idxAddr 6 (.t 12) (.t 13), none, 0, 3⟩,
  ⟨(some 15), .load true 6 (.t 14), none, 0, 7⟩,
  ⟨(some 5), .alloc false [(.int .i64 0), (.str []), (.int .i64 0), (.int .i64 0), (.int .i64 0), (.int .i64 0)], none, 0, 0⟩,
  ⟨none, .store 6 (.t 5) (.t 15), none, 1, 31⟩]
def f19r5 : List AOper := [
  ⟨(some 16), .build [(.int .i64 0), (.int .i64 0), (.int .i64 0)] [], none, 0, 0⟩,
  ⟨(some 17), .fieldAddr 3 (.t 5), none, 0, 1⟩,
  ⟨none, .store 3 (.t 17) (.t 16), none, 0, 3⟩]
def f19r6 : List AOper := [
  ⟨(some 18), .move (.t 3), none, 0, 0⟩,
  ⟨(some 19), .load true 6 (.t 5), none, 0, 0⟩,
  ⟨(some 20), .buildSlice true 6 1 [(.int .i64 0), (.str []), (.int .i64 0), (.int .i64 0), (.int .i64 0), (.int .i64 0)] [(0, 6, (.t 19))], none, 0, 2⟩,
  ⟨(some 21), .append true 6 56 (.t 18) (.t 20), none, 0, 7⟩,
  ⟨(some 3), .move (.t 21), none, 1, 15⟩]
def f19r7 : List AOper := [
  ⟨(some 10), .move (.t 4), none, 0, 0⟩,
  ⟨(some 11), .bin .add (.t 10) (.c (.int .i64 1)), none, 0, 1⟩,
  ⟨(some 4), .move (.t 11), none, 0, 3⟩]
def f19m3 : ACode :=
  .seq (.seq (.region false f19r3 [0, 3, 4, 9] 0)
  (.cond (.t 9)
    (.skip)
    (.exit 0)))
  (.seq (.block 1 (.seq (.region false f19r4 [0, 3, 4, 5] 1)
    (.seq (.region false f19r5 [0, 3, 4, 5] 0)
    (.region false f19r6 [0, 3, 4] 1))))
  (.region false f19r7 [0, 3, 4] 0))
def f19l3 : ACode := f19m3
theorem f19l3_b {A : Tab} {nt : Nat} {e : Env} {h : Heap} : Brun A nt f19l3 e h = Brun A nt f19m3 e h := rfl
def f19r8 : List AOper := [
  ⟨(some 22), .move (.t 3), none, 0, 0⟩,
  ⟨(some 2), .move (.t 22), none, 0, 1⟩]
def f19c : ACode :=
  .seq (.region false f19r0 [0] 0)
  (.seq (.region false f19r1 [0, 3] 0)
  (.seq (.seq (.region false f19r2 [0, 3, 4] 0)
  (.block 0 (.loop f19l3)))
  (.seq (.region false f19r8 [2] 0)
  (.ret))))
def f19 : AFn := ⟨1, 23, [.tmp 2], f19c, 0, none⟩
def f19k : List (Nat × List Nat) := [(0, [0]), (1, [0, 3]), (2, [0, 3, 4]), (3, [0, 3, 4, 9]), (5, [0, 3, 4, 5]), (6, [0, 3, 4, 5]), (7, [0, 3, 4]), (4, [0, 3, 4]), (8, [2])]
def f19v : List Nat := [21, 20]

/-! 20: mortise/mortiselaw02.Same, parameters [28, 28], results [4] -/
def f20r0 : List AOper := [
  ⟨(some 4), .move (.c (.bool false)), none, 0, 0⟩]
def f20r1 : List AOper := [
  ⟨(some 6), .move (.t 0), none, 0, 0⟩,
  ⟨(some 7), .len 1 (.t 6), none, 0, 1⟩,
  ⟨(some 8), .move (.t 1), none, 0, 0⟩,
  ⟨(some 9), .len 1 (.t 8), none, 0, 4⟩,
  ⟨(some 10), .bin .neq (.t 7) (.t 9), none, 0, 15⟩]
def f20r2 : List AOper := [
  ⟨(some 4), .move (.c (.bool false)), none, 0, 0⟩]
def f20r3 : List AOper := [
  ⟨(some 5), .move (.c (.int .i64 0)), none, 0, 0⟩]
def f20r4 : List AOper := [
  ⟨(some 11), .move (.t 5), none, 0, 0⟩,
  ⟨(some 12), .move (.t 0), none, 0, 0⟩,
  ⟨(some 13), .len 1 (.t 12), none, 0, 2⟩,
  ⟨(some 14), .bin .lss (.t 11) (.t 13), none, 0, 7⟩]
def f20q5 : List AOper := [
  ⟨(some 17), .move (.t 0), none, 0, 0⟩,
  ⟨(some 18), .move (.t 5), none, 0, 0⟩,
  ⟨(some 19), .idxAddr 6 (.t 17) (.t 18), none, 0, 3⟩,
  ⟨(some 20), .load true 6 (.t 19), none, 0, 7⟩,
  ⟨(some 21), .move (.t 1), none, 0, 0⟩,
  ⟨(some 22), .move (.t 5), none, 0, 0⟩,
  ⟨(some 23), .idxAddr 6 (.t 21) (.t 22), none, 0, 48⟩,
  ⟨(some 24), .load true 6 (.t 23), none, 0, 112⟩,
  ⟨(some 25), .eq true (.agg [.int .i64, .str, .int .i64, .int .i64, .int .i64, .int .i64]) (.t 20) (.t 24), none, 0, 255⟩]
def f20r5 : List AOper := f20q5
def f20r6 : List AOper := [
  ⟨(some 4), .move (.c (.bool false)), none, 0, 0⟩]
def f20r7 : List AOper := [
  ⟨(some 15), .move (.t 5), none, 0, 0⟩,
  ⟨(some 16), .bin .add (.t 15) (.c (.int .i64 1)), none, 0, 1⟩,
  ⟨(some 5), .move (.t 16), none, 0, 3⟩]
def f20m4 : ACode :=
  .seq (.seq (.region false f20r4 [0, 1, 5, 14] 0)
  (.cond (.t 14)
    (.skip)
    (.exit 0)))
  (.seq (.block 1 (.seq (.region true f20r5 [0, 1, 5, 25] 0)
    (.cond (.t 25)
      (.seq (.region false f20r6 [4] 0)
      (.ret))
      (.skip))))
  (.region false f20r7 [0, 1, 5] 0))
def f20l4 : ACode := f20m4
theorem f20l4_b {A : Tab} {nt : Nat} {e : Env} {h : Heap} : Brun A nt f20l4 e h = Brun A nt f20m4 e h := rfl
def f20r8 : List AOper := [
  ⟨(some 4), .move (.c (.bool true)), none, 0, 0⟩]
theorem f20r5_s : staticOK 0 f20r5 = true := by rfl
theorem f20r5_w {A : Tab} {nt : Nat} {keep : List Nat} {n : Nat} {e : Env} {h : Heap} (hr : (bkeep keep (stepsF nt (stepF A true) h.length f20r5 e (h ++ List.replicate n .free))).isSome = true) : Brun A nt (.region true f20r5 keep n) e h = bkeep keep (stepsF nt (stepF A true) h.length f20r5 e (h ++ List.replicate n .free)) := Brun_drawnS f20r5_s hr
theorem f20r5_u (nt base : Nat) (step : Nat → AOp → Env → Heap → Option (AV × Heap)) (e : Env) (h : Heap) : stepsF nt step base f20r5 e h = stepsF nt step base f20q5 e h := rfl
def f20c : ACode :=
  .seq (.region false f20r0 [0, 1] 0)
  (.seq (.seq (.region false f20r1 [0, 1, 10] 0)
  (.cond (.t 10)
    (.seq (.region false f20r2 [4] 0)
    (.ret))
    (.skip)))
  (.seq (.seq (.region false f20r3 [0, 1, 5] 0)
  (.block 0 (.loop f20l4)))
  (.seq (.region false f20r8 [4] 0)
  (.ret))))
def f20 : AFn := ⟨2, 26, [.tmp 4], f20c, 1, none⟩
def f20k : List (Nat × List Nat) := [(0, [0, 1]), (1, [0, 1, 10]), (2, [4]), (3, [0, 1, 5]), (4, [0, 1, 5, 14]), (6, [0, 1, 5, 25]), (7, [4]), (5, [0, 1, 5]), (8, [4])]
def f20v : List Nat := []

/-! 21: mortise/token.Write, parameters [40], results [9, 29] -/
def f21r0 : List AOper := [
  ⟨(some 1), .box false (.t 0), none, 0, 0⟩,
  ⟨(some 2), .move (.c (.str [])), none, 1, 0⟩,
  ⟨(some 3), .move (.c (.int .i64 0)), none, 1, 2⟩]
def f21r1 : List AOper := [
  ⟨(some 4), .build [(.int .i64 0), (.int .i64 0), (.int .i64 0)] [], none, 0, 0⟩,
  ⟨(some 5), .fieldAddr 3 (.t 1), none, 0, 1⟩,
  ⟨none, .store 3 (.t 5) (.t 4), none, 0, 3⟩]
def f21r2 : List AOper := [
  ⟨(some 6), .load true 6 (.t 1), none, 0, 0⟩,
  ⟨(some 7), .call (.c (.fn 32 [] [])) [(.t 6)], none, 0, 1⟩,
  ⟨(some 8), .un .not (.t 7), none, 0, 3⟩]
def f21r3 : List AOper := [
  ⟨(some 2), .move (.c (.str [])), none, 0, 0⟩,
  ⟨(some 3), .move (.c (.int .i64 2)), none, 0, 1⟩]
def f21r4 : List AOper := [
  ⟨(some 9), .load true 6 (.t 1), none, 0, 0⟩,
  ⟨(some 10), .call (.c (.fn 33 [] [])) [(.t 9)], none, 0, 1⟩,
  ⟨(some 2), .move (.t 10), none, 0, 3⟩,
  ⟨(some 3), .move (.c (.int .i64 0)), none, 0, 7⟩]
def f21c : ACode :=
  .seq (.region false f21r0 [1] 1)
  (.seq (.region false f21r1 [1] 0)
  (.seq (.seq (.region false f21r2 [1, 8] 0)
  (.cond (.t 8)
    (.seq (.region false f21r3 [2, 3] 0)
    (.ret))
    (.skip)))
  (.seq (.region false f21r4 [2, 3] 0)
  (.ret))))
def f21 : AFn := ⟨1, 11, [.tmp 2, .tmp 3], f21c, 1, none⟩
def f21k : List (Nat × List Nat) := [(0, [1]), (1, [1]), (2, [1, 8]), (3, [2, 3]), (4, [2, 3])]
def f21v : List Nat := []

/-! 22: strings.LastIndexByte, parameters [9, 5], results [3] -/
def f22r0 : List AOper := [
  ⟨(some 4), .move (.c (.int .i64 0)), none, 0, 0⟩]
def f22r1 : List AOper := [
  ⟨(some 5), .move (.t 0), none, 0, 0⟩,
  ⟨(some 6), .move (.t 1), none, 0, 0⟩,
  ⟨(some 7), .call (.c (.fn 34 [] [])) [(.t 5), (.t 6)], none, 0, 3⟩,
  ⟨(some 4), .move (.t 7), none, 0, 7⟩]
def f22c : ACode :=
  .seq (.region false f22r0 [0, 1] 0)
  (.seq (.region false f22r1 [4] 0)
  (.ret))
def f22 : AFn := ⟨2, 8, [.tmp 4], f22c, 1, none⟩
def f22k : List (Nat × List Nat) := [(0, [0, 1]), (1, [4])]
def f22v : List Nat := []

/-! 23: strings.Count, parameters [9, 9], results [3] -/
def f23r0 : List AOper := [
  ⟨(some 4), .move (.c (.int .i64 0)), none, 0, 0⟩]
def f23r1 : List AOper := [
  ⟨(some 7), .move (.t 1), none, 0, 0⟩,
  ⟨(some 8), .len 0 (.t 7), none, 0, 1⟩,
  ⟨(some 9), .bin .eql (.t 8) (.c (.int .i64 0)), none, 0, 3⟩]
def f23r2 : List AOper := [
  ⟨(some 10), .move (.t 0), none, 0, 0⟩,
  ⟨(some 11), .call (.c (.fn 35 [] [])) [(.t 10)], none, 0, 1⟩,
  ⟨(some 12), .bin .add (.t 11) (.c (.int .i64 1)), none, 0, 3⟩,
  ⟨(some 4), .move (.t 12), none, 0, 7⟩]
def f23r3 : List AOper := [
  ⟨(some 13), .move (.t 1), none, 0, 0⟩,
  ⟨(some 14), .len 0 (.t 13), none, 0, 1⟩,
  ⟨(some 15), .bin .eql (.t 14) (.c (.int .i64 1)), none, 0, 3⟩]
def f23r4 : List AOper := [
  ⟨(some 16), .move (.t 0), none, 0, 0⟩,
  ⟨(some 17), .move (.t 1), none, 0, 0⟩,
  ⟨(some 18), .strIndex (.t 17) (.c (.int .i64 0)), none, 0, 2⟩,
  ⟨(some 19), .ext .count [(.t 16), (.t 18)], none, 0, 7⟩,
  ⟨(some 4), .move (.t 19), none, 0, 15⟩]
def f23r5 : List AOper := [
  ⟨(some 5), .move (.c (.int .i64 0)), none, 0, 0⟩]
def f23r6 : List AOper := [
  ⟨(some 20), .move (.t 0), none, 0, 0⟩,
  ⟨(some 21), .move (.t 1), none, 0, 0⟩,
  ⟨(some 22), .call (.c (.fn 37 [] [])) [(.t 20), (.t 21)], none, 0, 3⟩,
  ⟨(some 6), .move (.t 22), none, 0, 7⟩]
def f23r7 : List AOper := [
  ⟨(some 23), .move (.t 6), none, 0, 0⟩,
  ⟨(some 24), .bin .eql (.t 23) (.c (.int .i64 (-1))), none, 0, 1⟩]
def f23r8 : List AOper := [
  ⟨(some 25), .move (.t 5), none, 0, 0⟩,
  ⟨(some 4), .move (.t 25), none, 0, 1⟩]
def f23r9 : List AOper := [
  ⟨(some 26), .move (.t 5), none, 0, 0⟩,
  ⟨(some 27), .bin .add (.t 26) (.c (.int .i64 1)), none, 0, 1⟩,
  ⟨(some 5), .move (.t 27), none, 0, 3⟩]
def f23r10 : List AOper := [
  ⟨(some 28), .move (.t 0), none, 0, 0⟩,
  ⟨(some 29), .move (.t 6), none, 0, 0⟩,
  ⟨(some 30), .move (.t 1), none, 0, 0⟩,
  ⟨(some 31), .len 0 (.t 30), none, 0, 4⟩,
  ⟨(some 32), .bin .add (.t 29) (.t 31), none, 0, 14⟩,
  ⟨(some 33), .strSlice (.t 28) (some (.t 32)) none, none, 0, 31⟩,
  ⟨(some 0), .move (.t 33), none, 0, 63⟩]
def f23m6 : ACode :=
  .block 1 (.seq (.region false f23r6 [0, 1, 5, 6] 0)
    (.seq (.seq (.region false f23r7 [0, 1, 5, 6, 24] 0)
    (.cond (.t 24)
      (.seq (.region false f23r8 [4] 0)
      (.ret))
      (.skip)))
    (.seq (.region false f23r9 [0, 1, 5, 6] 0)
    (.region false f23r10 [0, 1, 5] 0))))
def f23l6 : ACode := f23m6
theorem f23l6_b {A : Tab} {nt : Nat} {e : Env} {h : Heap} : Brun A nt f23l6 e h = Brun A nt f23m6 e h := rfl
def f23c : ACode :=
  .seq (.region false f23r0 [0, 1] 0)
  (.seq (.seq (.region false f23r1 [0, 1, 9] 0)
  (.cond (.t 9)
    (.seq (.region false f23r2 [4] 0)
    (.ret))
    (.skip)))
  (.seq (.seq (.region false f23r3 [0, 1, 15] 0)
  (.cond (.t 15)
    (.seq (.region false f23r4 [4] 0)
    (.ret))
    (.skip)))
  (.seq (.region false f23r5 [0, 1, 5] 0)
  (.block 0 (.loop f23l6)))))
def f23 : AFn := ⟨2, 34, [.tmp 4], f23c, 1, none⟩
def f23k : List (Nat × List Nat) := [(0, [0, 1]), (1, [0, 1, 9]), (2, [4]), (3, [0, 1, 15]), (4, [4]), (5, [0, 1, 5]), (6, [0, 1, 5, 6]), (7, [0, 1, 5, 6, 24]), (8, [4]), (9, [0, 1, 5, 6]), (10, [0, 1, 5])]
def f23v : List Nat := []

/-! 24: mortise/token.alone, parameters [9, 38], results [4] -/
def f24r0 : List AOper := [
  ⟨(some 4), .move (.c (.bool false)), none, 0, 0⟩]
def f24r1 : List AOper := [
  ⟨(some 8), .move (.t 0), none, 0, 0⟩,
  ⟨(some 9), .bin .eql (.t 8) (.c (.str [])), none, 0, 1⟩,
  ⟨(some 10), .move (.t 9), none, 0, 3⟩,
  ⟨(some 11), .move (.t 0), (some (10, false)), 0, 7⟩,
  ⟨(some 12), .strIndex (.t 11) (.c (.int .i64 0)), (some (10, false)), 0, 15⟩,
  ⟨(some 13), .call (.c (.fn 38 [] [])) [(.t 12)], (some (10, false)), 0, 31⟩,
  ⟨(some 14), .un .not (.t 13), (some (10, false)), 0, 63⟩,
  ⟨(some 15), .pick (.t 10) (.c (.bool true)) (.t 14), none, 0, 127⟩]
def f24r2 : List AOper := [
  ⟨(some 4), .move (.c (.bool false)), none, 0, 0⟩]
def f24r3 : List AOper := [
  ⟨(some 17), .move (.t 0), none, 0, 0⟩,
  ⟨(some 18), .call (.c (.fn 31 [] [])) [(.t 17)], none, 0, 1⟩,
  ⟨(some 16), .move (.t 18), none, 0, 3⟩,
  ⟨(some 19), .extract (.t 16) 0, none, 0, 7⟩,
  ⟨(some 20), .extract (.t 16) 1, none, 0, 7⟩,
  ⟨(some 21), .extract (.t 16) 2, none, 0, 7⟩,
  ⟨(some 5), .alloc false [(.int .i64 0), (.str []), (.int .i64 0), (.int .i64 0), (.int .i64 0), (.int .i64 0)], none, 0, 0⟩,
  ⟨none, .store 6 (.t 5) (.t 19), none, 1, 79⟩,
  ⟨(some 6), .move (.t 20), none, 1, 223⟩,
  ⟨(some 7), .move (.t 21), none, 1, 511⟩]
def f24r4 : List AOper := [
  ⟨(some 22), .move (.t 7), none, 0, 0⟩,
  ⟨(some 23), .bin .eql (.t 22) (.c (.int .i64 0)), none, 0, 1⟩,
  ⟨(some 24), .move (.t 23), none, 0, 3⟩,
  ⟨(some 25), .move (.t 6), (some (24, true)), 0, 7⟩,
  ⟨(some 26), .move (.t 0), (some (24, true)), 0, 7⟩,
  ⟨(some 27), .len 0 (.t 26), (some (24, true)), 0, 23⟩,
  ⟨(some 28), .bin .eql (.t 25) (.t 27), (some (24, true)), 0, 63⟩,
  ⟨(some 29), .pick (.t 24) (.t 28) (.c (.bool false)), none, 0, 127⟩,
  ⟨(some 30), .move (.t 29), none, 0, 255⟩,
  ⟨(some 31), .fieldAddr 0 (.t 5), (some (30, true)), 0, 511⟩,
  ⟨(some 32), .load false 1 (.t 31), (some (30, true)), 0, 1023⟩,
  ⟨(some 33), .move (.t 1), (some (30, true)), 0, 511⟩,
  ⟨(some 34), .bin .eql (.t 32) (.t 33), (some (30, true)), 0, 4095⟩,
  ⟨(some 35), .pick (.t 30) (.t 34) (.c (.bool false)), none, 0, 8191⟩,
  ⟨(some 4), .move (.t 35), none, 0, 16383⟩]
def f24c : ACode :=
  .seq (.region false f24r0 [0, 1] 0)
  (.seq (.seq (.region false f24r1 [0, 1, 15] 0)
  (.cond (.t 15)
    (.seq (.region false f24r2 [4] 0)
    (.ret))
    (.skip)))
  (.seq (.region false f24r3 [0, 1, 5, 6, 7] 1)
  (.seq (.region false f24r4 [4] 0)
  (.ret))))
def f24 : AFn := ⟨2, 36, [.tmp 4], f24c, 1, none⟩
def f24k : List (Nat × List Nat) := [(0, [0, 1]), (1, [0, 1, 15]), (2, [4]), (3, [0, 1, 5, 6, 7]), (4, [4])]
def f24v : List Nat := []

/-! 25: mortise/mortiseref02.letter, parameters [5], results [4] -/
def f25r0 : List AOper := [
  ⟨(some 2), .move (.c (.bool false)), none, 0, 0⟩]
def f25r1 : List AOper := [
  ⟨(some 3), .move (.t 0), none, 0, 0⟩,
  ⟨(some 4), .bin .geq (.t 3) (.c (.int .u8 97)), none, 0, 1⟩,
  ⟨(some 5), .move (.t 4), none, 0, 3⟩,
  ⟨(some 6), .move (.t 0), (some (5, true)), 0, 7⟩,
  ⟨(some 7), .bin .leq (.t 6) (.c (.int .u8 122)), (some (5, true)), 0, 15⟩,
  ⟨(some 8), .pick (.t 5) (.t 7) (.c (.bool false)), none, 0, 31⟩,
  ⟨(some 9), .move (.t 8), none, 0, 63⟩,
  ⟨(some 10), .move (.t 0), (some (9, false)), 0, 127⟩,
  ⟨(some 11), .bin .geq (.t 10) (.c (.int .u8 65)), (some (9, false)), 0, 255⟩,
  ⟨(some 12), .move (.t 11), (some (9, false)), 0, 511⟩,
  ⟨(some 13), .move (.t 0), (some (12, true)), 0, 1023⟩,
  ⟨(some 14), .bin .leq (.t 13) (.c (.int .u8 90)), (some (12, true)), 0, 2047⟩,
  ⟨(some 15), .pick (.t 12) (.t 14) (.c (.bool false)), (some (9, false)), 0, 4095⟩,
  ⟨(some 16), .pick (.t 9) (.c (.bool true)) (.t 15), none, 0, 8191⟩,
  ⟨(some 17), .move (.t 16), none, 0, 16383⟩,
  ⟨(some 18), .move (.t 0), (some (17, false)), 0, 32767⟩,
  ⟨(some 19), .bin .eql (.t 18) (.c (.int .u8 95)), (some (17, false)), 0, 65535⟩,
  ⟨(some 20), .pick (.t 17) (.c (.bool true)) (.t 19), none, 0, 131071⟩,
  ⟨(some 2), .move (.t 20), none, 0, 262143⟩]
def f25c : ACode :=
  .seq (.region false f25r0 [0] 0)
  (.seq (.region false f25r1 [2] 0)
  (.ret))
def f25 : AFn := ⟨1, 21, [.tmp 2], f25c, 1, none⟩
def f25k : List (Nat × List Nat) := [(0, [0]), (1, [2])]
def f25v : List Nat := []

/-! 26: mortise/mortiseref02.digit, parameters [5], results [4] -/
def f26r0 : List AOper := [
  ⟨(some 2), .move (.c (.bool false)), none, 0, 0⟩]
def f26r1 : List AOper := [
  ⟨(some 3), .move (.t 0), none, 0, 0⟩,
  ⟨(some 4), .bin .geq (.t 3) (.c (.int .u8 48)), none, 0, 1⟩,
  ⟨(some 5), .move (.t 4), none, 0, 3⟩,
  ⟨(some 6), .move (.t 0), (some (5, true)), 0, 7⟩,
  ⟨(some 7), .bin .leq (.t 6) (.c (.int .u8 57)), (some (5, true)), 0, 15⟩,
  ⟨(some 8), .pick (.t 5) (.t 7) (.c (.bool false)), none, 0, 31⟩,
  ⟨(some 2), .move (.t 8), none, 0, 63⟩]
def f26c : ACode :=
  .seq (.region false f26r0 [0] 0)
  (.seq (.region false f26r1 [2] 0)
  (.ret))
def f26 : AFn := ⟨1, 9, [.tmp 2], f26c, 1, none⟩
def f26k : List (Nat × List Nat) := [(0, [0]), (1, [2])]
def f26v : List Nat := []

/-! 27: mortise/mortiseref02.keyword, parameters [9], results [4] -/
def f27r0 : List AOper := [
  ⟨(some 2), .move (.c (.bool false)), none, 0, 0⟩]
def f27r1 : List AOper := [
  ⟨(some 5), .call (.c (.fn 39 [] [])) [], none, 0, 0⟩,
  ⟨(some 3), .move (.t 5), none, 0, 1⟩]
def f27r2 : List AOper := [
  ⟨(some 4), .move (.c (.int .i64 0)), none, 0, 0⟩]
def f27r3 : List AOper := [
  ⟨(some 6), .move (.t 4), none, 0, 0⟩,
  ⟨(some 7), .move (.t 3), none, 0, 0⟩,
  ⟨(some 8), .len 1 (.t 7), none, 0, 2⟩,
  ⟨(some 9), .bin .lss (.t 6) (.t 8), none, 0, 7⟩]
def f27r4 : List AOper := [
  ⟨(some 12), .move (.t 3), none, 0, 0⟩,
  ⟨(some 13), .move (.t 4), none, 0, 0⟩,
  ⟨(some 14), .idxAddr 1 (.t 12) (.t 13), none, 0, 3⟩,
  ⟨(some 15), .load false 1 (.t 14), none, 0, 7⟩,
  ⟨(some 16), .move (.t 0), none, 0, 0⟩,
  ⟨(some 17), .bin .eql (.t 15) (.t 16), none, 0, 31⟩]
def f27r5 : List AOper := [
  ⟨(some 2), .move (.c (.bool true)), none, 0, 0⟩]
def f27r6 : List AOper := [
  ⟨(some 10), .move (.t 4), none, 0, 0⟩,
  ⟨(some 11), .bin .add (.t 10) (.c (.int .i64 1)), none, 0, 1⟩,
  ⟨(some 4), .move (.t 11), none, 0, 3⟩]
def f27m3 : ACode :=
  .seq (.seq (.region false f27r3 [0, 3, 4, 9] 0)
  (.cond (.t 9)
    (.skip)
    (.exit 0)))
  (.seq (.block 1 (.seq (.region false f27r4 [0, 3, 4, 17] 0)
    (.cond (.t 17)
      (.seq (.region false f27r5 [2] 0)
      (.ret))
      (.skip))))
  (.region false f27r6 [0, 3, 4] 0))
def f27l3 : ACode := f27m3
theorem f27l3_b {A : Tab} {nt : Nat} {e : Env} {h : Heap} : Brun A nt f27l3 e h = Brun A nt f27m3 e h := rfl
def f27r7 : List AOper := [
  ⟨(some 2), .move (.c (.bool false)), none, 0, 0⟩]
def f27c : ACode :=
  .seq (.region false f27r0 [0] 0)
  (.seq (.region false f27r1 [0, 3] 0)
  (.seq (.seq (.region false f27r2 [0, 3, 4] 0)
  (.block 0 (.loop f27l3)))
  (.seq (.region false f27r7 [2] 0)
  (.ret))))
def f27 : AFn := ⟨1, 18, [.tmp 2], f27c, 1, none⟩
def f27k : List (Nat × List Nat) := [(0, [0]), (1, [0, 3]), (2, [0, 3, 4]), (3, [0, 3, 4, 9]), (5, [0, 3, 4, 17]), (6, [2]), (4, [0, 3, 4]), (7, [2])]
def f27v : List Nat := []

/-! 29: mortise/token.space, parameters [9, 3], results [3, 29] -/
def f29r0 : List AOper := [
  ⟨(some 4), .move (.c (.int .i64 0)), none, 0, 0⟩,
  ⟨(some 5), .move (.c (.int .i64 0)), none, 0, 1⟩]
def f29r1 : List AOper := [
  ⟨(some 8), .move (.t 1), none, 0, 0⟩,
  ⟨(some 9), .move (.t 0), none, 0, 0⟩,
  ⟨(some 10), .len 0 (.t 9), none, 0, 2⟩,
  ⟨(some 11), .bin .lss (.t 8) (.t 10), none, 0, 7⟩]
def f29r2 : List AOper := [
  ⟨(some 13), .move (.t 0), none, 0, 0⟩,
  ⟨(some 14), .move (.t 1), none, 0, 0⟩,
  ⟨(some 15), .strIndex (.t 13) (.t 14), none, 0, 3⟩,
  ⟨(some 16), .bin .eql (.t 15) (.c (.int .u8 32)), none, 0, 7⟩,
  ⟨(some 17), .move (.t 16), none, 0, 15⟩,
  ⟨(some 18), .move (.t 0), (some (17, false)), 0, 31⟩,
  ⟨(some 19), .move (.t 1), (some (17, false)), 0, 31⟩,
  ⟨(some 20), .strIndex (.t 18) (.t 19), (some (17, false)), 0, 127⟩,
  ⟨(some 21), .bin .geq (.t 20) (.c (.int .u8 9)), (some (17, false)), 0, 255⟩,
  ⟨(some 22), .move (.t 21), (some (17, false)), 0, 511⟩,
  ⟨(some 23), .move (.t 0), (some (22, true)), 0, 1023⟩,
  ⟨(some 24), .move (.t 1), (some (22, true)), 0, 1023⟩,
  ⟨(some 25), .strIndex (.t 23) (.t 24), (some (22, true)), 0, 4095⟩,
  ⟨(some 26), .bin .leq (.t 25) (.c (.int .u8 13)), (some (22, true)), 0, 8191⟩,
  ⟨(some 27), .pick (.t 22) (.t 26) (.c (.bool false)), (some (17, false)), 0, 16383⟩,
  ⟨(some 28), .pick (.t 17) (.c (.bool true)) (.t 27), none, 0, 32767⟩,
  ⟨(some 12), .move (.t 28), none, 0, 65535⟩]
def f29r3 : List AOper := [
  ⟨(some 29), .move (.t 1), none, 0, 0⟩,
  ⟨(some 30), .bin .add (.t 29) (.c (.int .i64 1)), none, 0, 1⟩,
  ⟨(some 1), .move (.t 30), none, 0, 3⟩]
def f29r4 : List AOper := [
  ⟨(some 32), .move (.t 0), none, 0, 0⟩,
  ⟨(some 33), .move (.t 1), none, 0, 0⟩,
  ⟨(some 34), .strSlice (.t 32) (some (.t 33)) none, none, 0, 3⟩,
  ⟨(some 35), .call (.c (.fn 43 [] [])) [(.t 34), (.c (.str [47, 47]))], none, 0, 7⟩,
  ⟨(some 31), .move (.t 35), none, 0, 15⟩]
def f29r5 : List AOper := [
  ⟨(some 36), .move (.t 0), none, 0, 0⟩,
  ⟨(some 37), .move (.t 1), none, 0, 0⟩,
  ⟨(some 38), .strSlice (.t 36) (some (.t 37)) none, none, 0, 3⟩,
  ⟨(some 39), .call (.c (.fn 44 [] [])) [(.t 38), (.c (.int .u8 10))], none, 0, 7⟩,
  ⟨(some 6), .move (.t 39), none, 0, 15⟩]
def f29r6 : List AOper := [
  ⟨(some 40), .move (.t 6), none, 0, 0⟩,
  ⟨(some 41), .bin .lss (.t 40) (.c (.int .i64 0)), none, 0, 1⟩]
def f29r7 : List AOper := [
  ⟨(some 42), .move (.t 0), none, 0, 0⟩,
  ⟨(some 43), .len 0 (.t 42), none, 0, 1⟩,
  ⟨(some 4), .move (.t 43), none, 0, 3⟩,
  ⟨(some 5), .move (.c (.int .i64 0)), none, 0, 7⟩]
def f29r8 : List AOper := [
  ⟨(some 44), .move (.t 1), none, 0, 0⟩,
  ⟨(some 45), .move (.t 6), none, 0, 0⟩,
  ⟨(some 46), .bin .add (.t 44) (.t 45), none, 0, 3⟩,
  ⟨(some 1), .move (.t 46), none, 0, 7⟩]
def f29r9 : List AOper := [
  ⟨(some 48), .move (.t 0), none, 0, 0⟩,
  ⟨(some 49), .move (.t 1), none, 0, 0⟩,
  ⟨(some 50), .strSlice (.t 48) (some (.t 49)) none, none, 0, 3⟩,
  ⟨(some 51), .call (.c (.fn 43 [] [])) [(.t 50), (.c (.str [47, 42]))], none, 0, 7⟩,
  ⟨(some 47), .move (.t 51), none, 0, 15⟩]
def f29r10 : List AOper := [
  ⟨(some 52), .move (.t 0), none, 0, 0⟩,
  ⟨(some 53), .move (.t 1), none, 0, 0⟩,
  ⟨(some 54), .bin .add (.t 53) (.c (.int .i64 2)), none, 0, 2⟩,
  ⟨(some 55), .strSlice (.t 52) (some (.t 54)) none, none, 0, 7⟩,
  ⟨(some 56), .call (.c (.fn 37 [] [])) [(.t 55), (.c (.str [42, 47]))], none, 0, 15⟩,
  ⟨(some 7), .move (.t 56), none, 0, 31⟩]
def f29r11 : List AOper := [
  ⟨(some 57), .move (.t 7), none, 0, 0⟩,
  ⟨(some 58), .bin .lss (.t 57) (.c (.int .i64 0)), none, 0, 1⟩]
def f29r12 : List AOper := [
  ⟨(some 59), .move (.t 1), none, 0, 0⟩,
  ⟨(some 4), .move (.t 59), none, 0, 1⟩,
  ⟨(some 5), .move (.c (.int .i64 25)), none, 0, 3⟩]
def f29r13 : List AOper := [
  ⟨(some 60), .move (.t 1), none, 0, 0⟩,
  ⟨(some 61), .move (.t 7), none, 0, 0⟩,
  ⟨(some 62), .bin .add (.t 61) (.c (.int .i64 4)), none, 0, 2⟩,
  ⟨(some 63), .bin .add (.t 60) (.t 62), none, 0, 7⟩,
  ⟨(some 1), .move (.t 63), none, 0, 15⟩]
def f29m1 : ACode :=
  .seq (.seq (.region false f29r1 [0, 1, 11] 0)
  (.cond (.t 11)
    (.skip)
    (.exit 0)))
  (.block 1 (.block 2 (.seq (.region false f29r2 [0, 1, 12] 0)
      (.cond (.t 12)
        (.region false f29r3 [0, 1] 0)
        (.seq (.region false f29r4 [0, 1, 31] 0)
        (.cond (.t 31)
          (.seq (.region false f29r5 [0, 1, 6] 0)
          (.seq (.seq (.region false f29r6 [0, 1, 6, 41] 0)
          (.cond (.t 41)
            (.seq (.region false f29r7 [4, 5] 0)
            (.ret))
            (.skip)))
          (.region false f29r8 [0, 1] 0)))
          (.seq (.region false f29r9 [0, 1, 47] 0)
          (.cond (.t 47)
            (.seq (.region false f29r10 [0, 1, 7] 0)
            (.seq (.seq (.region false f29r11 [0, 1, 7, 58] 0)
            (.cond (.t 58)
              (.seq (.region false f29r12 [4, 5] 0)
              (.ret))
              (.skip)))
            (.region false f29r13 [0, 1] 0)))
            (.exit 0)))))))))
def f29l1 : ACode := f29m1
theorem f29l1_b {A : Tab} {nt : Nat} {e : Env} {h : Heap} : Brun A nt f29l1 e h = Brun A nt f29m1 e h := rfl
def f29r14 : List AOper := [
  ⟨(some 64), .move (.t 1), none, 0, 0⟩,
  ⟨(some 4), .move (.t 64), none, 0, 1⟩,
  ⟨(some 5), .move (.c (.int .i64 0)), none, 0, 3⟩]
def f29c : ACode :=
  .seq (.region false f29r0 [0, 1] 0)
  (.seq (.skip)
  (.seq (.block 0 (.loop f29l1))
  (.seq (.region false f29r14 [4, 5] 0)
  (.ret))))
def f29 : AFn := ⟨2, 65, [.tmp 4, .tmp 5], f29c, 1, none⟩
def f29k : List (Nat × List Nat) := [(0, [0, 1]), (1, [0, 1, 11]), (2, [0, 1, 12]), (4, [0, 1, 31]), (9, [0, 1, 47]), (10, [0, 1, 7]), (11, [0, 1, 7, 58]), (12, [4, 5]), (13, [0, 1]), (5, [0, 1, 6]), (6, [0, 1, 6, 41]), (7, [4, 5]), (8, [0, 1]), (3, [0, 1]), (14, [4, 5])]
def f29v : List Nat := []

/-! 30: (*mortise/token.spotter).to, parameters [55, 3], results [23] -/
def f30r0 : List AOper := [
  ⟨(some 4), .alloc false [(.int .i64 0), (.int .i64 0), (.int .i64 0)], none, 0, 0⟩]
def f30r1 : List AOper := [
  ⟨(some 5), .move (.t 0), none, 0, 0⟩,
  ⟨(some 6), .nilCheck (.t 5), none, 0, 1⟩,
  ⟨(some 7), .fieldAddr 1 (.t 6), none, 0, 3⟩,
  ⟨(some 8), .fieldAddr 2 (.t 7), none, 0, 7⟩,
  ⟨(some 9), .load false 1 (.t 8), none, 0, 15⟩,
  ⟨(some 10), .move (.t 1), none, 0, 0⟩,
  ⟨(some 11), .bin .lss (.t 9) (.t 10), none, 0, 63⟩]
def f30r2 : List AOper := [
  ⟨(some 12), .move (.t 0), none, 0, 0⟩,
  ⟨(some 13), .nilCheck (.t 12), none, 0, 1⟩,
  ⟨(some 14), .fieldAddr 1 (.t 13), none, 0, 3⟩,
  ⟨(some 15), .fieldAddr 1 (.t 14), none, 0, 7⟩,
  ⟨(some 16), .load false 1 (.t 15), none, 0, 15⟩,
  ⟨(some 17), .bin .add (.t 16) (.c (.int .i64 1)), none, 0, 31⟩,
  ⟨(some 18), .nilCheck (.t 12), none, 0, 63⟩,
  ⟨(some 19), .fieldAddr 1 (.t 18), none, 0, 127⟩,
  ⟨(some 20), .fieldAddr 1 (.t 19), none, 0, 255⟩,
  ⟨none, .store 1 (.t 20) (.t 17), none, 0, 511⟩]
def f30q3 : List AOper := [
  ⟨(some 21), .move (.t 0), none, 0, 0⟩,
  ⟨(some 22), .nilCheck (.t 21), none, 0, 1⟩,
  ⟨(some 23), .fieldAddr 0 (.t 22), none, 0, 3⟩,
  ⟨(some 24), .load false 1 (.t 23), none, 0, 7⟩,
  ⟨(some 25), .move (.t 0), none, 0, 0⟩,
  ⟨(some 26), .nilCheck (.t 25), none, 0, 16⟩,
  ⟨(some 27), .fieldAddr 1 (.t 26), none, 0, 48⟩,
  ⟨(some 28), .fieldAddr 2 (.t 27), none, 0, 112⟩,
  ⟨(some 29), .load false 1 (.t 28), none, 0, 240⟩,
  ⟨(some 30), .strIndex (.t 24) (.t 29), none, 0, 511⟩,
  ⟨(some 31), .bin .eql (.t 30) (.c (.int .u8 10)), none, 0, 1023⟩]
def f30r3 : List AOper := f30q3
def f30r4 : List AOper := [
  ⟨(some 32), .move (.t 0), none, 0, 0⟩,
  ⟨(some 33), .move (.t 0), none, 0, 0⟩,
  ⟨(some 34), .move (.t 0), none, 0, 0⟩,
  ⟨(some 35), .nilCheck (.t 34), none, 0, 4⟩,
  ⟨(some 36), .fieldAddr 1 (.t 35), none, 0, 12⟩,
  ⟨(some 37), .fieldAddr 0 (.t 36), none, 0, 28⟩,
  ⟨(some 38), .load false 1 (.t 37), none, 0, 60⟩,
  ⟨(some 39), .bin .add (.t 38) (.c (.int .i64 1)), none, 0, 124⟩,
  ⟨(some 40), .nilCheck (.t 32), none, 0, 253⟩,
  ⟨(some 41), .fieldAddr 1 (.t 40), none, 0, 509⟩,
  ⟨(some 42), .fieldAddr 0 (.t 41), none, 0, 1021⟩,
  ⟨none, .store 1 (.t 42) (.t 39), none, 0, 2045⟩,
  ⟨(some 43), .nilCheck (.t 33), none, 0, 4095⟩,
  ⟨(some 44), .fieldAddr 1 (.t 43), none, 0, 8191⟩,
  ⟨(some 45), .fieldAddr 1 (.t 44), none, 0, 16383⟩,
  ⟨none, .store 1 (.t 45) (.c (.int .i64 1)), none, 0, 32767⟩]
def f30r5 : List AOper := [
  ⟨(some 46), .move (.t 0), none, 0, 0⟩,
  ⟨(some 47), .nilCheck (.t 46), none, 0, 1⟩,
  ⟨(some 48), .fieldAddr 1 (.t 47), none, 0, 3⟩,
  ⟨(some 49), .fieldAddr 2 (.t 48), none, 0, 7⟩,
  ⟨(some 50), .load false 1 (.t 49), none, 0, 15⟩,
  ⟨(some 51), .bin .add (.t 50) (.c (.int .i64 1)), none, 0, 31⟩,
  ⟨(some 52), .nilCheck (.t 46), none, 0, 63⟩,
  ⟨(some 53), .fieldAddr 1 (.t 52), none, 0, 127⟩,
  ⟨(some 54), .fieldAddr 2 (.t 53), none, 0, 255⟩,
  ⟨none, .store 1 (.t 54) (.t 51), none, 0, 511⟩]
def f30m1 : ACode :=
  .seq (.seq (.region false f30r1 [0, 1, 4, 11] 0)
  (.cond (.t 11)
    (.skip)
    (.exit 0)))
  (.block 1 (.seq (.region false f30r2 [0, 1, 4] 0)
    (.seq (.seq (.region true f30r3 [0, 1, 4, 31] 0)
    (.cond (.t 31)
      (.region false f30r4 [0, 1, 4] 0)
      (.skip)))
    (.region false f30r5 [0, 1, 4] 0))))
def f30l1 : ACode := f30m1
theorem f30l1_b {A : Tab} {nt : Nat} {e : Env} {h : Heap} : Brun A nt f30l1 e h = Brun A nt f30m1 e h := rfl
def f30r6 : List AOper := [
  ⟨(some 55), .move (.t 0), none, 0, 0⟩,
  ⟨(some 56), .nilCheck (.t 55), none, 0, 1⟩,
  ⟨(some 57), .fieldAddr 1 (.t 56), none, 0, 3⟩,
  ⟨(some 58), .load true 3 (.t 57), none, 0, 7⟩,
  ⟨none, .store 3 (.t 4) (.t 58), none, 0, 15⟩]
theorem f30r3_s : staticOK 0 f30r3 = true := by rfl
theorem f30r3_w {A : Tab} {nt : Nat} {keep : List Nat} {n : Nat} {e : Env} {h : Heap} (hr : (bkeep keep (stepsF nt (stepF A true) h.length f30r3 e (h ++ List.replicate n .free))).isSome = true) : Brun A nt (.region true f30r3 keep n) e h = bkeep keep (stepsF nt (stepF A true) h.length f30r3 e (h ++ List.replicate n .free)) := Brun_drawnS f30r3_s hr
theorem f30r3_u (nt base : Nat) (step : Nat → AOp → Env → Heap → Option (AV × Heap)) (e : Env) (h : Heap) : stepsF nt step base f30r3 e h = stepsF nt step base f30q3 e h := rfl
def f30c : ACode :=
  .seq (.region false f30r0 [0, 1, 4] 1)
  (.seq (.block 0 (.loop f30l1))
  (.seq (.region false f30r6 [4] 0)
  (.ret)))
def f30 : AFn := ⟨2, 59, [.cell 4 true 3], f30c, 1, none⟩
def f30k : List (Nat × List Nat) := [(0, [0, 1, 4]), (1, [0, 1, 4, 11]), (2, [0, 1, 4]), (3, [0, 1, 4, 31]), (4, [0, 1, 4]), (5, [0, 1, 4]), (6, [4])]
def f30v : List Nat := []

/-! 31: mortise/token.one, parameters [9], results [40, 3, 29] -/
def f31r0 : List AOper := [
  ⟨(some 2), .alloc false [(.int .i64 0), (.str []), (.int .i64 0), (.int .i64 0), (.int .i64 0), (.int .i64 0)], none, 0, 0⟩,
  ⟨(some 3), .move (.c (.int .i64 0)), none, 1, 0⟩,
  ⟨(some 4), .move (.c (.int .i64 0)), none, 1, 2⟩]
def f31r1 : List AOper := [
  ⟨(some 14), .move (.t 0), none, 0, 0⟩,
  ⟨(some 15), .strIndex (.t 14) (.c (.int .i64 0)), none, 0, 1⟩,
  ⟨(some 5), .move (.t 15), none, 0, 3⟩]
def f31r2 : List AOper := [
  ⟨(some 17), .move (.t 5), none, 0, 0⟩,
  ⟨(some 18), .call (.c (.fn 38 [] [])) [(.t 17)], none, 0, 1⟩,
  ⟨(some 16), .move (.t 18), none, 0, 3⟩]
def f31r3 : List AOper := [
  ⟨(some 19), .move (.t 0), none, 0, 0⟩,
  ⟨(some 20), .call (.c (.fn 45 [] [])) [(.t 19), (.c (.fn 46 [] []))], none, 0, 1⟩,
  ⟨(some 6), .move (.t 20), none, 0, 3⟩]
def f31r4 : List AOper := [
  ⟨(some 22), .move (.t 6), none, 0, 0⟩,
  ⟨(some 23), .bin .gtr (.t 22) (.c (.int .i64 63)), none, 0, 1⟩,
  ⟨(some 21), .move (.t 23), none, 0, 3⟩]
def f31r5 : List AOper := [
  ⟨(some 24), .build [(.int .i64 0), (.str []), (.int .i64 0), (.int .i64 0), (.int .i64 0), (.int .i64 0)] [], none, 0, 0⟩,
  ⟨none, .store 6 (.t 2) (.t 24), none, 0, 1⟩,
  ⟨(some 3), .move (.c (.int .i64 0)), none, 0, 3⟩,
  ⟨(some 4), .move (.c (.int .i64 22)), none, 0, 7⟩]
def f31r6 : List AOper := [
  ⟨(some 26), .move (.t 0), none, 0, 0⟩,
  ⟨(some 27), .move (.t 6), none, 0, 0⟩,
  ⟨(some 28), .strSlice (.t 26) none (some (.t 27)), none, 0, 3⟩,
  ⟨(some 29), .call (.c (.fn 47 [] [])) [(.t 28)], none, 0, 7⟩,
  ⟨(some 25), .move (.t 29), none, 0, 15⟩]
def f31r7 : List AOper := [
  ⟨(some 30), .move (.t 0), none, 0, 0⟩,
  ⟨(some 31), .move (.t 6), none, 0, 0⟩,
  ⟨(some 32), .strSlice (.t 30) none (some (.t 31)), none, 0, 3⟩,
  ⟨(some 33), .build [(.int .i64 0), (.str []), (.int .i64 0), (.int .i64 0), (.int .i64 0), (.int .i64 0)] [(0, 1, (.c (.int .i64 2))), (1, 1, (.t 32))], none, 0, 7⟩,
  ⟨(some 34), .move (.t 6), none, 0, 0⟩,
  ⟨none, .store 6 (.t 2) (.t 33), none, 0, 15⟩,
  ⟨(some 3), .move (.t 34), none, 0, 63⟩,
  ⟨(some 4), .move (.c (.int .i64 0)), none, 0, 127⟩]
def f31r8 : List AOper := [
  ⟨(some 35), .move (.t 0), none, 0, 0⟩,
  ⟨(some 36), .move (.t 6), none, 0, 0⟩,
  ⟨(some 37), .strSlice (.t 35) none (some (.t 36)), none, 0, 3⟩,
  ⟨(some 38), .build [(.int .i64 0), (.str []), (.int .i64 0), (.int .i64 0), (.int .i64 0), (.int .i64 0)] [(0, 1, (.c (.int .i64 1))), (1, 1, (.t 37))], none, 0, 7⟩,
  ⟨(some 39), .move (.t 6), none, 0, 0⟩,
  ⟨none, .store 6 (.t 2) (.t 38), none, 0, 15⟩,
  ⟨(some 3), .move (.t 39), none, 0, 63⟩,
  ⟨(some 4), .move (.c (.int .i64 0)), none, 0, 127⟩]
def f31r9 : List AOper := [
  ⟨(some 41), .move (.t 5), none, 0, 0⟩,
  ⟨(some 42), .call (.c (.fn 48 [] [])) [(.t 41)], none, 0, 1⟩,
  ⟨(some 40), .move (.t 42), none, 0, 3⟩]
def f31r10 : List AOper := [
  ⟨(some 43), .move (.t 0), none, 0, 0⟩,
  ⟨(some 44), .call (.c (.fn 45 [] [])) [(.t 43), (.c (.fn 46 [] []))], none, 0, 1⟩,
  ⟨(some 7), .move (.t 44), none, 0, 3⟩]
def f31r11 : List AOper := [
  ⟨(some 46), .move (.t 0), none, 0, 0⟩,
  ⟨(some 47), .move (.t 7), none, 0, 0⟩,
  ⟨(some 48), .strSlice (.t 46) none (some (.t 47)), none, 0, 3⟩,
  ⟨(some 49), .call (.c (.fn 49 [] [])) [(.t 48)], none, 0, 7⟩,
  ⟨(some 45), .move (.t 49), none, 0, 15⟩,
  ⟨(some 50), .extract (.t 45) 0, none, 0, 31⟩,
  ⟨(some 51), .extract (.t 45) 1, none, 0, 31⟩,
  ⟨(some 8), .alloc false [(.int .i64 0), (.str []), (.int .i64 0), (.int .i64 0), (.int .i64 0), (.int .i64 0)], none, 0, 0⟩,
  ⟨none, .store 6 (.t 8) (.t 50), none, 1, 191⟩,
  ⟨(some 9), .move (.t 51), none, 1, 511⟩]
def f31r12 : List AOper := [
  ⟨(some 52), .move (.t 9), none, 0, 0⟩,
  ⟨(some 53), .un .not (.t 52), none, 0, 1⟩]
def f31r13 : List AOper := [
  ⟨(some 54), .build [(.int .i64 0), (.str []), (.int .i64 0), (.int .i64 0), (.int .i64 0), (.int .i64 0)] [], none, 0, 0⟩,
  ⟨none, .store 6 (.t 2) (.t 54), none, 0, 1⟩,
  ⟨(some 3), .move (.c (.int .i64 0)), none, 0, 3⟩,
  ⟨(some 4), .move (.c (.int .i64 21)), none, 0, 7⟩]
def f31r14 : List AOper := [
  ⟨(some 55), .load true 6 (.t 8), none, 0, 0⟩,
  ⟨(some 56), .move (.t 7), none, 0, 0⟩,
  ⟨none, .store 6 (.t 2) (.t 55), none, 0, 1⟩,
  ⟨(some 3), .move (.t 56), none, 0, 7⟩,
  ⟨(some 4), .move (.c (.int .i64 0)), none, 0, 15⟩]
def f31r15 : List AOper := [
  ⟨(some 58), .move (.t 5), none, 0, 0⟩,
  ⟨(some 59), .bin .eql (.t 58) (.c (.int .u8 39)), none, 0, 1⟩,
  ⟨(some 60), .move (.t 59), none, 0, 3⟩,
  ⟨(some 61), .move (.t 5), (some (60, false)), 0, 7⟩,
  ⟨(some 62), .bin .eql (.t 61) (.c (.int .u8 34)), (some (60, false)), 0, 15⟩,
  ⟨(some 63), .pick (.t 60) (.c (.bool true)) (.t 62), none, 0, 31⟩,
  ⟨(some 57), .move (.t 63), none, 0, 63⟩]
def f31r16 : List AOper := [
  ⟨(some 65), .move (.t 0), none, 0, 0⟩,
  ⟨(some 66), .strSlice (.t 65) (some (.c (.int .i64 1))) none, none, 0, 1⟩,
  ⟨(some 67), .move (.t 5), none, 0, 0⟩,
  ⟨(some 68), .call (.c (.fn 50 [] [])) [(.t 66), (.t 67)], none, 0, 7⟩,
  ⟨(some 64), .move (.t 68), none, 0, 15⟩,
  ⟨(some 69), .extract (.t 64) 0, none, 0, 31⟩,
  ⟨(some 70), .extract (.t 64) 1, none, 0, 31⟩,
  ⟨(some 71), .extract (.t 64) 2, none, 0, 31⟩,
  ⟨(some 10), .move (.t 69), none, 0, 63⟩,
  ⟨(some 11), .move (.t 70), none, 0, 383⟩,
  ⟨(some 12), .move (.t 71), none, 0, 1023⟩]
def f31r17 : List AOper := [
  ⟨(some 72), .move (.t 12), none, 0, 0⟩,
  ⟨(some 73), .un .not (.t 72), none, 0, 1⟩,
  ⟨(some 74), .move (.t 73), none, 0, 3⟩,
  ⟨(some 75), .move (.t 5), (some (74, false)), 0, 7⟩,
  ⟨(some 76), .bin .eql (.t 75) (.c (.int .u8 39)), (some (74, false)), 0, 15⟩,
  ⟨(some 77), .move (.t 76), (some (74, false)), 0, 31⟩,
  ⟨(some 78), .move (.t 10), (some (77, true)), 0, 63⟩,
  ⟨(some 79), .len 1 (.t 78), (some (77, true)), 0, 127⟩,
  ⟨(some 80), .bin .neq (.t 79) (.c (.int .i64 1)), (some (77, true)), 0, 255⟩,
  ⟨(some 81), .pick (.t 77) (.t 80) (.c (.bool false)), (some (74, false)), 0, 511⟩,
  ⟨(some 82), .pick (.t 74) (.c (.bool true)) (.t 81), none, 0, 1023⟩]
def f31r18 : List AOper := [
  ⟨(some 83), .build [(.int .i64 0), (.str []), (.int .i64 0), (.int .i64 0), (.int .i64 0), (.int .i64 0)] [], none, 0, 0⟩,
  ⟨none, .store 6 (.t 2) (.t 83), none, 0, 1⟩,
  ⟨(some 3), .move (.c (.int .i64 0)), none, 0, 3⟩,
  ⟨(some 4), .move (.c (.int .i64 26)), none, 0, 7⟩]
def f31r19 : List AOper := [
  ⟨(some 84), .move (.t 5), none, 0, 0⟩,
  ⟨(some 85), .bin .eql (.t 84) (.c (.int .u8 34)), none, 0, 1⟩]
def f31r20 : List AOper := [
  ⟨(some 86), .move (.t 10), none, 0, 0⟩,
  ⟨(some 87), .toStr (.t 86), none, 0, 1⟩,
  ⟨(some 88), .build [(.int .i64 0), (.str []), (.int .i64 0), (.int .i64 0), (.int .i64 0), (.int .i64 0)] [(0, 1, (.c (.int .i64 5))), (1, 1, (.t 87))], none, 0, 3⟩,
  ⟨(some 89), .move (.t 11), none, 0, 0⟩,
  ⟨(some 90), .bin .add (.t 89) (.c (.int .i64 1)), none, 0, 8⟩,
  ⟨none, .store 6 (.t 2) (.t 88), none, 0, 7⟩,
  ⟨(some 3), .move (.t 90), none, 0, 63⟩,
  ⟨(some 4), .move (.c (.int .i64 0)), none, 0, 127⟩]
def f31r21 : List AOper := [
  ⟨(some 91), .move (.t 10), none, 0, 0⟩,
  ⟨(some 92), .idxAddr 1 (.t 91) (.c (.int .i64 0)), none, 0, 1⟩,
  ⟨(some 93), .load false 1 (.t 92), none, 0, 3⟩,
  ⟨(some 94), .conv .i8 (.t 93), none, 0, 7⟩,
  ⟨(some 95), .conv .i64 (.t 94), none, 0, 15⟩,
  ⟨(some 96), .build [(.int .i64 0), (.str []), (.int .i64 0), (.int .i64 0), (.int .i64 0), (.int .i64 0)] [(0, 1, (.c (.int .i64 4))), (2, 1, (.t 95))], none, 0, 31⟩,
  ⟨(some 97), .move (.t 11), none, 0, 0⟩,
  ⟨(some 98), .bin .add (.t 97) (.c (.int .i64 1)), none, 0, 64⟩,
  ⟨none, .store 6 (.t 2) (.t 96), none, 0, 63⟩,
  ⟨(some 3), .move (.t 98), none, 0, 511⟩,
  ⟨(some 4), .move (.c (.int .i64 0)), none, 0, 1023⟩]
def f31r22 : List AOper := [
  ⟨(some 99), .move (.t 0), none, 0, 0⟩,
  ⟨(some 100), .call (.c (.fn 51 [] [])) [(.t 99)], none, 0, 1⟩,
  ⟨(some 13), .move (.t 100), none, 0, 3⟩]
def f31r23 : List AOper := [
  ⟨(some 101), .move (.t 13), none, 0, 0⟩,
  ⟨(some 102), .bin .eql (.t 101) (.c (.str [])), none, 0, 1⟩]
def f31r24 : List AOper := [
  ⟨(some 103), .build [(.int .i64 0), (.str []), (.int .i64 0), (.int .i64 0), (.int .i64 0), (.int .i64 0)] [], none, 0, 0⟩,
  ⟨none, .store 6 (.t 2) (.t 103), none, 0, 1⟩,
  ⟨(some 3), .move (.c (.int .i64 0)), none, 0, 3⟩,
  ⟨(some 4), .move (.c (.int .i64 20)), none, 0, 7⟩]
def f31r25 : List AOper := [
  ⟨(some 104), .move (.t 13), none, 0, 0⟩,
  ⟨(some 105), .build [(.int .i64 0), (.str []), (.int .i64 0), (.int .i64 0), (.int .i64 0), (.int .i64 0)] [(0, 1, (.c (.int .i64 6))), (1, 1, (.t 104))], none, 0, 1⟩,
  ⟨(some 106), .move (.t 13), none, 0, 0⟩,
  ⟨(some 107), .len 0 (.t 106), none, 0, 4⟩,
  ⟨none, .store 6 (.t 2) (.t 105), none, 0, 3⟩,
  ⟨(some 3), .move (.t 107), none, 0, 31⟩,
  ⟨(some 4), .move (.c (.int .i64 0)), none, 0, 63⟩]
def f31c : ACode :=
  .seq (.region false f31r0 [0, 2] 1)
  (.seq (.seq (.region false f31r1 [0, 2, 5] 0)
  (.block 0 (.seq (.region false f31r2 [0, 2, 5, 16] 0)
    (.cond (.t 16)
      (.seq (.region false f31r3 [0, 2, 6] 0)
      (.seq (.block 1 (.seq (.region false f31r4 [0, 2, 6, 21] 0)
        (.cond (.t 21)
          (.seq (.region false f31r5 [2, 3, 4] 0)
          (.ret))
          (.seq (.region false f31r6 [0, 2, 6, 25] 0)
          (.cond (.t 25)
            (.seq (.region false f31r7 [2, 3, 4] 0)
            (.ret))
            (.skip))))))
      (.seq (.region false f31r8 [2, 3, 4] 0)
      (.ret))))
      (.seq (.region false f31r9 [0, 2, 5, 40] 0)
      (.cond (.t 40)
        (.seq (.region false f31r10 [0, 2, 7] 0)
        (.seq (.region false f31r11 [2, 7, 8, 9] 1)
        (.seq (.seq (.region false f31r12 [2, 7, 8, 53] 0)
        (.cond (.t 53)
          (.seq (.region false f31r13 [2, 3, 4] 0)
          (.ret))
          (.skip)))
        (.seq (.region false f31r14 [2, 3, 4] 0)
        (.ret)))))
        (.seq (.region false f31r15 [0, 2, 5, 57] 0)
        (.cond (.t 57)
          (.seq (.region false f31r16 [2, 5, 10, 11, 12] 0)
          (.seq (.seq (.region false f31r17 [2, 5, 10, 11, 82] 0)
          (.cond (.t 82)
            (.seq (.region false f31r18 [2, 3, 4] 0)
            (.ret))
            (.skip)))
          (.seq (.seq (.region false f31r19 [2, 10, 11, 85] 0)
          (.cond (.t 85)
            (.seq (.region false f31r20 [2, 3, 4] 0)
            (.ret))
            (.skip)))
          (.seq (.region false f31r21 [2, 3, 4] 0)
          (.ret)))))
          (.skip)))))))))
  (.seq (.region false f31r22 [2, 13] 0)
  (.seq (.seq (.region false f31r23 [2, 13, 102] 0)
  (.cond (.t 102)
    (.seq (.region false f31r24 [2, 3, 4] 0)
    (.ret))
    (.skip)))
  (.seq (.region false f31r25 [2, 3, 4] 0)
  (.ret)))))
def f31 : AFn := ⟨1, 108, [.cell 2 true 6, .tmp 3, .tmp 4], f31c, 1, none⟩
def f31k : List (Nat × List Nat) := [(0, [0, 2]), (1, [0, 2, 5]), (2, [0, 2, 5, 16]), (9, [0, 2, 5, 40]), (15, [0, 2, 5, 57]), (16, [2, 5, 10, 11, 12]), (17, [2, 5, 10, 11, 82]), (18, [2, 3, 4]), (19, [2, 10, 11, 85]), (20, [2, 3, 4]), (21, [2, 3, 4]), (10, [0, 2, 7]), (11, [2, 7, 8, 9]), (12, [2, 7, 8, 53]), (13, [2, 3, 4]), (14, [2, 3, 4]), (3, [0, 2, 6]), (4, [0, 2, 6, 21]), (6, [0, 2, 6, 25]), (7, [2, 3, 4]), (5, [2, 3, 4]), (8, [2, 3, 4]), (22, [2, 13]), (23, [2, 13, 102]), (24, [2, 3, 4]), (25, [2, 3, 4])]
def f31v : List Nat := [95, 94, 87]

/-! 32: mortise/token.may, parameters [40], results [4] -/
def f32r0 : List AOper := [
  ⟨(some 1), .box true (.t 0), none, 0, 0⟩,
  ⟨(some 2), .move (.c (.bool false)), none, 0, 0⟩]
def f32r1 : List AOper := [
  ⟨(some 3), .fieldAddr 0 (.t 1), none, 0, 0⟩,
  ⟨(some 4), .load false 1 (.t 3), none, 0, 1⟩]
def f32r2 : List AOper := [
  ⟨(some 6), .bin .eql (.t 4) (.c (.int .i64 0)), none, 0, 0⟩,
  ⟨(some 5), .move (.t 6), none, 0, 1⟩]
def f32r3 : List AOper := [
  ⟨(some 7), .load true 6 (.t 1), none, 0, 0⟩,
  ⟨(some 8), .build [(.int .i64 0), (.str []), (.int .i64 0), (.int .i64 0), (.int .i64 0), (.int .i64 0)] [], none, 0, 0⟩,
  ⟨(some 9), .eq false (.agg [.int .i64, .str, .int .i64, .int .i64, .int .i64, .int .i64]) (.t 7) (.t 8), none, 0, 3⟩,
  ⟨(some 2), .move (.t 9), none, 0, 7⟩]
def f32r4 : List AOper := [
  ⟨(some 11), .bin .eql (.t 4) (.c (.int .i64 1)), none, 0, 0⟩,
  ⟨(some 10), .move (.t 11), none, 0, 1⟩]
def f32r5 : List AOper := [
  ⟨(some 12), .fieldAddr 2 (.t 1), none, 0, 0⟩,
  ⟨(some 13), .load false 1 (.t 12), none, 0, 1⟩,
  ⟨(some 14), .bin .eql (.t 13) (.c (.int .i64 0)), none, 0, 3⟩,
  ⟨(some 15), .move (.t 14), none, 0, 7⟩,
  ⟨(some 16), .fieldAddr 1 (.t 1), (some (15, true)), 0, 15⟩,
  ⟨(some 17), .load false 1 (.t 16), (some (15, true)), 0, 31⟩,
  ⟨(some 18), .call (.c (.fn 11 [] [])) [(.t 17)], (some (15, true)), 0, 63⟩,
  ⟨(some 19), .pick (.t 15) (.t 18) (.c (.bool false)), none, 0, 127⟩,
  ⟨(some 2), .move (.t 19), none, 0, 255⟩]
def f32r6 : List AOper := [
  ⟨(some 21), .bin .eql (.t 4) (.c (.int .i64 2)), none, 0, 0⟩,
  ⟨(some 20), .move (.t 21), none, 0, 1⟩]
def f32r7 : List AOper := [
  ⟨(some 22), .fieldAddr 2 (.t 1), none, 0, 0⟩,
  ⟨(some 23), .load false 1 (.t 22), none, 0, 1⟩,
  ⟨(some 24), .bin .eql (.t 23) (.c (.int .i64 0)), none, 0, 3⟩,
  ⟨(some 25), .move (.t 24), none, 0, 7⟩,
  ⟨(some 26), .fieldAddr 1 (.t 1), (some (25, true)), 0, 15⟩,
  ⟨(some 27), .load false 1 (.t 26), (some (25, true)), 0, 31⟩,
  ⟨(some 28), .call (.c (.fn 13 [] [])) [(.t 27)], (some (25, true)), 0, 63⟩,
  ⟨(some 29), .pick (.t 25) (.t 28) (.c (.bool false)), none, 0, 127⟩,
  ⟨(some 2), .move (.t 29), none, 0, 255⟩]
def f32r8 : List AOper := [
  ⟨(some 31), .bin .eql (.t 4) (.c (.int .i64 3)), none, 0, 0⟩,
  ⟨(some 30), .move (.t 31), none, 0, 1⟩]
def f32r9 : List AOper := [
  ⟨(some 32), .load true 6 (.t 1), none, 0, 0⟩,
  ⟨(some 33), .call (.c (.fn 52 [] [])) [(.t 32)], none, 0, 1⟩,
  ⟨(some 2), .move (.t 33), none, 0, 3⟩]
def f32r10 : List AOper := [
  ⟨(some 35), .bin .eql (.t 4) (.c (.int .i64 4)), none, 0, 0⟩,
  ⟨(some 34), .move (.t 35), none, 0, 1⟩]
def f32r11 : List AOper := [
  ⟨(some 36), .fieldAddr 1 (.t 1), none, 0, 0⟩,
  ⟨(some 37), .load false 1 (.t 36), none, 0, 1⟩,
  ⟨(some 38), .bin .eql (.t 37) (.c (.str [])), none, 0, 3⟩,
  ⟨(some 39), .move (.t 38), none, 0, 7⟩,
  ⟨(some 40), .fieldAddr 2 (.t 1), (some (39, true)), 0, 15⟩,
  ⟨(some 41), .load false 1 (.t 40), (some (39, true)), 0, 31⟩,
  ⟨(some 42), .bin .geq (.t 41) (.c (.int .i64 (-128))), (some (39, true)), 0, 63⟩,
  ⟨(some 43), .pick (.t 39) (.t 42) (.c (.bool false)), none, 0, 127⟩,
  ⟨(some 44), .move (.t 43), none, 0, 255⟩,
  ⟨(some 45), .fieldAddr 2 (.t 1), (some (44, true)), 0, 511⟩,
  ⟨(some 46), .load false 1 (.t 45), (some (44, true)), 0, 1023⟩,
  ⟨(some 47), .bin .leq (.t 46) (.c (.int .i64 127)), (some (44, true)), 0, 2047⟩,
  ⟨(some 48), .pick (.t 44) (.t 47) (.c (.bool false)), none, 0, 4095⟩,
  ⟨(some 2), .move (.t 48), none, 0, 8191⟩]
def f32r12 : List AOper := [
  ⟨(some 50), .bin .eql (.t 4) (.c (.int .i64 5)), none, 0, 0⟩,
  ⟨(some 49), .move (.t 50), none, 0, 1⟩]
def f32r13 : List AOper := [
  ⟨(some 51), .fieldAddr 2 (.t 1), none, 0, 0⟩,
  ⟨(some 52), .load false 1 (.t 51), none, 0, 1⟩,
  ⟨(some 53), .bin .eql (.t 52) (.c (.int .i64 0)), none, 0, 3⟩,
  ⟨(some 2), .move (.t 53), none, 0, 7⟩]
def f32r14 : List AOper := [
  ⟨(some 55), .bin .eql (.t 4) (.c (.int .i64 6)), none, 0, 0⟩,
  ⟨(some 54), .move (.t 55), none, 0, 1⟩]
def f32q15 : List AOper := [
  ⟨(some 56), .fieldAddr 2 (.t 1), none, 0, 0⟩,
  ⟨(some 57), .load false 1 (.t 56), none, 0, 1⟩,
  ⟨(some 58), .bin .eql (.t 57) (.c (.int .i64 0)), none, 0, 3⟩,
  ⟨(some 59), .move (.t 58), none, 0, 7⟩,
  ⟨(some 60), .fieldAddr 1 (.t 1), (some (59, true)), 0, 15⟩,
  ⟨(some 61), .load false 1 (.t 60), (some (59, true)), 0, 31⟩,
  ⟨(some 62), .bin .neq (.t 61) (.c (.str [])), (some (59, true)), 0, 63⟩,
  ⟨(some 63), .pick (.t 59) (.t 62) (.c (.bool false)), none, 0, 127⟩,
  ⟨(some 64), .move (.t 63), none, 0, 255⟩,
  ⟨(some 65), .fieldAddr 1 (.t 1), (some (64, true)), 0, 511⟩,
  ⟨(some 66), .load false 1 (.t 65), (some (64, true)), 0, 1023⟩,
  ⟨(some 67), .call (.c (.fn 51 [] [])) [(.t 66)], (some (64, true)), 0, 2047⟩,
  ⟨(some 68), .fieldAddr 1 (.t 1), (some (64, true)), 0, 511⟩,
  ⟨(some 69), .load false 1 (.t 68), (some (64, true)), 0, 4607⟩,
  ⟨(some 70), .bin .eql (.t 67) (.t 69), (some (64, true)), 0, 16383⟩,
  ⟨(some 71), .pick (.t 64) (.t 70) (.c (.bool false)), none, 0, 32767⟩,
  ⟨(some 2), .move (.t 71), none, 0, 65535⟩]
def f32r15 : List AOper := f32q15
def f32r16 : List AOper := [
  ⟨(some 2), .move (.c (.bool false)), none, 0, 0⟩]
theorem f32r15_s : staticOK 0 f32r15 = true := by rfl
theorem f32r15_w {A : Tab} {nt : Nat} {keep : List Nat} {n : Nat} {e : Env} {h : Heap} (hr : (bkeep keep (stepsF nt (stepF A true) h.length f32r15 e (h ++ List.replicate n .free))).isSome = true) : Brun A nt (.region true f32r15 keep n) e h = bkeep keep (stepsF nt (stepF A true) h.length f32r15 e (h ++ List.replicate n .free)) := Brun_drawnS f32r15_s hr
theorem f32r15_u (nt base : Nat) (step : Nat → AOp → Env → Heap → Option (AV × Heap)) (e : Env) (h : Heap) : stepsF nt step base f32r15 e h = stepsF nt step base f32q15 e h := rfl
def f32c : ACode :=
  .seq (.region false f32r0 [1] 0)
  (.seq (.seq (.region false f32r1 [1, 4] 0)
  (.block 0 (.seq (.region false f32r2 [1, 4, 5] 0)
    (.cond (.t 5)
      (.seq (.region false f32r3 [2] 0)
      (.ret))
      (.seq (.region false f32r4 [1, 4, 10] 0)
      (.cond (.t 10)
        (.seq (.region false f32r5 [2] 0)
        (.ret))
        (.seq (.region false f32r6 [1, 4, 20] 0)
        (.cond (.t 20)
          (.seq (.region false f32r7 [2] 0)
          (.ret))
          (.seq (.region false f32r8 [1, 4, 30] 0)
          (.cond (.t 30)
            (.seq (.region false f32r9 [2] 0)
            (.ret))
            (.seq (.region false f32r10 [1, 4, 34] 0)
            (.cond (.t 34)
              (.seq (.region false f32r11 [2] 0)
              (.ret))
              (.seq (.region false f32r12 [1, 4, 49] 0)
              (.cond (.t 49)
                (.seq (.region false f32r13 [2] 0)
                (.ret))
                (.seq (.region false f32r14 [1, 54] 0)
                (.cond (.t 54)
                  (.seq (.region true f32r15 [2] 0)
                  (.ret))
                  (.skip)))))))))))))))))
  (.seq (.region false f32r16 [2] 0)
  (.ret)))
def f32 : AFn := ⟨1, 72, [.tmp 2], f32c, 1, none⟩
def f32k : List (Nat × List Nat) := [(0, [1]), (1, [1, 4]), (2, [1, 4, 5]), (4, [1, 4, 10]), (6, [1, 4, 20]), (8, [1, 4, 30]), (10, [1, 4, 34]), (12, [1, 4, 49]), (14, [1, 54]), (15, [2]), (13, [2]), (11, [2]), (9, [2]), (7, [2]), (5, [2]), (3, [2]), (16, [2])]
def f32v : List Nat := [1]

/-! 33: mortise/token.written, parameters [40], results [9] -/
def f33r0 : List AOper := [
  ⟨(some 1), .box true (.t 0), none, 0, 0⟩,
  ⟨(some 2), .move (.c (.str [])), none, 0, 0⟩]
def f33r1 : List AOper := [
  ⟨(some 4), .fieldAddr 0 (.t 1), none, 0, 0⟩,
  ⟨(some 5), .load false 1 (.t 4), none, 0, 1⟩]
def f33r2 : List AOper := [
  ⟨(some 7), .bin .eql (.t 5) (.c (.int .i64 3)), none, 0, 0⟩,
  ⟨(some 6), .move (.t 7), none, 0, 1⟩]
def f33r3 : List AOper := [
  ⟨(some 3), .move (.c (.str [])), none, 0, 0⟩]
def f33r4 : List AOper := [
  ⟨(some 8), .fieldAddr 1 (.t 1), none, 0, 0⟩,
  ⟨(some 9), .load false 1 (.t 8), none, 0, 1⟩,
  ⟨(some 10), .call (.c (.fn 43 [] [])) [(.t 9), (.c (.str [117, 110, 115, 105, 103, 110, 101, 100]))], none, 0, 3⟩]
def f33r5 : List AOper := [
  ⟨(some 3), .move (.c (.str [85])), none, 0, 0⟩]
def f33r6 : List AOper := [
  ⟨(some 11), .fieldAddr 1 (.t 1), none, 0, 0⟩,
  ⟨(some 12), .load false 1 (.t 11), none, 0, 1⟩,
  ⟨(some 13), .call (.c (.fn 53 [] [])) [(.t 12), (.c (.str [108, 111, 110, 103]))], none, 0, 3⟩]
def f33r7 : List AOper := [
  ⟨(some 14), .move (.t 3), none, 0, 0⟩,
  ⟨(some 15), .bin .add (.t 14) (.c (.str [76])), none, 0, 1⟩,
  ⟨(some 3), .move (.t 15), none, 0, 3⟩]
def f33r8 : List AOper := [
  ⟨(some 16), .fieldAddr 2 (.t 1), none, 0, 0⟩,
  ⟨(some 17), .load false 1 (.t 16), none, 0, 1⟩,
  ⟨(some 18), .call (.c (.fn 54 [] [])) [(.t 17)], none, 0, 3⟩,
  ⟨(some 19), .move (.t 3), none, 0, 0⟩,
  ⟨(some 20), .bin .add (.t 18) (.t 19), none, 0, 15⟩,
  ⟨(some 2), .move (.t 20), none, 0, 31⟩]
def f33r9 : List AOper := [
  ⟨(some 22), .bin .eql (.t 5) (.c (.int .i64 4)), none, 0, 0⟩,
  ⟨(some 21), .move (.t 22), none, 0, 1⟩]
def f33r10 : List AOper := [
  ⟨(some 23), .fieldAddr 2 (.t 1), none, 0, 0⟩,
  ⟨(some 24), .load false 1 (.t 23), none, 0, 1⟩,
  ⟨(some 25), .conv .u8 (.t 24), none, 0, 3⟩,
  ⟨(some 26), .buildSlice true 1 1 [(.int .u8 0)] [(0, 1, (.t 25))], none, 0, 7⟩,
  ⟨(some 27), .toStr (.t 26), none, 0, 15⟩,
  ⟨(some 28), .call (.c (.fn 55 [] [])) [(.t 27), (.c (.int .u8 39))], none, 0, 31⟩,
  ⟨(some 2), .move (.t 28), none, 0, 63⟩]
def f33r11 : List AOper := [
  ⟨(some 30), .bin .eql (.t 5) (.c (.int .i64 5)), none, 0, 0⟩,
  ⟨(some 29), .move (.t 30), none, 0, 1⟩]
def f33r12 : List AOper := [
  ⟨(some 31), .fieldAddr 1 (.t 1), none, 0, 0⟩,
  ⟨(some 32), .load false 1 (.t 31), none, 0, 1⟩,
  ⟨(some 33), .call (.c (.fn 55 [] [])) [(.t 32), (.c (.int .u8 34))], none, 0, 3⟩,
  ⟨(some 2), .move (.t 33), none, 0, 7⟩]
def f33r13 : List AOper := [
  ⟨(some 34), .fieldAddr 1 (.t 1), none, 0, 0⟩,
  ⟨(some 35), .load false 1 (.t 34), none, 0, 1⟩,
  ⟨(some 2), .move (.t 35), none, 0, 3⟩]
def f33c : ACode :=
  .seq (.region false f33r0 [1] 0)
  (.seq (.seq (.region false f33r1 [1, 5] 0)
  (.block 0 (.seq (.region false f33r2 [1, 5, 6] 0)
    (.cond (.t 6)
      (.seq (.region false f33r3 [1, 3] 0)
      (.seq (.seq (.region false f33r4 [1, 3, 10] 0)
      (.cond (.t 10)
        (.region false f33r5 [1, 3] 0)
        (.skip)))
      (.seq (.seq (.region false f33r6 [1, 3, 13] 0)
      (.cond (.t 13)
        (.region false f33r7 [1, 3] 0)
        (.skip)))
      (.seq (.region false f33r8 [2] 0)
      (.ret)))))
      (.seq (.region false f33r9 [1, 5, 21] 0)
      (.cond (.t 21)
        (.seq (.region false f33r10 [2] 0)
        (.ret))
        (.seq (.region false f33r11 [1, 29] 0)
        (.cond (.t 29)
          (.seq (.region false f33r12 [2] 0)
          (.ret))
          (.skip)))))))))
  (.seq (.region false f33r13 [2] 0)
  (.ret)))
def f33 : AFn := ⟨1, 36, [.tmp 2], f33c, 1, none⟩
def f33k : List (Nat × List Nat) := [(0, [1]), (1, [1, 5]), (2, [1, 5, 6]), (9, [1, 5, 21]), (11, [1, 29]), (12, [2]), (10, [2]), (3, [1, 3]), (4, [1, 3, 10]), (5, [1, 3]), (6, [1, 3, 13]), (7, [1, 3]), (8, [2]), (13, [2])]
def f33v : List Nat := [1, 27, 26, 25]

/-! 34: internal/bytealg.LastIndexByteString, parameters [9, 5], results [3] -/
def f34r0 : List AOper := [
  ⟨(some 4), .move (.c (.int .i64 0)), none, 0, 0⟩]
def f34r1 : List AOper := [
  ⟨(some 6), .move (.t 0), none, 0, 0⟩,
  ⟨(some 7), .len 0 (.t 6), none, 0, 1⟩,
  ⟨(some 8), .bin .sub (.t 7) (.c (.int .i64 1)), none, 0, 3⟩,
  ⟨(some 5), .move (.t 8), none, 0, 7⟩]
def f34r2 : List AOper := [
  ⟨(some 9), .move (.t 5), none, 0, 0⟩,
  ⟨(some 10), .bin .geq (.t 9) (.c (.int .i64 0)), none, 0, 1⟩]
def f34r3 : List AOper := [
  ⟨(some 13), .move (.t 0), none, 0, 0⟩,
  ⟨(some 14), .move (.t 5), none, 0, 0⟩,
  ⟨(some 15), .strIndex (.t 13) (.t 14), none, 0, 3⟩,
  ⟨(some 16), .move (.t 1), none, 0, 0⟩,
  ⟨(some 17), .bin .eql (.t 15) (.t 16), none, 0, 15⟩]
def f34r4 : List AOper := [
  ⟨(some 18), .move (.t 5), none, 0, 0⟩,
  ⟨(some 4), .move (.t 18), none, 0, 1⟩]
def f34r5 : List AOper := [
  ⟨(some 11), .move (.t 5), none, 0, 0⟩,
  ⟨(some 12), .bin .sub (.t 11) (.c (.int .i64 1)), none, 0, 1⟩,
  ⟨(some 5), .move (.t 12), none, 0, 3⟩]
def f34m2 : ACode :=
  .seq (.seq (.region false f34r2 [0, 1, 5, 10] 0)
  (.cond (.t 10)
    (.skip)
    (.exit 0)))
  (.seq (.block 1 (.seq (.region false f34r3 [0, 1, 5, 17] 0)
    (.cond (.t 17)
      (.seq (.region false f34r4 [4] 0)
      (.ret))
      (.skip))))
  (.region false f34r5 [0, 1, 5] 0))
def f34l2 : ACode := f34m2
theorem f34l2_b {A : Tab} {nt : Nat} {e : Env} {h : Heap} : Brun A nt f34l2 e h = Brun A nt f34m2 e h := rfl
def f34r6 : List AOper := [
  ⟨(some 4), .move (.c (.int .i64 (-1))), none, 0, 0⟩]
def f34c : ACode :=
  .seq (.region false f34r0 [0, 1] 0)
  (.seq (.seq (.region false f34r1 [0, 1, 5] 0)
  (.block 0 (.loop f34l2)))
  (.seq (.region false f34r6 [4] 0)
  (.ret)))
def f34 : AFn := ⟨2, 19, [.tmp 4], f34c, 1, none⟩
def f34k : List (Nat × List Nat) := [(0, [0, 1]), (1, [0, 1, 5]), (2, [0, 1, 5, 10]), (4, [0, 1, 5, 17]), (5, [4]), (3, [0, 1, 5]), (6, [4])]
def f34v : List Nat := []

/-! 35: unicode/utf8.RuneCountInString, parameters [9], results [3] -/
def f35r0 : List AOper := [
  ⟨(some 2), .move (.c (.int .i64 0)), none, 0, 0⟩]
def f35r1 : List AOper := [
  ⟨(some 3), .move (.t 0), none, 0, 0⟩,
  ⟨(some 4), .stuck, none, 0, 1⟩]
def f35r2 : List AOper := [
  ⟨(some 5), .stuck, none, 0, 0⟩,
  ⟨(some 6), .extract (.t 5) 0, none, 0, 1⟩]
def f35r3 : List AOper := [
  ⟨(some 7), .move (.t 2), none, 0, 0⟩,
  ⟨(some 8), .bin .add (.t 7) (.c (.int .i64 1)), none, 0, 1⟩,
  ⟨(some 2), .move (.t 8), none, 0, 3⟩]
def f35m2 : ACode :=
  .seq (.region false f35r2 [2, 6] 0)
  (.seq (.cond (.t 6)
    (.skip)
    (.exit 0))
  (.block 1 (.region false f35r3 [2] 0)))
def f35l2 : ACode := f35m2
theorem f35l2_b {A : Tab} {nt : Nat} {e : Env} {h : Heap} : Brun A nt f35l2 e h = Brun A nt f35m2 e h := rfl
def f35r4 : List AOper := [
  ⟨(some 9), .move (.t 2), none, 0, 0⟩,
  ⟨(some 2), .move (.t 9), none, 0, 1⟩]
def f35c : ACode :=
  .seq (.region false f35r0 [0, 2] 0)
  (.seq (.seq (.region false f35r1 [2] 0)
  (.block 0 (.loop f35l2)))
  (.seq (.region false f35r4 [2] 0)
  (.ret)))
def f35 : AFn := ⟨1, 10, [.tmp 2], f35c, 1, none⟩
def f35k : List (Nat × List Nat) := [(0, [0, 2]), (1, [2]), (2, [2, 6]), (3, [2]), (4, [2])]
def f35v : List Nat := []

/-! 38: mortise/token.letter, parameters [5], results [4] -/
def f38r0 : List AOper := [
  ⟨(some 2), .move (.c (.bool false)), none, 0, 0⟩]
def f38r1 : List AOper := [
  ⟨(some 3), .move (.t 0), none, 0, 0⟩,
  ⟨(some 4), .bin .or (.t 3) (.c (.int .u8 32)), none, 0, 1⟩,
  ⟨(some 5), .bin .geq (.t 4) (.c (.int .u8 97)), none, 0, 3⟩,
  ⟨(some 6), .move (.t 5), none, 0, 7⟩,
  ⟨(some 7), .move (.t 0), (some (6, true)), 0, 15⟩,
  ⟨(some 8), .bin .or (.t 7) (.c (.int .u8 32)), (some (6, true)), 0, 31⟩,
  ⟨(some 9), .bin .leq (.t 8) (.c (.int .u8 122)), (some (6, true)), 0, 63⟩,
  ⟨(some 10), .pick (.t 6) (.t 9) (.c (.bool false)), none, 0, 127⟩,
  ⟨(some 11), .move (.t 10), none, 0, 255⟩,
  ⟨(some 12), .move (.t 0), (some (11, false)), 0, 511⟩,
  ⟨(some 13), .bin .eql (.t 12) (.c (.int .u8 95)), (some (11, false)), 0, 1023⟩,
  ⟨(some 14), .pick (.t 11) (.c (.bool true)) (.t 13), none, 0, 2047⟩,
  ⟨(some 2), .move (.t 14), none, 0, 4095⟩]
def f38c : ACode :=
  .seq (.region false f38r0 [0] 0)
  (.seq (.region false f38r1 [2] 0)
  (.ret))
def f38 : AFn := ⟨1, 15, [.tmp 2], f38c, 1, none⟩
def f38k : List (Nat × List Nat) := [(0, [0]), (1, [2])]
def f38v : List Nat := []

/-! 39: mortise/mortiseref02.Keywords, parameters [], results [44] -/
def f39r0 : List AOper := [
  ⟨(some 0), .move (.c (.is [] .nil)), none, 0, 0⟩]
def f39r1 : List AOper := [
  ⟨(some 1), .buildSlice true 1 23 (List.replicate 23 (.str [])) [(0, 1, (.c (.str [95, 66, 111, 111, 108]))), (1, 1, (.c (.str [98, 114, 101, 97, 107]))), (2, 1, (.c (.str [99, 104, 97, 114]))), (3, 1, (.c (.str [99, 111, 110, 116, 105, 110, 117, 101]))), (4, 1, (.c (.str [100, 111]))), (5, 1, (.c (.str [101, 108, 115, 101]))), (6, 1, (.c (.str [101, 110, 117, 109]))), (7, 1, (.c (.str [102, 111, 114]))), (8, 1, (.c (.str [105, 102]))), (9, 1, (.c (.str [105, 110, 116]))), (10, 1, (.c (.str [108, 111, 110, 103]))), (11, 1, (.c (.str [111, 102, 102, 115, 101, 116, 111, 102]))), (12, 1, (.c (.str [114, 101, 116, 117, 114, 110]))), (13, 1, (.c (.str [115, 104, 111, 114, 116]))), (14, 1, (.c (.str [115, 105, 103, 110, 101, 100]))), (15, 1, (.c (.str [115, 105, 122, 101, 111, 102]))), (16, 1, (.c (.str [115, 116, 97, 116, 105, 99]))), (17, 1, (.c (.str [115, 116, 114, 117, 99, 116]))), (18, 1, (.c (.str [116, 121, 112, 101, 100, 101, 102]))), (19, 1, (.c (.str [117, 110, 105, 111, 110]))), (20, 1, (.c (.str [117, 110, 115, 105, 103, 110, 101, 100]))), (21, 1, (.c (.str [118, 111, 105, 100]))), (22, 1, (.c (.str [119, 104, 105, 108, 101])))], none, 0, 0⟩,
  ⟨(some 0), .move (.t 1), none, 0, 1⟩]
def f39c : ACode :=
  .seq (.region false f39r0 [] 0)
  (.seq (.region false f39r1 [0] 0)
  (.ret))
def f39 : AFn := ⟨0, 2, [.tmp 0], f39c, 1, none⟩
def f39k : List (Nat × List Nat) := [(0, []), (1, [0])]
def f39v : List Nat := [1]

/-! 43: strings.HasPrefix, parameters [9, 9], results [4] -/
def f43r0 : List AOper := [
  ⟨(some 4), .move (.c (.bool false)), none, 0, 0⟩]
def f43r1 : List AOper := [
  ⟨(some 5), .move (.t 0), none, 0, 0⟩,
  ⟨(some 6), .move (.t 1), none, 0, 0⟩,
  ⟨(some 7), .call (.c (.fn 59 [] [])) [(.t 5), (.t 6)], none, 0, 3⟩,
  ⟨(some 4), .move (.t 7), none, 0, 7⟩]
def f43c : ACode :=
  .seq (.region false f43r0 [0, 1] 0)
  (.seq (.region false f43r1 [4] 0)
  (.ret))
def f43 : AFn := ⟨2, 8, [.tmp 4], f43c, 1, none⟩
def f43k : List (Nat × List Nat) := [(0, [0, 1]), (1, [4])]
def f43v : List Nat := []

/-! 44: strings.IndexByte, parameters [9, 5], results [3] -/
def f44r0 : List AOper := [
  ⟨(some 4), .move (.c (.int .i64 0)), none, 0, 0⟩]
def f44r1 : List AOper := [
  ⟨(some 5), .move (.t 0), none, 0, 0⟩,
  ⟨(some 6), .move (.t 1), none, 0, 0⟩,
  ⟨(some 7), .call (.c (.fn 60 [] [])) [(.t 5), (.t 6)], none, 0, 3⟩,
  ⟨(some 4), .move (.t 7), none, 0, 7⟩]
def f44c : ACode :=
  .seq (.region false f44r0 [0, 1] 0)
  (.seq (.region false f44r1 [4] 0)
  (.ret))
def f44 : AFn := ⟨2, 8, [.tmp 4], f44c, 1, none⟩
def f44k : List (Nat × List Nat) := [(0, [0, 1]), (1, [4])]
def f44v : List Nat := []

/-! 45: mortise/token.run, parameters [9, 53], results [3] -/
def f45r0 : List AOper := [
  ⟨(some 4), .move (.c (.int .i64 0)), none, 0, 0⟩]
def f45r1 : List AOper := [
  ⟨(some 5), .move (.c (.int .i64 0)), none, 0, 0⟩]
def f45r2 : List AOper := [
  ⟨(some 6), .move (.t 5), none, 0, 0⟩,
  ⟨(some 7), .move (.t 0), none, 0, 0⟩,
  ⟨(some 8), .len 0 (.t 7), none, 0, 2⟩,
  ⟨(some 9), .bin .lss (.t 6) (.t 8), none, 0, 7⟩,
  ⟨(some 10), .move (.t 9), none, 0, 15⟩,
  ⟨(some 11), .move (.t 1), (some (10, true)), 0, 31⟩,
  ⟨(some 12), .move (.t 0), (some (10, true)), 0, 31⟩,
  ⟨(some 13), .move (.t 5), (some (10, true)), 0, 31⟩,
  ⟨(some 14), .strIndex (.t 12) (.t 13), (some (10, true)), 0, 223⟩,
  ⟨(some 15), .call (.t 11) [(.t 14)], (some (10, true)), 0, 511⟩,
  ⟨(some 16), .pick (.t 10) (.t 15) (.c (.bool false)), none, 0, 1023⟩]
def f45r3 : List AOper := [
  ⟨(some 17), .move (.t 5), none, 0, 0⟩,
  ⟨(some 18), .bin .add (.t 17) (.c (.int .i64 1)), none, 0, 1⟩,
  ⟨(some 5), .move (.t 18), none, 0, 3⟩]
def f45m2 : ACode :=
  .seq (.seq (.region false f45r2 [0, 1, 5, 16] 0)
  (.cond (.t 16)
    (.skip)
    (.exit 0)))
  (.block 1 (.region false f45r3 [0, 1, 5] 0))
def f45l2 : ACode := f45m2
theorem f45l2_b {A : Tab} {nt : Nat} {e : Env} {h : Heap} : Brun A nt f45l2 e h = Brun A nt f45m2 e h := rfl
def f45r4 : List AOper := [
  ⟨(some 19), .move (.t 5), none, 0, 0⟩,
  ⟨(some 4), .move (.t 19), none, 0, 1⟩]
def f45c : ACode :=
  .seq (.region false f45r0 [0, 1] 0)
  (.seq (.region false f45r1 [0, 1, 5] 0)
  (.seq (.block 0 (.loop f45l2))
  (.seq (.region false f45r4 [4] 0)
  (.ret))))
def f45 : AFn := ⟨2, 20, [.tmp 4], f45c, 1, none⟩
def f45k : List (Nat × List Nat) := [(0, [0, 1]), (1, [0, 1, 5]), (2, [0, 1, 5, 16]), (3, [0, 1, 5]), (4, [4])]
def f45v : List Nat := []

/-! 46: mortise/token.tail, parameters [5], results [4] -/
def f46r0 : List AOper := [
  ⟨(some 2), .move (.c (.bool false)), none, 0, 0⟩]
def f46r1 : List AOper := [
  ⟨(some 3), .move (.t 0), none, 0, 0⟩,
  ⟨(some 4), .call (.c (.fn 38 [] [])) [(.t 3)], none, 0, 1⟩,
  ⟨(some 5), .move (.t 4), none, 0, 3⟩,
  ⟨(some 6), .move (.t 0), (some (5, false)), 0, 7⟩,
  ⟨(some 7), .call (.c (.fn 48 [] [])) [(.t 6)], (some (5, false)), 0, 15⟩,
  ⟨(some 8), .pick (.t 5) (.c (.bool true)) (.t 7), none, 0, 31⟩,
  ⟨(some 2), .move (.t 8), none, 0, 63⟩]
def f46c : ACode :=
  .seq (.region false f46r0 [0] 0)
  (.seq (.region false f46r1 [2] 0)
  (.ret))
def f46 : AFn := ⟨1, 9, [.tmp 2], f46c, 1, none⟩
def f46k : List (Nat × List Nat) := [(0, [0]), (1, [2])]
def f46v : List Nat := []

/-! 47: mortise/token.keyword, parameters [9], results [4] -/
def f47r0 : List AOper := [
  ⟨(some 2), .move (.c (.bool false)), none, 0, 0⟩]
def f47r1 : List AOper := [
  ⟨(some 3), .move (.t 0), none, 0, 0⟩]
def f47r2 : List AOper := [
  ⟨(some 5), .bin .eql (.t 3) (.c (.str [95, 66, 111, 111, 108])), none, 0, 0⟩,
  ⟨(some 4), .move (.t 5), none, 0, 1⟩]
def f47r3 : List AOper := [
  ⟨(some 6), .bin .eql (.t 3) (.c (.str [98, 114, 101, 97, 107])), none, 0, 0⟩,
  ⟨(some 4), .move (.t 6), none, 0, 1⟩]
def f47r4 : List AOper := [
  ⟨(some 7), .bin .eql (.t 3) (.c (.str [99, 104, 97, 114])), none, 0, 0⟩,
  ⟨(some 4), .move (.t 7), none, 0, 1⟩]
def f47r5 : List AOper := [
  ⟨(some 8), .bin .eql (.t 3) (.c (.str [99, 111, 110, 116, 105, 110, 117, 101])), none, 0, 0⟩,
  ⟨(some 4), .move (.t 8), none, 0, 1⟩]
def f47r6 : List AOper := [
  ⟨(some 9), .bin .eql (.t 3) (.c (.str [100, 111])), none, 0, 0⟩,
  ⟨(some 4), .move (.t 9), none, 0, 1⟩]
def f47r7 : List AOper := [
  ⟨(some 10), .bin .eql (.t 3) (.c (.str [101, 108, 115, 101])), none, 0, 0⟩,
  ⟨(some 4), .move (.t 10), none, 0, 1⟩]
def f47r8 : List AOper := [
  ⟨(some 11), .bin .eql (.t 3) (.c (.str [101, 110, 117, 109])), none, 0, 0⟩,
  ⟨(some 4), .move (.t 11), none, 0, 1⟩]
def f47r9 : List AOper := [
  ⟨(some 12), .bin .eql (.t 3) (.c (.str [102, 111, 114])), none, 0, 0⟩,
  ⟨(some 4), .move (.t 12), none, 0, 1⟩]
def f47r10 : List AOper := [
  ⟨(some 13), .bin .eql (.t 3) (.c (.str [105, 102])), none, 0, 0⟩,
  ⟨(some 4), .move (.t 13), none, 0, 1⟩]
def f47r11 : List AOper := [
  ⟨(some 14), .bin .eql (.t 3) (.c (.str [105, 110, 116])), none, 0, 0⟩,
  ⟨(some 4), .move (.t 14), none, 0, 1⟩]
def f47r12 : List AOper := [
  ⟨(some 15), .bin .eql (.t 3) (.c (.str [108, 111, 110, 103])), none, 0, 0⟩,
  ⟨(some 4), .move (.t 15), none, 0, 1⟩]
def f47r13 : List AOper := [
  ⟨(some 16), .bin .eql (.t 3) (.c (.str [111, 102, 102, 115, 101, 116, 111, 102])), none, 0, 0⟩,
  ⟨(some 4), .move (.t 16), none, 0, 1⟩]
def f47r14 : List AOper := [
  ⟨(some 17), .bin .eql (.t 3) (.c (.str [114, 101, 116, 117, 114, 110])), none, 0, 0⟩,
  ⟨(some 4), .move (.t 17), none, 0, 1⟩]
def f47r15 : List AOper := [
  ⟨(some 18), .bin .eql (.t 3) (.c (.str [115, 104, 111, 114, 116])), none, 0, 0⟩,
  ⟨(some 4), .move (.t 18), none, 0, 1⟩]
def f47r16 : List AOper := [
  ⟨(some 19), .bin .eql (.t 3) (.c (.str [115, 105, 103, 110, 101, 100])), none, 0, 0⟩,
  ⟨(some 4), .move (.t 19), none, 0, 1⟩]
def f47r17 : List AOper := [
  ⟨(some 20), .bin .eql (.t 3) (.c (.str [115, 105, 122, 101, 111, 102])), none, 0, 0⟩,
  ⟨(some 4), .move (.t 20), none, 0, 1⟩]
def f47r18 : List AOper := [
  ⟨(some 21), .bin .eql (.t 3) (.c (.str [115, 116, 97, 116, 105, 99])), none, 0, 0⟩,
  ⟨(some 4), .move (.t 21), none, 0, 1⟩]
def f47r19 : List AOper := [
  ⟨(some 22), .bin .eql (.t 3) (.c (.str [115, 116, 114, 117, 99, 116])), none, 0, 0⟩,
  ⟨(some 4), .move (.t 22), none, 0, 1⟩]
def f47r20 : List AOper := [
  ⟨(some 23), .bin .eql (.t 3) (.c (.str [116, 121, 112, 101, 100, 101, 102])), none, 0, 0⟩,
  ⟨(some 4), .move (.t 23), none, 0, 1⟩]
def f47r21 : List AOper := [
  ⟨(some 24), .bin .eql (.t 3) (.c (.str [117, 110, 105, 111, 110])), none, 0, 0⟩,
  ⟨(some 4), .move (.t 24), none, 0, 1⟩]
def f47r22 : List AOper := [
  ⟨(some 25), .bin .eql (.t 3) (.c (.str [117, 110, 115, 105, 103, 110, 101, 100])), none, 0, 0⟩,
  ⟨(some 4), .move (.t 25), none, 0, 1⟩]
def f47r23 : List AOper := [
  ⟨(some 26), .bin .eql (.t 3) (.c (.str [118, 111, 105, 100])), none, 0, 0⟩,
  ⟨(some 4), .move (.t 26), none, 0, 1⟩]
def f47r24 : List AOper := [
  ⟨(some 27), .bin .eql (.t 3) (.c (.str [119, 104, 105, 108, 101])), none, 0, 0⟩,
  ⟨(some 4), .move (.t 27), none, 0, 1⟩]
def f47r25 : List AOper := [
  ⟨(some 2), .move (.c (.bool true)), none, 0, 0⟩]
def f47r26 : List AOper := [
  ⟨(some 2), .move (.c (.bool false)), none, 0, 0⟩]
def f47c : ACode :=
  .seq (.region false f47r0 [0] 0)
  (.seq (.seq (.region false f47r1 [3] 0)
  (.block 0 (.seq (.seq (.region false f47r2 [3, 4] 0)
    (.cond (.t 4)
      (.skip)
      (.seq (.region false f47r3 [3, 4] 0)
      (.cond (.t 4)
        (.skip)
        (.seq (.region false f47r4 [3, 4] 0)
        (.cond (.t 4)
          (.skip)
          (.seq (.region false f47r5 [3, 4] 0)
          (.cond (.t 4)
            (.skip)
            (.seq (.region false f47r6 [3, 4] 0)
            (.cond (.t 4)
              (.skip)
              (.seq (.region false f47r7 [3, 4] 0)
              (.cond (.t 4)
                (.skip)
                (.seq (.region false f47r8 [3, 4] 0)
                (.cond (.t 4)
                  (.skip)
                  (.seq (.region false f47r9 [3, 4] 0)
                  (.cond (.t 4)
                    (.skip)
                    (.seq (.region false f47r10 [3, 4] 0)
                    (.cond (.t 4)
                      (.skip)
                      (.seq (.region false f47r11 [3, 4] 0)
                      (.cond (.t 4)
                        (.skip)
                        (.seq (.region false f47r12 [3, 4] 0)
                        (.cond (.t 4)
                          (.skip)
                          (.seq (.region false f47r13 [3, 4] 0)
                          (.cond (.t 4)
                            (.skip)
                            (.seq (.region false f47r14 [3, 4] 0)
                            (.cond (.t 4)
                              (.skip)
                              (.seq (.region false f47r15 [3, 4] 0)
                              (.cond (.t 4)
                                (.skip)
                                (.seq (.region false f47r16 [3, 4] 0)
                                (.cond (.t 4)
                                  (.skip)
                                  (.seq (.region false f47r17 [3, 4] 0)
                                  (.cond (.t 4)
                                    (.skip)
                                    (.seq (.region false f47r18 [3, 4] 0)
                                    (.cond (.t 4)
                                      (.skip)
                                      (.seq (.region false f47r19 [3, 4] 0)
                                      (.cond (.t 4)
                                        (.skip)
                                        (.seq (.region false f47r20 [3, 4] 0)
                                        (.cond (.t 4)
                                          (.skip)
                                          (.seq (.region false f47r21 [3, 4] 0)
                                          (.cond (.t 4)
                                            (.skip)
                                            (.seq (.region false f47r22 [3, 4] 0)
                                            (.cond (.t 4)
                                              (.skip)
                                              (.seq (.region false f47r23 [3, 4] 0)
                                              (.cond (.t 4)
                                                (.skip)
                                                (.region false f47r24 [4] 0)))))))))))))))))))))))))))))))))))))))))))))
    (.cond (.t 4)
      (.seq (.region false f47r25 [2] 0)
      (.ret))
      (.skip)))))
  (.seq (.region false f47r26 [2] 0)
  (.ret)))
def f47 : AFn := ⟨1, 28, [.tmp 2], f47c, 1, none⟩
def f47k : List (Nat × List Nat) := [(0, [0]), (1, [3]), (2, [3, 4]), (3, [3, 4]), (4, [3, 4]), (5, [3, 4]), (6, [3, 4]), (7, [3, 4]), (8, [3, 4]), (9, [3, 4]), (10, [3, 4]), (11, [3, 4]), (12, [3, 4]), (13, [3, 4]), (14, [3, 4]), (15, [3, 4]), (16, [3, 4]), (17, [3, 4]), (18, [3, 4]), (19, [3, 4]), (20, [3, 4]), (21, [3, 4]), (22, [3, 4]), (23, [3, 4]), (24, [4]), (25, [2]), (26, [2])]
def f47v : List Nat := []

/-! 48: mortise/token.digit, parameters [5], results [4] -/
def f48r0 : List AOper := [
  ⟨(some 2), .move (.c (.bool false)), none, 0, 0⟩]
def f48r1 : List AOper := [
  ⟨(some 3), .move (.t 0), none, 0, 0⟩,
  ⟨(some 4), .bin .geq (.t 3) (.c (.int .u8 48)), none, 0, 1⟩,
  ⟨(some 5), .move (.t 4), none, 0, 3⟩,
  ⟨(some 6), .move (.t 0), (some (5, true)), 0, 7⟩,
  ⟨(some 7), .bin .leq (.t 6) (.c (.int .u8 57)), (some (5, true)), 0, 15⟩,
  ⟨(some 8), .pick (.t 5) (.t 7) (.c (.bool false)), none, 0, 31⟩,
  ⟨(some 2), .move (.t 8), none, 0, 63⟩]
def f48c : ACode :=
  .seq (.region false f48r0 [0] 0)
  (.seq (.region false f48r1 [2] 0)
  (.ret))
def f48 : AFn := ⟨1, 9, [.tmp 2], f48c, 1, none⟩
def f48k : List (Nat × List Nat) := [(0, [0]), (1, [2])]
def f48v : List Nat := []

/-! 49: mortise/token.number, parameters [9], results [40, 4] -/
def f49r0 : List AOper := [
  ⟨(some 2), .alloc false [(.int .i64 0), (.str []), (.int .i64 0), (.int .i64 0), (.int .i64 0), (.int .i64 0)], none, 0, 0⟩,
  ⟨(some 3), .move (.c (.bool false)), none, 1, 0⟩]
def f49r1 : List AOper := [
  ⟨(some 14), .move (.t 0), none, 0, 0⟩,
  ⟨(some 15), .call (.c (.fn 61 [] [])) [(.t 14), (.c (.str [117, 85, 108, 76]))], none, 0, 1⟩,
  ⟨(some 4), .move (.t 15), none, 0, 3⟩]
def f49r2 : List AOper := [
  ⟨(some 16), .move (.t 0), none, 0, 0⟩,
  ⟨(some 17), .len 0 (.t 16), none, 0, 1⟩,
  ⟨(some 18), .bin .gtr (.t 17) (.c (.int .i64 2)), none, 0, 3⟩,
  ⟨(some 19), .move (.t 18), none, 0, 7⟩,
  ⟨(some 20), .move (.t 0), (some (19, true)), 0, 15⟩,
  ⟨(some 21), .strIndex (.t 20) (.c (.int .i64 0)), (some (19, true)), 0, 31⟩,
  ⟨(some 22), .bin .eql (.t 21) (.c (.int .u8 48)), (some (19, true)), 0, 63⟩,
  ⟨(some 23), .pick (.t 19) (.t 22) (.c (.bool false)), none, 0, 127⟩,
  ⟨(some 24), .move (.t 23), none, 0, 255⟩,
  ⟨(some 25), .move (.t 0), (some (24, true)), 0, 511⟩,
  ⟨(some 26), .strIndex (.t 25) (.c (.int .i64 1)), (some (24, true)), 0, 1023⟩,
  ⟨(some 27), .bin .or (.t 26) (.c (.int .u8 32)), (some (24, true)), 0, 2047⟩,
  ⟨(some 28), .bin .eql (.t 27) (.c (.int .u8 120)), (some (24, true)), 0, 4095⟩,
  ⟨(some 29), .pick (.t 24) (.t 28) (.c (.bool false)), none, 0, 8191⟩]
def f49r3 : List AOper := [
  ⟨(some 30), .move (.t 0), none, 0, 0⟩,
  ⟨(some 31), .move (.t 0), none, 0, 0⟩,
  ⟨(some 32), .strSlice (.t 31) (some (.c (.int .i64 2))) none, none, 0, 2⟩,
  ⟨(some 33), .call (.c (.fn 45 [] [])) [(.t 32), (.c (.fn 62 [] []))], none, 0, 6⟩,
  ⟨(some 34), .bin .add (.c (.int .i64 2)) (.t 33), none, 0, 14⟩,
  ⟨(some 35), .strSlice (.t 30) none (some (.t 34)), none, 0, 31⟩,
  ⟨(some 4), .move (.t 35), none, 0, 63⟩]
def f49r4 : List AOper := [
  ⟨(some 5), .alloc false [(.bool false)], none, 0, 0⟩,
  ⟨(some 6), .alloc false [(.bool false)], none, 1, 0⟩,
  ⟨none, .store 1 (.t 5) (.c (.bool false)), none, 2, 3⟩,
  ⟨none, .store 1 (.t 6) (.c (.bool false)), none, 2, 7⟩]
def f49r5 : List AOper := [
  ⟨(some 36), .move (.t 0), none, 0, 0⟩,
  ⟨(some 37), .move (.t 4), none, 0, 0⟩,
  ⟨(some 38), .len 0 (.t 37), none, 0, 2⟩,
  ⟨(some 39), .strSlice (.t 36) (some (.t 38)) none, none, 0, 7⟩,
  ⟨(some 40), .toBytes true (.t 39), none, 0, 15⟩,
  ⟨(some 41), .len 1 (.t 40), none, 1, 31⟩,
  ⟨(some 42), .move (.c (.int .i64 0)), none, 1, 0⟩]
def f49r6 : List AOper := [
  ⟨(some 43), .bin .lss (.t 42) (.t 41), none, 0, 0⟩]
def f49r7 : List AOper := [
  ⟨(some 44), .idxAddr 1 (.t 40) (.t 42), none, 0, 0⟩,
  ⟨(some 45), .load false 1 (.t 44), none, 0, 1⟩,
  ⟨(some 8), .move (.t 45), none, 0, 3⟩]
def f49r8 : List AOper := [
  ⟨(some 9), .move (.t 5), none, 0, 0⟩]
def f49r9 : List AOper := [
  ⟨(some 46), .move (.t 8), none, 0, 0⟩,
  ⟨(some 47), .bin .or (.t 46) (.c (.int .u8 32)), none, 0, 1⟩,
  ⟨(some 48), .bin .eql (.t 47) (.c (.int .u8 108)), none, 0, 3⟩]
def f49r10 : List AOper := [
  ⟨(some 9), .move (.t 6), none, 0, 0⟩]
def f49r11 : List AOper := [
  ⟨(some 49), .move (.t 8), none, 0, 0⟩,
  ⟨(some 50), .bin .or (.t 49) (.c (.int .u8 32)), none, 0, 1⟩,
  ⟨(some 51), .bin .neq (.t 50) (.c (.int .u8 117)), none, 0, 3⟩]
def f49r12 : List AOper := [
  ⟨(some 52), .build [(.int .i64 0), (.str []), (.int .i64 0), (.int .i64 0), (.int .i64 0), (.int .i64 0)] [], none, 0, 0⟩,
  ⟨none, .store 6 (.t 2) (.t 52), none, 0, 1⟩,
  ⟨(some 3), .move (.c (.bool false)), none, 0, 3⟩]
def f49r13 : List AOper := [
  ⟨(some 53), .move (.t 9), none, 0, 0⟩,
  ⟨(some 54), .nilCheck (.t 53), none, 0, 1⟩,
  ⟨(some 55), .load false 1 (.t 54), none, 0, 3⟩]
def f49r14 : List AOper := [
  ⟨(some 56), .build [(.int .i64 0), (.str []), (.int .i64 0), (.int .i64 0), (.int .i64 0), (.int .i64 0)] [], none, 0, 0⟩,
  ⟨none, .store 6 (.t 2) (.t 56), none, 0, 1⟩,
  ⟨(some 3), .move (.c (.bool false)), none, 0, 3⟩]
def f49r15 : List AOper := [
  ⟨(some 57), .move (.t 9), none, 0, 0⟩,
  ⟨(some 58), .nilCheck (.t 57), none, 0, 1⟩,
  ⟨none, .store 1 (.t 58) (.c (.bool true)), none, 0, 3⟩]
def f49r16 : List AOper := [
  ⟨(some 59), .bin .add (.t 42) (.c (.int .i64 1)), none, 0, 0⟩,
  ⟨(some 42), .move (.t 59), none, 0, 1⟩]
def f49m6 : ACode :=
  .seq (.region false f49r6 [2, 4, 5, 6, 40, 41, 42, 43] 0)
  (.seq (.cond (.t 43)
    (.skip)
    (.exit 0))
  (.seq (.block 1 (.seq (.region false f49r7 [2, 4, 5, 6, 8, 40, 41, 42] 0)
    (.seq (.region false f49r8 [2, 4, 5, 6, 8, 9, 40, 41, 42] 0)
    (.seq (.seq (.region false f49r9 [2, 4, 5, 6, 8, 9, 40, 41, 42, 48] 0)
    (.cond (.t 48)
      (.region false f49r10 [2, 4, 5, 6, 9, 40, 41, 42] 0)
      (.seq (.region false f49r11 [2, 4, 5, 6, 9, 40, 41, 42, 51] 0)
      (.cond (.t 51)
        (.seq (.region false f49r12 [2, 3] 0)
        (.ret))
        (.skip)))))
    (.seq (.seq (.region false f49r13 [2, 4, 5, 6, 9, 40, 41, 42, 55] 0)
    (.cond (.t 55)
      (.seq (.region false f49r14 [2, 3] 0)
      (.ret))
      (.skip)))
    (.region false f49r15 [2, 4, 5, 6, 40, 41, 42] 0))))))
  (.region false f49r16 [2, 4, 5, 6, 40, 41, 42] 0)))
def f49l6 : ACode := f49m6
theorem f49l6_b {A : Tab} {nt : Nat} {e : Env} {h : Heap} : Brun A nt f49l6 e h = Brun A nt f49m6 e h := rfl
def f49r17 : List AOper := [
  ⟨(some 61), .move (.t 4), none, 0, 0⟩,
  ⟨(some 62), .call (.c (.fn 64 [] [])) [(.t 61)], none, 0, 1⟩,
  ⟨(some 60), .move (.t 62), none, 0, 3⟩,
  ⟨(some 63), .extract (.t 60) 0, none, 0, 7⟩,
  ⟨(some 64), .extract (.t 60) 1, none, 0, 7⟩,
  ⟨(some 65), .extract (.t 60) 2, none, 0, 7⟩,
  ⟨(some 10), .move (.t 63), none, 0, 15⟩,
  ⟨(some 11), .move (.t 64), none, 0, 95⟩,
  ⟨(some 12), .move (.t 65), none, 0, 255⟩]
def f49r18 : List AOper := [
  ⟨(some 66), .move (.t 12), none, 0, 0⟩,
  ⟨(some 67), .un .not (.t 66), none, 0, 1⟩,
  ⟨(some 68), .move (.t 67), none, 0, 3⟩,
  ⟨(some 69), .move (.t 10), (some (68, false)), 0, 7⟩,
  ⟨(some 70), .bin .gtr (.t 69) (.c (.int .i64 4294967295)), (some (68, false)), 0, 15⟩,
  ⟨(some 71), .pick (.t 68) (.c (.bool true)) (.t 70), none, 0, 31⟩]
def f49r19 : List AOper := [
  ⟨(some 72), .build [(.int .i64 0), (.str []), (.int .i64 0), (.int .i64 0), (.int .i64 0), (.int .i64 0)] [], none, 0, 0⟩,
  ⟨none, .store 6 (.t 2) (.t 72), none, 0, 1⟩,
  ⟨(some 3), .move (.c (.bool false)), none, 0, 3⟩]
def f49r20 : List AOper := [
  ⟨(some 74), .load false 1 (.t 5), none, 0, 0⟩,
  ⟨(some 75), .un .not (.t 74), none, 0, 1⟩,
  ⟨(some 76), .move (.t 75), none, 0, 3⟩,
  ⟨(some 77), .move (.t 10), (some (76, true)), 0, 7⟩,
  ⟨(some 78), .bin .gtr (.t 77) (.c (.int .i64 2147483647)), (some (76, true)), 0, 15⟩,
  ⟨(some 79), .pick (.t 76) (.t 78) (.c (.bool false)), none, 0, 31⟩,
  ⟨(some 80), .move (.t 79), none, 0, 63⟩,
  ⟨(some 81), .move (.t 11), (some (80, true)), 0, 127⟩,
  ⟨(some 82), .pick (.t 80) (.t 81) (.c (.bool false)), none, 0, 255⟩,
  ⟨(some 73), .move (.t 82), none, 0, 511⟩]
def f49r21 : List AOper := [
  ⟨(some 83), .build [(.int .i64 0), (.str []), (.int .i64 0), (.int .i64 0), (.int .i64 0), (.int .i64 0)] [], none, 0, 0⟩,
  ⟨none, .store 6 (.t 2) (.t 83), none, 0, 1⟩,
  ⟨(some 3), .move (.c (.bool false)), none, 0, 3⟩]
def f49r22 : List AOper := [
  ⟨(some 85), .move (.t 10), none, 0, 0⟩,
  ⟨(some 86), .bin .gtr (.t 85) (.c (.int .i64 2147483647)), none, 0, 1⟩,
  ⟨(some 84), .move (.t 86), none, 0, 3⟩]
def f49r23 : List AOper := [
  ⟨none, .store 1 (.t 5) (.c (.bool true)), none, 0, 0⟩]
def f49r24 : List AOper := [
  ⟨(some 13), .move (.c (.str [105, 110, 116])), none, 0, 0⟩]
def f49r25 : List AOper := [
  ⟨(some 87), .load false 1 (.t 6), none, 0, 0⟩]
def f49r26 : List AOper := [
  ⟨(some 13), .move (.c (.str [108, 111, 110, 103])), none, 0, 0⟩]
def f49r27 : List AOper := [
  ⟨(some 88), .load false 1 (.t 5), none, 0, 0⟩]
def f49r28 : List AOper := [
  ⟨(some 89), .move (.t 13), none, 0, 0⟩,
  ⟨(some 90), .bin .add (.c (.str [117, 110, 115, 105, 103, 110, 101, 100, 32])) (.t 89), none, 0, 1⟩,
  ⟨(some 13), .move (.t 90), none, 0, 3⟩]
def f49r29 : List AOper := [
  ⟨(some 91), .move (.t 13), none, 0, 0⟩,
  ⟨(some 92), .move (.t 10), none, 0, 0⟩,
  ⟨(some 93), .build [(.int .i64 0), (.str []), (.int .i64 0), (.int .i64 0), (.int .i64 0), (.int .i64 0)] [(0, 1, (.c (.int .i64 3))), (1, 1, (.t 91)), (2, 1, (.t 92))], none, 0, 3⟩,
  ⟨none, .store 6 (.t 2) (.t 93), none, 0, 7⟩,
  ⟨(some 3), .move (.c (.bool true)), none, 0, 15⟩]
def f49c : ACode :=
  .seq (.region false f49r0 [0, 2] 1)
  (.seq (.region false f49r1 [0, 2, 4] 0)
  (.seq (.seq (.region false f49r2 [0, 2, 4, 29] 0)
  (.cond (.t 29)
    (.region false f49r3 [0, 2, 4] 0)
    (.skip)))
  (.seq (.region false f49r4 [0, 2, 4, 5, 6] 2)
  (.seq (.seq (.region false f49r5 [2, 4, 5, 6, 40, 41, 42] 1)
  (.block 0 (.loop f49l6)))
  (.seq (.region false f49r17 [2, 5, 6, 10, 11, 12] 0)
  (.seq (.seq (.region false f49r18 [2, 5, 6, 10, 11, 71] 0)
  (.cond (.t 71)
    (.seq (.region false f49r19 [2, 3] 0)
    (.ret))
    (.skip)))
  (.seq (.block 2 (.seq (.region false f49r20 [2, 5, 6, 10, 73] 0)
    (.cond (.t 73)
      (.seq (.region false f49r21 [2, 3] 0)
      (.ret))
      (.seq (.region false f49r22 [2, 5, 6, 10, 84] 0)
      (.cond (.t 84)
        (.region false f49r23 [2, 5, 6, 10] 0)
        (.skip))))))
  (.seq (.region false f49r24 [2, 5, 6, 10, 13] 0)
  (.seq (.seq (.region false f49r25 [2, 5, 10, 13, 87] 0)
  (.cond (.t 87)
    (.region false f49r26 [2, 5, 10, 13] 0)
    (.skip)))
  (.seq (.seq (.region false f49r27 [2, 10, 13, 88] 0)
  (.cond (.t 88)
    (.region false f49r28 [2, 10, 13] 0)
    (.skip)))
  (.seq (.region false f49r29 [2, 3] 0)
  (.ret))))))))))))
def f49 : AFn := ⟨1, 94, [.cell 2 true 6, .tmp 3], f49c, 1, none⟩
def f49k : List (Nat × List Nat) := [(0, [0, 2]), (1, [0, 2, 4]), (2, [0, 2, 4, 29]), (3, [0, 2, 4]), (4, [0, 2, 4, 5, 6]), (5, [2, 4, 5, 6, 40, 41, 42]), (6, [2, 4, 5, 6, 40, 41, 42, 43]), (7, [2, 4, 5, 6, 8, 40, 41, 42]), (8, [2, 4, 5, 6, 8, 9, 40, 41, 42]), (9, [2, 4, 5, 6, 8, 9, 40, 41, 42, 48]), (11, [2, 4, 5, 6, 9, 40, 41, 42, 51]), (12, [2, 3]), (10, [2, 4, 5, 6, 9, 40, 41, 42]), (13, [2, 4, 5, 6, 9, 40, 41, 42, 55]), (14, [2, 3]), (15, [2, 4, 5, 6, 40, 41, 42]), (16, [2, 4, 5, 6, 40, 41, 42]), (17, [2, 5, 6, 10, 11, 12]), (18, [2, 5, 6, 10, 11, 71]), (19, [2, 3]), (20, [2, 5, 6, 10, 73]), (22, [2, 5, 6, 10, 84]), (23, [2, 5, 6, 10]), (21, [2, 3]), (24, [2, 5, 6, 10, 13]), (25, [2, 5, 10, 13, 87]), (26, [2, 5, 10, 13]), (27, [2, 10, 13, 88]), (28, [2, 10, 13]), (29, [2, 3])]
def f49v : List Nat := [40]

/-! 50: mortise/token.quoted, parameters [9, 5], results [43, 3, 4] -/
def f50r0 : List AOper := [
  ⟨(some 4), .move (.c (.is [] .nil)), none, 0, 0⟩,
  ⟨(some 5), .move (.c (.int .i64 0)), none, 0, 1⟩,
  ⟨(some 6), .move (.c (.bool false)), none, 0, 3⟩]
def f50r1 : List AOper := [
  ⟨(some 7), .move (.c (.is [] .nil)), none, 0, 0⟩]
def f50r2 : List AOper := [
  ⟨(some 8), .move (.c (.int .i64 0)), none, 0, 0⟩]
def f50r3 : List AOper := [
  ⟨(some 13), .move (.t 8), none, 0, 0⟩,
  ⟨(some 14), .move (.t 0), none, 0, 0⟩,
  ⟨(some 15), .len 0 (.t 14), none, 0, 2⟩,
  ⟨(some 16), .bin .lss (.t 13) (.t 15), none, 0, 7⟩]
def f50r4 : List AOper := [
  ⟨(some 19), .move (.t 0), none, 0, 0⟩,
  ⟨(some 20), .move (.t 8), none, 0, 0⟩,
  ⟨(some 21), .strIndex (.t 19) (.t 20), none, 0, 3⟩,
  ⟨(some 9), .move (.t 21), none, 0, 7⟩]
def f50r5 : List AOper := [
  ⟨(some 22), .move (.t 9), none, 0, 0⟩]
def f50r6 : List AOper := [
  ⟨(some 28), .move (.t 1), none, 0, 0⟩,
  ⟨(some 29), .bin .eql (.t 22) (.t 28), none, 0, 1⟩,
  ⟨(some 27), .move (.t 29), none, 0, 3⟩]
def f50r7 : List AOper := [
  ⟨(some 30), .move (.t 7), none, 0, 0⟩,
  ⟨(some 31), .move (.t 8), none, 0, 0⟩,
  ⟨(some 32), .bin .add (.t 31) (.c (.int .i64 1)), none, 0, 2⟩,
  ⟨(some 4), .move (.t 30), none, 0, 1⟩,
  ⟨(some 5), .move (.t 32), none, 0, 15⟩,
  ⟨(some 6), .move (.c (.bool true)), none, 0, 31⟩]
def f50r8 : List AOper := [
  ⟨(some 34), .bin .eql (.t 22) (.c (.int .u8 10)), none, 0, 0⟩,
  ⟨(some 33), .move (.t 34), none, 0, 1⟩]
def f50r9 : List AOper := [
  ⟨(some 4), .move (.c (.is [] .nil)), none, 0, 0⟩,
  ⟨(some 5), .move (.c (.int .i64 0)), none, 0, 1⟩,
  ⟨(some 6), .move (.c (.bool false)), none, 0, 3⟩]
def f50r10 : List AOper := [
  ⟨(some 36), .bin .eql (.t 22) (.c (.int .u8 92)), none, 0, 0⟩,
  ⟨(some 35), .move (.t 36), none, 0, 1⟩]
def f50r11 : List AOper := [
  ⟨(some 38), .move (.t 0), none, 0, 0⟩,
  ⟨(some 39), .move (.t 8), none, 0, 0⟩,
  ⟨(some 40), .bin .add (.t 39) (.c (.int .i64 1)), none, 0, 2⟩,
  ⟨(some 41), .strSlice (.t 38) (some (.t 40)) none, none, 0, 7⟩,
  ⟨(some 42), .call (.c (.fn 65 [] [])) [(.t 41)], none, 0, 15⟩,
  ⟨(some 37), .move (.t 42), none, 0, 31⟩,
  ⟨(some 43), .extract (.t 37) 0, none, 0, 63⟩,
  ⟨(some 44), .extract (.t 37) 1, none, 0, 63⟩,
  ⟨(some 45), .extract (.t 37) 2, none, 0, 63⟩,
  ⟨(some 10), .move (.t 43), none, 0, 127⟩,
  ⟨(some 11), .move (.t 44), none, 0, 767⟩,
  ⟨(some 12), .move (.t 45), none, 0, 2047⟩]
def f50r12 : List AOper := [
  ⟨(some 46), .move (.t 12), none, 0, 0⟩,
  ⟨(some 47), .un .not (.t 46), none, 0, 1⟩]
def f50r13 : List AOper := [
  ⟨(some 4), .move (.c (.is [] .nil)), none, 0, 0⟩,
  ⟨(some 5), .move (.c (.int .i64 0)), none, 0, 1⟩,
  ⟨(some 6), .move (.c (.bool false)), none, 0, 3⟩]
def f50r14 : List AOper := [
  ⟨(some 48), .move (.t 7), none, 0, 0⟩,
  ⟨(some 49), .move (.t 10), none, 0, 0⟩,
  ⟨(some 50), .buildSlice true 1 1 [(.int .u8 0)] [(0, 1, (.t 49))], none, 0, 2⟩,
  ⟨(some 51), .append true 1 1 (.t 48) (.t 50), none, 0, 7⟩,
  ⟨(some 7), .move (.t 51), none, 1, 15⟩]
def f50r15 : List AOper := [
  ⟨(some 52), .move (.t 8), none, 0, 0⟩,
  ⟨(some 53), .move (.t 11), none, 0, 0⟩,
  ⟨(some 54), .bin .add (.t 52) (.t 53), none, 0, 3⟩,
  ⟨(some 8), .move (.t 54), none, 0, 7⟩]
def f50r16 : List AOper := [
  ⟨(some 23), .move (.t 7), none, 0, 0⟩,
  ⟨(some 24), .move (.t 9), none, 0, 0⟩,
  ⟨(some 25), .buildSlice true 1 1 [(.int .u8 0)] [(0, 1, (.t 24))], none, 0, 2⟩,
  ⟨(some 26), .append true 1 1 (.t 23) (.t 25), none, 0, 7⟩,
  ⟨(some 7), .move (.t 26), none, 1, 15⟩]
def f50r17 : List AOper := [
  ⟨(some 17), .move (.t 8), none, 0, 0⟩,
  ⟨(some 18), .bin .add (.t 17) (.c (.int .i64 1)), none, 0, 1⟩,
  ⟨(some 8), .move (.t 18), none, 0, 3⟩]
def f50m3 : ACode :=
  .seq (.seq (.region false f50r3 [0, 1, 7, 8, 16] 0)
  (.cond (.t 16)
    (.skip)
    (.exit 0)))
  (.seq (.block 1 (.seq (.region false f50r4 [0, 1, 7, 8, 9] 0)
    (.seq (.region false f50r5 [0, 1, 7, 8, 9, 22] 0)
    (.block 2 (.seq (.region false f50r6 [0, 1, 7, 8, 9, 22, 27] 0)
      (.cond (.t 27)
        (.seq (.region false f50r7 [4, 5, 6] 0)
        (.ret))
        (.seq (.region false f50r8 [0, 1, 7, 8, 9, 22, 33] 0)
        (.cond (.t 33)
          (.seq (.region false f50r9 [4, 5, 6] 0)
          (.ret))
          (.seq (.region false f50r10 [0, 1, 7, 8, 9, 35] 0)
          (.cond (.t 35)
            (.seq (.region false f50r11 [0, 1, 7, 8, 10, 11, 12] 0)
            (.seq (.seq (.region false f50r12 [0, 1, 7, 8, 10, 11, 47] 0)
            (.cond (.t 47)
              (.seq (.region false f50r13 [4, 5, 6] 0)
              (.ret))
              (.skip)))
            (.seq (.region false f50r14 [0, 1, 7, 8, 11] 1)
            (.region false f50r15 [0, 1, 7, 8] 0))))
            (.region false f50r16 [0, 1, 7, 8] 1)))))))))))
  (.region false f50r17 [0, 1, 7, 8] 0))
def f50l3 : ACode := f50m3
theorem f50l3_b {A : Tab} {nt : Nat} {e : Env} {h : Heap} : Brun A nt f50l3 e h = Brun A nt f50m3 e h := rfl
def f50r18 : List AOper := [
  ⟨(some 4), .move (.c (.is [] .nil)), none, 0, 0⟩,
  ⟨(some 5), .move (.c (.int .i64 0)), none, 0, 1⟩,
  ⟨(some 6), .move (.c (.bool false)), none, 0, 3⟩]
def f50c : ACode :=
  .seq (.region false f50r0 [0, 1] 0)
  (.seq (.region false f50r1 [0, 1, 7] 0)
  (.seq (.seq (.region false f50r2 [0, 1, 7, 8] 0)
  (.block 0 (.loop f50l3)))
  (.seq (.region false f50r18 [4, 5, 6] 0)
  (.ret))))
def f50 : AFn := ⟨2, 55, [.tmp 4, .tmp 5, .tmp 6], f50c, 1, none⟩
def f50k : List (Nat × List Nat) := [(0, [0, 1]), (1, [0, 1, 7]), (2, [0, 1, 7, 8]), (3, [0, 1, 7, 8, 16]), (5, [0, 1, 7, 8, 9]), (6, [0, 1, 7, 8, 9, 22]), (8, [0, 1, 7, 8, 9, 22, 27]), (10, [0, 1, 7, 8, 9, 22, 33]), (12, [0, 1, 7, 8, 9, 35]), (7, [0, 1, 7, 8]), (13, [0, 1, 7, 8, 10, 11, 12]), (14, [0, 1, 7, 8, 10, 11, 47]), (15, [4, 5, 6]), (16, [0, 1, 7, 8, 11]), (17, [0, 1, 7, 8]), (11, [4, 5, 6]), (9, [4, 5, 6]), (4, [0, 1, 7, 8]), (18, [4, 5, 6])]
def f50v : List Nat := [26, 25, 51, 50]

/-! 51: mortise/token.sign, parameters [9], results [9] -/
def f51r0 : List AOper := [
  ⟨(some 2), .move (.c (.str [])), none, 0, 0⟩]
def f51r1 : List AOper := [
  ⟨(some 6), .build (List.replicate 21 (.str [])) [(0, 1, (.c (.str [60, 60, 61]))), (1, 1, (.c (.str [62, 62, 61]))), (2, 1, (.c (.str [45, 62]))), (3, 1, (.c (.str [43, 43]))), (4, 1, (.c (.str [45, 45]))), (5, 1, (.c (.str [60, 60]))), (6, 1, (.c (.str [62, 62]))), (7, 1, (.c (.str [60, 61]))), (8, 1, (.c (.str [62, 61]))), (9, 1, (.c (.str [61, 61]))), (10, 1, (.c (.str [33, 61]))), (11, 1, (.c (.str [38, 38]))), (12, 1, (.c (.str [124, 124]))), (13, 1, (.c (.str [42, 61]))), (14, 1, (.c (.str [47, 61]))), (15, 1, (.c (.str [37, 61]))), (16, 1, (.c (.str [43, 61]))), (17, 1, (.c (.str [45, 61]))), (18, 1, (.c (.str [38, 61]))), (19, 1, (.c (.str [94, 61]))), (20, 1, (.c (.str [124, 61])))], none, 0, 0⟩,
  ⟨(some 3), .alloc false (List.replicate 21 (.str [])), none, 0, 0⟩,
  ⟨none, .store 21 (.t 3) (.t 6), none, 1, 3⟩]
def f51r2 : List AOper := [
  ⟨(some 7), .load true 21 (.t 3), none, 0, 0⟩,
  ⟨(some 8), .move (.c (.int .i64 0)), none, 0, 0⟩]
def f51r3 : List AOper := [
  ⟨(some 9), .bin .lss (.t 8) (.c (.int .i64 21)), none, 0, 0⟩]
def f51r4 : List AOper := [
  ⟨(some 10), .index false 21 1 (.t 7) (.t 8), none, 0, 0⟩,
  ⟨(some 5), .move (.t 10), none, 0, 1⟩]
def f51r5 : List AOper := [
  ⟨(some 11), .move (.t 0), none, 0, 0⟩,
  ⟨(some 12), .move (.t 5), none, 0, 0⟩,
  ⟨(some 13), .call (.c (.fn 43 [] [])) [(.t 11), (.t 12)], none, 0, 3⟩]
def f51r6 : List AOper := [
  ⟨(some 14), .move (.t 5), none, 0, 0⟩,
  ⟨(some 2), .move (.t 14), none, 0, 1⟩]
def f51r7 : List AOper := [
  ⟨(some 15), .bin .add (.t 8) (.c (.int .i64 1)), none, 0, 0⟩,
  ⟨(some 8), .move (.t 15), none, 0, 1⟩]
def f51m3 : ACode :=
  .seq (.region false f51r3 [0, 7, 8, 9] 0)
  (.seq (.cond (.t 9)
    (.skip)
    (.exit 0))
  (.seq (.block 1 (.seq (.region false f51r4 [0, 5, 7, 8] 0)
    (.seq (.region false f51r5 [0, 5, 7, 8, 13] 0)
    (.cond (.t 13)
      (.seq (.region false f51r6 [2] 0)
      (.ret))
      (.skip)))))
  (.region false f51r7 [0, 7, 8] 0)))
def f51l3 : ACode := f51m3
theorem f51l3_b {A : Tab} {nt : Nat} {e : Env} {h : Heap} : Brun A nt f51l3 e h = Brun A nt f51m3 e h := rfl
def f51r8 : List AOper := [
  ⟨(some 16), .move (.t 0), none, 0, 0⟩,
  ⟨(some 17), .strIndex (.t 16) (.c (.int .i64 0)), none, 0, 1⟩,
  ⟨(some 18), .call (.c (.fn 44 [] [])) [(.c (.str [91, 93, 40, 41, 123, 125, 46, 38, 42, 43, 45, 126, 33, 47, 37, 60, 62, 94, 124, 63, 58, 59, 61, 44])), (.t 17)], none, 0, 3⟩,
  ⟨(some 19), .bin .geq (.t 18) (.c (.int .i64 0)), none, 0, 7⟩]
def f51r9 : List AOper := [
  ⟨(some 20), .move (.t 0), none, 0, 0⟩,
  ⟨(some 21), .strSlice (.t 20) none (some (.c (.int .i64 1))), none, 0, 1⟩,
  ⟨(some 2), .move (.t 21), none, 0, 3⟩]
def f51r10 : List AOper := [
  ⟨(some 2), .move (.c (.str [])), none, 0, 0⟩]
def f51c : ACode :=
  .seq (.region false f51r0 [0] 0)
  (.seq (.region false f51r1 [0, 3] 1)
  (.seq (.seq (.region false f51r2 [0, 7, 8] 0)
  (.block 0 (.loop f51l3)))
  (.seq (.seq (.region false f51r8 [0, 19] 0)
  (.cond (.t 19)
    (.seq (.region false f51r9 [2] 0)
    (.ret))
    (.skip)))
  (.seq (.region false f51r10 [2] 0)
  (.ret)))))
def f51 : AFn := ⟨1, 22, [.tmp 2], f51c, 1, none⟩
def f51k : List (Nat × List Nat) := [(0, [0]), (1, [0, 3]), (2, [0, 7, 8]), (3, [0, 7, 8, 9]), (4, [0, 5, 7, 8]), (5, [0, 5, 7, 8, 13]), (6, [2]), (7, [0, 7, 8]), (8, [0, 19]), (9, [2]), (10, [2])]
def f51v : List Nat := []

/-! 52: mortise/token.may32, parameters [40], results [4] -/
def f52r0 : List AOper := [
  ⟨(some 1), .box true (.t 0), none, 0, 0⟩,
  ⟨(some 2), .move (.c (.bool false)), none, 0, 0⟩]
def f52r1 : List AOper := [
  ⟨(some 3), .fieldAddr 1 (.t 1), none, 0, 0⟩,
  ⟨(some 4), .load false 1 (.t 3), none, 0, 1⟩]
def f52r2 : List AOper := [
  ⟨(some 6), .bin .eql (.t 4) (.c (.str [105, 110, 116])), none, 0, 0⟩,
  ⟨(some 5), .move (.t 6), none, 0, 1⟩]
def f52r3 : List AOper := [
  ⟨(some 7), .bin .eql (.t 4) (.c (.str [108, 111, 110, 103])), none, 0, 0⟩,
  ⟨(some 5), .move (.t 7), none, 0, 1⟩]
def f52r4 : List AOper := [
  ⟨(some 8), .fieldAddr 2 (.t 1), none, 0, 0⟩,
  ⟨(some 9), .load false 1 (.t 8), none, 0, 1⟩,
  ⟨(some 10), .bin .geq (.t 9) (.c (.int .i64 0)), none, 0, 3⟩,
  ⟨(some 11), .move (.t 10), none, 0, 7⟩,
  ⟨(some 12), .fieldAddr 2 (.t 1), (some (11, true)), 0, 15⟩,
  ⟨(some 13), .load false 1 (.t 12), (some (11, true)), 0, 31⟩,
  ⟨(some 14), .bin .leq (.t 13) (.c (.int .i64 2147483647)), (some (11, true)), 0, 63⟩,
  ⟨(some 15), .pick (.t 11) (.t 14) (.c (.bool false)), none, 0, 127⟩,
  ⟨(some 2), .move (.t 15), none, 0, 255⟩]
def f52r5 : List AOper := [
  ⟨(some 17), .bin .eql (.t 4) (.c (.str [117, 110, 115, 105, 103, 110, 101, 100, 32, 105, 110, 116])), none, 0, 0⟩,
  ⟨(some 16), .move (.t 17), none, 0, 1⟩]
def f52r6 : List AOper := [
  ⟨(some 18), .bin .eql (.t 4) (.c (.str [117, 110, 115, 105, 103, 110, 101, 100, 32, 108, 111, 110, 103])), none, 0, 0⟩,
  ⟨(some 16), .move (.t 18), none, 0, 1⟩]
def f52r7 : List AOper := [
  ⟨(some 19), .fieldAddr 2 (.t 1), none, 0, 0⟩,
  ⟨(some 20), .load false 1 (.t 19), none, 0, 1⟩,
  ⟨(some 21), .bin .geq (.t 20) (.c (.int .i64 0)), none, 0, 3⟩,
  ⟨(some 22), .move (.t 21), none, 0, 7⟩,
  ⟨(some 23), .fieldAddr 2 (.t 1), (some (22, true)), 0, 15⟩,
  ⟨(some 24), .load false 1 (.t 23), (some (22, true)), 0, 31⟩,
  ⟨(some 25), .bin .leq (.t 24) (.c (.int .i64 4294967295)), (some (22, true)), 0, 63⟩,
  ⟨(some 26), .pick (.t 22) (.t 25) (.c (.bool false)), none, 0, 127⟩,
  ⟨(some 2), .move (.t 26), none, 0, 255⟩]
def f52r8 : List AOper := [
  ⟨(some 2), .move (.c (.bool false)), none, 0, 0⟩]
def f52c : ACode :=
  .seq (.region false f52r0 [1] 0)
  (.seq (.seq (.region false f52r1 [1, 4] 0)
  (.block 0 (.seq (.seq (.region false f52r2 [1, 4, 5] 0)
    (.cond (.t 5)
      (.skip)
      (.region false f52r3 [1, 4, 5] 0)))
    (.cond (.t 5)
      (.seq (.region false f52r4 [2] 0)
      (.ret))
      (.seq (.seq (.region false f52r5 [1, 4, 16] 0)
      (.cond (.t 16)
        (.skip)
        (.region false f52r6 [1, 16] 0)))
      (.cond (.t 16)
        (.seq (.region false f52r7 [2] 0)
        (.ret))
        (.skip)))))))
  (.seq (.region false f52r8 [2] 0)
  (.ret)))
def f52 : AFn := ⟨1, 27, [.tmp 2], f52c, 1, none⟩
def f52k : List (Nat × List Nat) := [(0, [1]), (1, [1, 4]), (2, [1, 4, 5]), (3, [1, 4, 5]), (5, [1, 4, 16]), (6, [1, 16]), (7, [2]), (4, [2]), (8, [2])]
def f52v : List Nat := [1]

/-! 53: strings.HasSuffix, parameters [9, 9], results [4] -/
def f53r0 : List AOper := [
  ⟨(some 4), .move (.c (.bool false)), none, 0, 0⟩]
def f53r1 : List AOper := [
  ⟨(some 5), .move (.t 0), none, 0, 0⟩,
  ⟨(some 6), .move (.t 1), none, 0, 0⟩,
  ⟨(some 7), .call (.c (.fn 66 [] [])) [(.t 5), (.t 6)], none, 0, 3⟩,
  ⟨(some 4), .move (.t 7), none, 0, 7⟩]
def f53c : ACode :=
  .seq (.region false f53r0 [0, 1] 0)
  (.seq (.region false f53r1 [4] 0)
  (.ret))
def f53 : AFn := ⟨2, 8, [.tmp 4], f53c, 1, none⟩
def f53k : List (Nat × List Nat) := [(0, [0, 1]), (1, [4])]
def f53v : List Nat := []

/-! 55: mortise/token.quote, parameters [9, 5], results [9] -/
def f55r0 : List AOper := [
  ⟨(some 4), .move (.c (.str [])), none, 0, 0⟩]
def f55r1 : List AOper := [
  ⟨(some 8), .move (.t 1), none, 0, 0⟩,
  ⟨(some 9), .buildSlice true 1 1 [(.int .u8 0)] [(0, 1, (.t 8))], none, 0, 1⟩,
  ⟨(some 5), .move (.t 9), none, 0, 3⟩]
def f55r2 : List AOper := [
  ⟨(some 10), .move (.t 0), none, 0, 0⟩,
  ⟨(some 11), .len 0 (.t 10), none, 0, 1⟩,
  ⟨(some 12), .move (.c (.int .i64 0)), none, 0, 0⟩]
def f55r3 : List AOper := [
  ⟨(some 13), .bin .lss (.t 12) (.t 11), none, 0, 0⟩]
def f55r4 : List AOper := [
  ⟨(some 14), .move (.t 12), none, 0, 0⟩,
  ⟨(some 6), .move (.t 14), none, 0, 1⟩]
def f55r5 : List AOper := [
  ⟨(some 15), .move (.t 0), none, 0, 0⟩,
  ⟨(some 16), .move (.t 6), none, 0, 0⟩,
  ⟨(some 17), .strIndex (.t 15) (.t 16), none, 0, 3⟩,
  ⟨(some 7), .move (.t 17), none, 0, 7⟩]
def f55r6 : List AOper := [
  ⟨(some 32), .move (.t 7), none, 0, 0⟩,
  ⟨(some 33), .bin .eql (.t 32) (.c (.int .u8 10)), none, 0, 1⟩,
  ⟨(some 31), .move (.t 33), none, 0, 3⟩]
def f55r7 : List AOper := [
  ⟨(some 34), .move (.t 5), none, 0, 0⟩,
  ⟨(some 35), .buildSlice true 1 2 [(.int .u8 0), (.int .u8 0)] [(0, 1, (.c (.int .u8 92))), (1, 1, (.c (.int .u8 110)))], none, 0, 0⟩,
  ⟨(some 36), .append true 1 1 (.t 34) (.t 35), none, 0, 3⟩,
  ⟨(some 5), .move (.t 36), none, 1, 7⟩]
def f55r8 : List AOper := [
  ⟨(some 38), .move (.t 7), none, 0, 0⟩,
  ⟨(some 39), .move (.t 1), none, 0, 0⟩,
  ⟨(some 40), .bin .eql (.t 38) (.t 39), none, 0, 3⟩,
  ⟨(some 41), .move (.t 40), none, 0, 7⟩,
  ⟨(some 42), .move (.t 7), (some (41, false)), 0, 15⟩,
  ⟨(some 43), .bin .eql (.t 42) (.c (.int .u8 92)), (some (41, false)), 0, 31⟩,
  ⟨(some 44), .pick (.t 41) (.c (.bool true)) (.t 43), none, 0, 63⟩,
  ⟨(some 37), .move (.t 44), none, 0, 127⟩]
def f55r9 : List AOper := [
  ⟨(some 45), .move (.t 5), none, 0, 0⟩,
  ⟨(some 46), .move (.t 7), none, 0, 0⟩,
  ⟨(some 47), .buildSlice true 1 2 [(.int .u8 0), (.int .u8 0)] [(0, 1, (.c (.int .u8 92))), (1, 1, (.t 46))], none, 0, 2⟩,
  ⟨(some 48), .append true 1 1 (.t 45) (.t 47), none, 0, 7⟩,
  ⟨(some 5), .move (.t 48), none, 1, 15⟩]
def f55r10 : List AOper := [
  ⟨(some 50), .move (.t 7), none, 0, 0⟩,
  ⟨(some 51), .bin .geq (.t 50) (.c (.int .u8 32)), none, 0, 1⟩,
  ⟨(some 52), .move (.t 51), none, 0, 3⟩,
  ⟨(some 53), .move (.t 7), (some (52, true)), 0, 7⟩,
  ⟨(some 54), .bin .leq (.t 53) (.c (.int .u8 126)), (some (52, true)), 0, 15⟩,
  ⟨(some 55), .pick (.t 52) (.t 54) (.c (.bool false)), none, 0, 31⟩,
  ⟨(some 49), .move (.t 55), none, 0, 63⟩]
def f55r11 : List AOper := [
  ⟨(some 56), .move (.t 5), none, 0, 0⟩,
  ⟨(some 57), .move (.t 7), none, 0, 0⟩,
  ⟨(some 58), .buildSlice true 1 1 [(.int .u8 0)] [(0, 1, (.t 57))], none, 0, 2⟩,
  ⟨(some 59), .append true 1 1 (.t 56) (.t 58), none, 0, 7⟩,
  ⟨(some 5), .move (.t 59), none, 1, 15⟩]
def f55r12 : List AOper := [
  ⟨(some 18), .move (.t 5), none, 0, 0⟩,
  ⟨(some 19), .move (.t 7), none, 0, 0⟩,
  ⟨(some 20), .bin .shr (.t 19) (.c (.int .u64 6)), none, 0, 2⟩,
  ⟨(some 21), .bin .add (.c (.int .u8 48)) (.t 20), none, 0, 6⟩,
  ⟨(some 22), .move (.t 7), none, 0, 0⟩,
  ⟨(some 23), .bin .shr (.t 22) (.c (.int .u64 3)), none, 0, 16⟩,
  ⟨(some 24), .bin .and (.t 23) (.c (.int .u8 7)), none, 0, 48⟩,
  ⟨(some 25), .bin .add (.c (.int .u8 48)) (.t 24), none, 0, 112⟩,
  ⟨(some 26), .move (.t 7), none, 0, 0⟩,
  ⟨(some 27), .bin .and (.t 26) (.c (.int .u8 7)), none, 0, 256⟩,
  ⟨(some 28), .bin .add (.c (.int .u8 48)) (.t 27), none, 0, 768⟩,
  ⟨(some 29), .buildSlice true 1 4 [(.int .u8 0), (.int .u8 0), (.int .u8 0), (.int .u8 0)] [(0, 1, (.c (.int .u8 92))), (1, 1, (.t 21)), (2, 1, (.t 25)), (3, 1, (.t 28))], none, 0, 2046⟩,
  ⟨(some 30), .append true 1 1 (.t 18) (.t 29), none, 0, 4095⟩,
  ⟨(some 5), .move (.t 30), none, 1, 8191⟩]
def f55r13 : List AOper := [
  ⟨(some 60), .bin .add (.t 12) (.c (.int .i64 1)), none, 0, 0⟩,
  ⟨(some 12), .move (.t 60), none, 0, 1⟩]
def f55m3 : ACode :=
  .seq (.region false f55r3 [0, 1, 5, 11, 12, 13] 0)
  (.seq (.cond (.t 13)
    (.skip)
    (.exit 0))
  (.seq (.block 1 (.seq (.region false f55r4 [0, 1, 5, 6, 11, 12] 0)
    (.seq (.region false f55r5 [0, 1, 5, 7, 11, 12] 0)
    (.block 2 (.seq (.region false f55r6 [0, 1, 5, 7, 11, 12, 31] 0)
      (.cond (.t 31)
        (.region false f55r7 [0, 1, 5, 11, 12] 1)
        (.seq (.region false f55r8 [0, 1, 5, 7, 11, 12, 37] 0)
        (.cond (.t 37)
          (.region false f55r9 [0, 1, 5, 11, 12] 1)
          (.seq (.region false f55r10 [0, 1, 5, 7, 11, 12, 49] 0)
          (.cond (.t 49)
            (.region false f55r11 [0, 1, 5, 11, 12] 1)
            (.region false f55r12 [0, 1, 5, 11, 12] 1)))))))))))
  (.region false f55r13 [0, 1, 5, 11, 12] 0)))
def f55l3 : ACode := f55m3
theorem f55l3_b {A : Tab} {nt : Nat} {e : Env} {h : Heap} : Brun A nt f55l3 e h = Brun A nt f55m3 e h := rfl
def f55r14 : List AOper := [
  ⟨(some 61), .move (.t 5), none, 0, 0⟩,
  ⟨(some 62), .move (.t 1), none, 0, 0⟩,
  ⟨(some 63), .buildSlice true 1 1 [(.int .u8 0)] [(0, 1, (.t 62))], none, 0, 2⟩,
  ⟨(some 64), .append true 1 1 (.t 61) (.t 63), none, 0, 7⟩,
  ⟨(some 65), .toStr (.t 64), none, 1, 15⟩,
  ⟨(some 4), .move (.t 65), none, 1, 31⟩]
def f55c : ACode :=
  .seq (.region false f55r0 [0, 1] 0)
  (.seq (.region false f55r1 [0, 1, 5] 0)
  (.seq (.seq (.region false f55r2 [0, 1, 5, 11, 12] 0)
  (.block 0 (.loop f55l3)))
  (.seq (.region false f55r14 [4] 1)
  (.ret))))
def f55 : AFn := ⟨2, 66, [.tmp 4], f55c, 1, none⟩
def f55k : List (Nat × List Nat) := [(0, [0, 1]), (1, [0, 1, 5]), (2, [0, 1, 5, 11, 12]), (3, [0, 1, 5, 11, 12, 13]), (4, [0, 1, 5, 6, 11, 12]), (5, [0, 1, 5, 7, 11, 12]), (7, [0, 1, 5, 7, 11, 12, 31]), (9, [0, 1, 5, 7, 11, 12, 37]), (11, [0, 1, 5, 7, 11, 12, 49]), (6, [0, 1, 5, 11, 12]), (12, [0, 1, 5, 11, 12]), (10, [0, 1, 5, 11, 12]), (8, [0, 1, 5, 11, 12]), (13, [0, 1, 5, 11, 12]), (14, [4])]
def f55v : List Nat := [65, 64, 63, 30, 29, 59, 58, 48, 47, 36, 35, 9]

/-! 59: internal/stringslite.HasPrefix, parameters [9, 9], results [4] -/
def f59r0 : List AOper := [
  ⟨(some 4), .move (.c (.bool false)), none, 0, 0⟩]
def f59r1 : List AOper := [
  ⟨(some 5), .move (.t 0), none, 0, 0⟩,
  ⟨(some 6), .len 0 (.t 5), none, 0, 1⟩,
  ⟨(some 7), .move (.t 1), none, 0, 0⟩,
  ⟨(some 8), .len 0 (.t 7), none, 0, 4⟩,
  ⟨(some 9), .bin .geq (.t 6) (.t 8), none, 0, 15⟩,
  ⟨(some 10), .move (.t 9), none, 0, 31⟩,
  ⟨(some 11), .move (.t 0), (some (10, true)), 0, 63⟩,
  ⟨(some 12), .move (.t 1), (some (10, true)), 0, 63⟩,
  ⟨(some 13), .len 0 (.t 12), (some (10, true)), 0, 191⟩,
  ⟨(some 14), .strSlice (.t 11) none (some (.t 13)), (some (10, true)), 0, 511⟩,
  ⟨(some 15), .move (.t 1), (some (10, true)), 0, 63⟩,
  ⟨(some 16), .bin .eql (.t 14) (.t 15), (some (10, true)), 0, 2047⟩,
  ⟨(some 17), .pick (.t 10) (.t 16) (.c (.bool false)), none, 0, 4095⟩,
  ⟨(some 4), .move (.t 17), none, 0, 8191⟩]
def f59c : ACode :=
  .seq (.region false f59r0 [0, 1] 0)
  (.seq (.region false f59r1 [4] 0)
  (.ret))
def f59 : AFn := ⟨2, 18, [.tmp 4], f59c, 1, none⟩
def f59k : List (Nat × List Nat) := [(0, [0, 1]), (1, [4])]
def f59v : List Nat := []

/-! 60: internal/stringslite.IndexByte, parameters [9, 5], results [3] -/
def f60r0 : List AOper := [
  ⟨(some 4), .move (.c (.int .i64 0)), none, 0, 0⟩]
def f60r1 : List AOper := [
  ⟨(some 5), .move (.t 0), none, 0, 0⟩,
  ⟨(some 6), .move (.t 1), none, 0, 0⟩,
  ⟨(some 7), .ext .idxByte [(.t 5), (.t 6)], none, 0, 3⟩,
  ⟨(some 4), .move (.t 7), none, 0, 7⟩]
def f60c : ACode :=
  .seq (.region false f60r0 [0, 1] 0)
  (.seq (.region false f60r1 [4] 0)
  (.ret))
def f60 : AFn := ⟨2, 8, [.tmp 4], f60c, 1, none⟩
def f60k : List (Nat × List Nat) := [(0, [0, 1]), (1, [4])]
def f60v : List Nat := []

/-! 62: mortise/token.number$1, parameters [5], results [4] -/
def f62r0 : List AOper := [
  ⟨(some 2), .move (.c (.bool false)), none, 0, 0⟩]
def f62r1 : List AOper := [
  ⟨(some 6), .move (.t 0), none, 0, 0⟩,
  ⟨(some 7), .call (.c (.fn 63 [] [])) [(.t 6)], none, 0, 1⟩,
  ⟨(some 5), .move (.t 7), none, 0, 3⟩,
  ⟨(some 8), .extract (.t 5) 0, none, 0, 7⟩,
  ⟨(some 9), .extract (.t 5) 1, none, 0, 7⟩,
  ⟨(some 3), .move (.t 8), none, 0, 15⟩,
  ⟨(some 4), .move (.t 9), none, 0, 63⟩]
def f62r2 : List AOper := [
  ⟨(some 10), .move (.t 4), none, 0, 0⟩,
  ⟨(some 2), .move (.t 10), none, 0, 1⟩]
def f62c : ACode :=
  .seq (.region false f62r0 [0] 0)
  (.seq (.region false f62r1 [4] 0)
  (.seq (.region false f62r2 [2] 0)
  (.ret)))
def f62 : AFn := ⟨1, 11, [.tmp 2], f62c, 1, none⟩
def f62k : List (Nat × List Nat) := [(0, [0]), (1, [4]), (2, [2])]
def f62v : List Nat := []

/-! 63: mortise/token.hex, parameters [5], results [3, 4] -/
def f63r0 : List AOper := [
  ⟨(some 2), .move (.c (.int .i64 0)), none, 0, 0⟩,
  ⟨(some 3), .move (.c (.bool false)), none, 0, 1⟩]
def f63r1 : List AOper := [
  ⟨(some 5), .move (.t 0), none, 0, 0⟩,
  ⟨(some 6), .call (.c (.fn 48 [] [])) [(.t 5)], none, 0, 1⟩,
  ⟨(some 4), .move (.t 6), none, 0, 3⟩]
def f63r2 : List AOper := [
  ⟨(some 7), .move (.t 0), none, 0, 0⟩,
  ⟨(some 8), .bin .sub (.t 7) (.c (.int .u8 48)), none, 0, 1⟩,
  ⟨(some 9), .conv .i64 (.t 8), none, 0, 3⟩,
  ⟨(some 2), .move (.t 9), none, 0, 7⟩,
  ⟨(some 3), .move (.c (.bool true)), none, 0, 15⟩]
def f63r3 : List AOper := [
  ⟨(some 11), .move (.t 0), none, 0, 0⟩,
  ⟨(some 12), .bin .or (.t 11) (.c (.int .u8 32)), none, 0, 1⟩,
  ⟨(some 13), .bin .geq (.t 12) (.c (.int .u8 97)), none, 0, 3⟩,
  ⟨(some 14), .move (.t 13), none, 0, 7⟩,
  ⟨(some 15), .move (.t 0), (some (14, true)), 0, 15⟩,
  ⟨(some 16), .bin .or (.t 15) (.c (.int .u8 32)), (some (14, true)), 0, 31⟩,
  ⟨(some 17), .bin .leq (.t 16) (.c (.int .u8 102)), (some (14, true)), 0, 63⟩,
  ⟨(some 18), .pick (.t 14) (.t 17) (.c (.bool false)), none, 0, 127⟩,
  ⟨(some 10), .move (.t 18), none, 0, 255⟩]
def f63r4 : List AOper := [
  ⟨(some 19), .move (.t 0), none, 0, 0⟩,
  ⟨(some 20), .bin .or (.t 19) (.c (.int .u8 32)), none, 0, 1⟩,
  ⟨(some 21), .bin .sub (.t 20) (.c (.int .u8 97)), none, 0, 3⟩,
  ⟨(some 22), .conv .i64 (.t 21), none, 0, 7⟩,
  ⟨(some 23), .bin .add (.t 22) (.c (.int .i64 10)), none, 0, 15⟩,
  ⟨(some 2), .move (.t 23), none, 0, 31⟩,
  ⟨(some 3), .move (.c (.bool true)), none, 0, 63⟩]
def f63r5 : List AOper := [
  ⟨(some 2), .move (.c (.int .i64 0)), none, 0, 0⟩,
  ⟨(some 3), .move (.c (.bool false)), none, 0, 1⟩]
def f63c : ACode :=
  .seq (.region false f63r0 [0] 0)
  (.seq (.block 0 (.seq (.region false f63r1 [0, 4] 0)
    (.cond (.t 4)
      (.seq (.region false f63r2 [2, 3] 0)
      (.ret))
      (.seq (.region false f63r3 [0, 10] 0)
      (.cond (.t 10)
        (.seq (.region false f63r4 [2, 3] 0)
        (.ret))
        (.skip))))))
  (.seq (.region false f63r5 [2, 3] 0)
  (.ret)))
def f63 : AFn := ⟨1, 24, [.tmp 2, .tmp 3], f63c, 1, none⟩
def f63k : List (Nat × List Nat) := [(0, [0]), (1, [0, 4]), (3, [0, 10]), (4, [2, 3]), (2, [2, 3]), (5, [2, 3])]
def f63v : List Nat := [22, 9]

/-! 64: mortise/token.value, parameters [9], results [3, 4, 4] -/
def f64r0 : List AOper := [
  ⟨(some 2), .move (.c (.int .i64 0)), none, 0, 0⟩,
  ⟨(some 3), .move (.c (.bool false)), none, 0, 1⟩,
  ⟨(some 4), .move (.c (.bool false)), none, 0, 3⟩]
def f64r1 : List AOper := [
  ⟨(some 5), .move (.c (.int .i64 10)), none, 0, 0⟩,
  ⟨(some 6), .move (.c (.bool true)), none, 0, 1⟩]
def f64r2 : List AOper := [
  ⟨(some 12), .move (.t 0), none, 0, 0⟩,
  ⟨(some 13), .len 0 (.t 12), none, 0, 1⟩,
  ⟨(some 14), .bin .gtr (.t 13) (.c (.int .i64 1)), none, 0, 3⟩,
  ⟨(some 15), .move (.t 14), none, 0, 7⟩,
  ⟨(some 16), .move (.t 0), (some (15, true)), 0, 15⟩,
  ⟨(some 17), .strIndex (.t 16) (.c (.int .i64 0)), (some (15, true)), 0, 31⟩,
  ⟨(some 18), .bin .eql (.t 17) (.c (.int .u8 48)), (some (15, true)), 0, 63⟩,
  ⟨(some 19), .pick (.t 15) (.t 18) (.c (.bool false)), none, 0, 127⟩,
  ⟨(some 20), .move (.t 19), none, 0, 255⟩,
  ⟨(some 21), .move (.t 0), (some (20, true)), 0, 511⟩,
  ⟨(some 22), .strIndex (.t 21) (.c (.int .i64 1)), (some (20, true)), 0, 1023⟩,
  ⟨(some 23), .bin .or (.t 22) (.c (.int .u8 32)), (some (20, true)), 0, 2047⟩,
  ⟨(some 24), .bin .eql (.t 23) (.c (.int .u8 120)), (some (20, true)), 0, 4095⟩,
  ⟨(some 25), .pick (.t 20) (.t 24) (.c (.bool false)), none, 0, 8191⟩,
  ⟨(some 11), .move (.t 25), none, 0, 16383⟩]
def f64r3 : List AOper := [
  ⟨(some 26), .move (.t 0), none, 0, 0⟩,
  ⟨(some 27), .strSlice (.t 26) (some (.c (.int .i64 2))) none, none, 0, 1⟩,
  ⟨(some 0), .move (.t 27), none, 0, 3⟩,
  ⟨(some 5), .move (.c (.int .i64 16)), none, 0, 7⟩,
  ⟨(some 6), .move (.c (.bool false)), none, 0, 15⟩]
def f64r4 : List AOper := [
  ⟨(some 29), .move (.t 0), none, 0, 0⟩,
  ⟨(some 30), .bin .neq (.t 29) (.c (.str [])), none, 0, 1⟩,
  ⟨(some 31), .move (.t 30), none, 0, 3⟩,
  ⟨(some 32), .move (.t 0), (some (31, true)), 0, 7⟩,
  ⟨(some 33), .strIndex (.t 32) (.c (.int .i64 0)), (some (31, true)), 0, 15⟩,
  ⟨(some 34), .bin .eql (.t 33) (.c (.int .u8 48)), (some (31, true)), 0, 31⟩,
  ⟨(some 35), .pick (.t 31) (.t 34) (.c (.bool false)), none, 0, 63⟩,
  ⟨(some 28), .move (.t 35), none, 0, 127⟩]
def f64r5 : List AOper := [
  ⟨(some 5), .move (.c (.int .i64 8)), none, 0, 0⟩,
  ⟨(some 6), .move (.c (.bool false)), none, 0, 1⟩]
def f64r6 : List AOper := [
  ⟨(some 36), .move (.t 0), none, 0, 0⟩,
  ⟨(some 37), .bin .eql (.t 36) (.c (.str [])), none, 0, 1⟩]
def f64r7 : List AOper := [
  ⟨(some 2), .move (.c (.int .i64 0)), none, 0, 0⟩,
  ⟨(some 3), .move (.c (.bool false)), none, 0, 1⟩,
  ⟨(some 4), .move (.c (.bool false)), none, 0, 3⟩]
def f64r8 : List AOper := [
  ⟨(some 7), .move (.c (.int .i64 0)), none, 0, 0⟩]
def f64r9 : List AOper := [
  ⟨(some 38), .move (.t 0), none, 0, 0⟩,
  ⟨(some 39), .len 0 (.t 38), none, 0, 1⟩,
  ⟨(some 40), .move (.c (.int .i64 0)), none, 0, 0⟩]
def f64r10 : List AOper := [
  ⟨(some 41), .bin .lss (.t 40) (.t 39), none, 0, 0⟩]
def f64r11 : List AOper := [
  ⟨(some 42), .move (.t 40), none, 0, 0⟩,
  ⟨(some 8), .move (.t 42), none, 0, 1⟩]
def f64r12 : List AOper := [
  ⟨(some 44), .move (.t 0), none, 0, 0⟩,
  ⟨(some 45), .move (.t 8), none, 0, 0⟩,
  ⟨(some 46), .strIndex (.t 44) (.t 45), none, 0, 3⟩,
  ⟨(some 47), .call (.c (.fn 63 [] [])) [(.t 46)], none, 0, 7⟩,
  ⟨(some 43), .move (.t 47), none, 0, 15⟩,
  ⟨(some 48), .extract (.t 43) 0, none, 0, 31⟩,
  ⟨(some 49), .extract (.t 43) 1, none, 0, 31⟩,
  ⟨(some 9), .move (.t 48), none, 0, 63⟩,
  ⟨(some 10), .move (.t 49), none, 0, 255⟩]
def f64r13 : List AOper := [
  ⟨(some 50), .move (.t 10), none, 0, 0⟩,
  ⟨(some 51), .un .not (.t 50), none, 0, 1⟩,
  ⟨(some 52), .move (.t 51), none, 0, 3⟩,
  ⟨(some 53), .move (.t 9), (some (52, false)), 0, 7⟩,
  ⟨(some 54), .move (.t 5), (some (52, false)), 0, 7⟩,
  ⟨(some 55), .bin .geq (.t 53) (.t 54), (some (52, false)), 0, 31⟩,
  ⟨(some 56), .pick (.t 52) (.c (.bool true)) (.t 55), none, 0, 63⟩]
def f64r14 : List AOper := [
  ⟨(some 2), .move (.c (.int .i64 0)), none, 0, 0⟩,
  ⟨(some 3), .move (.c (.bool false)), none, 0, 1⟩,
  ⟨(some 4), .move (.c (.bool false)), none, 0, 3⟩]
def f64r15 : List AOper := [
  ⟨(some 57), .move (.t 7), none, 0, 0⟩,
  ⟨(some 58), .move (.t 5), none, 0, 0⟩,
  ⟨(some 59), .bin .mul (.t 57) (.t 58), none, 0, 3⟩,
  ⟨(some 60), .move (.t 9), none, 0, 0⟩,
  ⟨(some 61), .bin .add (.t 59) (.t 60), none, 0, 15⟩,
  ⟨(some 62), .min (.c (.int .i64 8589934592)) (.t 61), none, 0, 31⟩,
  ⟨(some 7), .move (.t 62), none, 0, 63⟩]
def f64r16 : List AOper := [
  ⟨(some 63), .bin .add (.t 40) (.c (.int .i64 1)), none, 0, 0⟩,
  ⟨(some 40), .move (.t 63), none, 0, 1⟩]
def f64m10 : ACode :=
  .seq (.region false f64r10 [0, 5, 6, 7, 39, 40, 41] 0)
  (.seq (.cond (.t 41)
    (.skip)
    (.exit 1))
  (.seq (.block 2 (.seq (.region false f64r11 [0, 5, 6, 7, 8, 39, 40] 0)
    (.seq (.region false f64r12 [0, 5, 6, 7, 9, 10, 39, 40] 0)
    (.seq (.seq (.region false f64r13 [0, 5, 6, 7, 9, 39, 40, 56] 0)
    (.cond (.t 56)
      (.seq (.region false f64r14 [2, 3, 4] 0)
      (.ret))
      (.skip)))
    (.region false f64r15 [0, 5, 6, 7, 39, 40] 0)))))
  (.region false f64r16 [0, 5, 6, 7, 39, 40] 0)))
def f64l10 : ACode := f64m10
theorem f64l10_b {A : Tab} {nt : Nat} {e : Env} {h : Heap} : Brun A nt f64l10 e h = Brun A nt f64m10 e h := rfl
def f64r17 : List AOper := [
  ⟨(some 64), .move (.t 7), none, 0, 0⟩,
  ⟨(some 65), .move (.t 6), none, 0, 0⟩,
  ⟨(some 2), .move (.t 64), none, 0, 1⟩,
  ⟨(some 3), .move (.t 65), none, 0, 7⟩,
  ⟨(some 4), .move (.c (.bool true)), none, 0, 15⟩]
def f64c : ACode :=
  .seq (.region false f64r0 [0] 0)
  (.seq (.region false f64r1 [0, 5, 6] 0)
  (.seq (.block 0 (.seq (.region false f64r2 [0, 5, 6, 11] 0)
    (.cond (.t 11)
      (.region false f64r3 [0, 5, 6] 0)
      (.seq (.region false f64r4 [0, 5, 6, 28] 0)
      (.cond (.t 28)
        (.region false f64r5 [0, 5, 6] 0)
        (.skip))))))
  (.seq (.seq (.region false f64r6 [0, 5, 6, 37] 0)
  (.cond (.t 37)
    (.seq (.region false f64r7 [2, 3, 4] 0)
    (.ret))
    (.skip)))
  (.seq (.region false f64r8 [0, 5, 6, 7] 0)
  (.seq (.seq (.region false f64r9 [0, 5, 6, 7, 39, 40] 0)
  (.block 1 (.loop f64l10)))
  (.seq (.region false f64r17 [2, 3, 4] 0)
  (.ret)))))))
def f64 : AFn := ⟨1, 66, [.tmp 2, .tmp 3, .tmp 4], f64c, 1, none⟩
def f64k : List (Nat × List Nat) := [(0, [0]), (1, [0, 5, 6]), (2, [0, 5, 6, 11]), (4, [0, 5, 6, 28]), (5, [0, 5, 6]), (3, [0, 5, 6]), (6, [0, 5, 6, 37]), (7, [2, 3, 4]), (8, [0, 5, 6, 7]), (9, [0, 5, 6, 7, 39, 40]), (10, [0, 5, 6, 7, 39, 40, 41]), (11, [0, 5, 6, 7, 8, 39, 40]), (12, [0, 5, 6, 7, 9, 10, 39, 40]), (13, [0, 5, 6, 7, 9, 39, 40, 56]), (14, [2, 3, 4]), (15, [0, 5, 6, 7, 39, 40]), (16, [0, 5, 6, 7, 39, 40]), (17, [2, 3, 4])]
def f64v : List Nat := []

/-! 65: mortise/token.escaped, parameters [9], results [5, 3, 4] -/
def f65r0 : List AOper := [
  ⟨(some 2), .move (.c (.int .u8 0)), none, 0, 0⟩,
  ⟨(some 3), .move (.c (.int .i64 0)), none, 0, 1⟩,
  ⟨(some 4), .move (.c (.bool false)), none, 0, 3⟩]
def f65r1 : List AOper := [
  ⟨(some 14), .move (.t 0), none, 0, 0⟩,
  ⟨(some 15), .bin .eql (.t 14) (.c (.str [])), none, 0, 1⟩]
def f65r2 : List AOper := [
  ⟨(some 2), .move (.c (.int .u8 0)), none, 0, 0⟩,
  ⟨(some 3), .move (.c (.int .i64 0)), none, 0, 1⟩,
  ⟨(some 4), .move (.c (.bool false)), none, 0, 3⟩]
def f65r3 : List AOper := [
  ⟨(some 16), .move (.t 0), none, 0, 0⟩,
  ⟨(some 17), .strIndex (.t 16) (.c (.int .i64 0)), none, 0, 1⟩,
  ⟨(some 18), .call (.c (.fn 44 [] [])) [(.c (.str [97, 98, 102, 110, 114, 116, 118, 92, 39, 34, 63])), (.t 17)], none, 0, 3⟩,
  ⟨(some 5), .move (.t 18), none, 0, 7⟩]
def f65r4 : List AOper := [
  ⟨(some 19), .move (.t 5), none, 0, 0⟩,
  ⟨(some 20), .bin .geq (.t 19) (.c (.int .i64 0)), none, 0, 1⟩]
def f65r5 : List AOper := [
  ⟨(some 21), .move (.t 5), none, 0, 0⟩,
  ⟨(some 22), .strIndex (.c (.str [7, 8, 12, 10, 13, 9, 11, 92, 39, 34, 63])) (.t 21), none, 0, 1⟩,
  ⟨(some 2), .move (.t 22), none, 0, 3⟩,
  ⟨(some 3), .move (.c (.int .i64 1)), none, 0, 7⟩,
  ⟨(some 4), .move (.c (.bool true)), none, 0, 15⟩]
def f65r6 : List AOper := [
  ⟨(some 23), .move (.t 0), none, 0, 0⟩,
  ⟨(some 24), .strIndex (.t 23) (.c (.int .i64 0)), none, 0, 1⟩,
  ⟨(some 25), .bin .eql (.t 24) (.c (.int .u8 120)), none, 0, 3⟩]
def f65r7 : List AOper := [
  ⟨(some 26), .move (.t 0), none, 0, 0⟩,
  ⟨(some 27), .strSlice (.t 26) (some (.c (.int .i64 1))) none, none, 0, 1⟩,
  ⟨(some 28), .call (.c (.fn 45 [] [])) [(.t 27), (.c (.fn 78 [] []))], none, 0, 3⟩,
  ⟨(some 6), .move (.t 28), none, 0, 7⟩]
def f65r8 : List AOper := [
  ⟨(some 7), .move (.c (.int .i64 0)), none, 0, 0⟩]
def f65r9 : List AOper := [
  ⟨(some 29), .move (.t 6), none, 0, 0⟩,
  ⟨(some 30), .move (.c (.int .i64 0)), none, 0, 0⟩]
def f65r10 : List AOper := [
  ⟨(some 31), .bin .lss (.t 30) (.t 29), none, 0, 0⟩]
def f65r11 : List AOper := [
  ⟨(some 32), .move (.t 30), none, 0, 0⟩,
  ⟨(some 8), .move (.t 32), none, 0, 1⟩]
def f65r12 : List AOper := [
  ⟨(some 34), .move (.t 0), none, 0, 0⟩,
  ⟨(some 35), .move (.t 8), none, 0, 0⟩,
  ⟨(some 36), .bin .add (.c (.int .i64 1)) (.t 35), none, 0, 2⟩,
  ⟨(some 37), .strIndex (.t 34) (.t 36), none, 0, 7⟩,
  ⟨(some 38), .call (.c (.fn 63 [] [])) [(.t 37)], none, 0, 15⟩,
  ⟨(some 33), .move (.t 38), none, 0, 31⟩,
  ⟨(some 39), .extract (.t 33) 0, none, 0, 63⟩,
  ⟨(some 40), .extract (.t 33) 1, none, 0, 63⟩,
  ⟨(some 9), .move (.t 39), none, 0, 127⟩,
  ⟨(some 10), .move (.t 40), none, 0, 511⟩]
def f65r13 : List AOper := [
  ⟨(some 41), .move (.t 7), none, 0, 0⟩,
  ⟨(some 42), .bin .mul (.c (.int .i64 16)) (.t 41), none, 0, 1⟩,
  ⟨(some 43), .move (.t 9), none, 0, 0⟩,
  ⟨(some 44), .bin .add (.t 42) (.t 43), none, 0, 7⟩,
  ⟨(some 45), .min (.c (.int .i64 1048576)) (.t 44), none, 0, 15⟩,
  ⟨(some 7), .move (.t 45), none, 0, 31⟩]
def f65r14 : List AOper := [
  ⟨(some 46), .bin .add (.t 30) (.c (.int .i64 1)), none, 0, 0⟩,
  ⟨(some 30), .move (.t 46), none, 0, 1⟩]
def f65m10 : ACode :=
  .seq (.region false f65r10 [0, 6, 7, 29, 30, 31] 0)
  (.seq (.cond (.t 31)
    (.skip)
    (.exit 0))
  (.seq (.block 1 (.seq (.region false f65r11 [0, 6, 7, 8, 29, 30] 0)
    (.seq (.region false f65r12 [0, 6, 7, 9, 29, 30] 0)
    (.region false f65r13 [0, 6, 7, 29, 30] 0))))
  (.region false f65r14 [0, 6, 7, 29, 30] 0)))
def f65l10 : ACode := f65m10
theorem f65l10_b {A : Tab} {nt : Nat} {e : Env} {h : Heap} : Brun A nt f65l10 e h = Brun A nt f65m10 e h := rfl
def f65r15 : List AOper := [
  ⟨(some 47), .move (.t 7), none, 0, 0⟩,
  ⟨(some 48), .conv .u8 (.t 47), none, 0, 1⟩,
  ⟨(some 49), .move (.t 6), none, 0, 0⟩,
  ⟨(some 50), .bin .add (.t 49) (.c (.int .i64 1)), none, 0, 4⟩,
  ⟨(some 51), .move (.t 6), none, 0, 0⟩,
  ⟨(some 52), .bin .gtr (.t 51) (.c (.int .i64 0)), none, 0, 16⟩,
  ⟨(some 53), .move (.t 52), none, 0, 48⟩,
  ⟨(some 54), .move (.t 7), (some (53, true)), 0, 112⟩,
  ⟨(some 55), .bin .leq (.t 54) (.c (.int .i64 255)), (some (53, true)), 0, 240⟩,
  ⟨(some 56), .pick (.t 53) (.t 55) (.c (.bool false)), none, 0, 496⟩,
  ⟨(some 2), .move (.t 48), none, 0, 115⟩,
  ⟨(some 3), .move (.t 50), none, 0, 1151⟩,
  ⟨(some 4), .move (.t 56), none, 0, 4095⟩]
def f65r16 : List AOper := [
  ⟨(some 57), .move (.t 0), none, 0, 0⟩,
  ⟨(some 58), .call (.c (.fn 45 [] [])) [(.t 57), (.c (.fn 79 [] []))], none, 0, 1⟩,
  ⟨(some 59), .min (.c (.int .i64 3)) (.t 58), none, 0, 3⟩,
  ⟨(some 11), .move (.t 59), none, 0, 7⟩]
def f65r17 : List AOper := [
  ⟨(some 12), .move (.c (.int .i64 0)), none, 0, 0⟩]
def f65r18 : List AOper := [
  ⟨(some 60), .move (.t 11), none, 0, 0⟩,
  ⟨(some 61), .move (.c (.int .i64 0)), none, 0, 0⟩]
def f65r19 : List AOper := [
  ⟨(some 62), .bin .lss (.t 61) (.t 60), none, 0, 0⟩]
def f65r20 : List AOper := [
  ⟨(some 63), .move (.t 61), none, 0, 0⟩,
  ⟨(some 13), .move (.t 63), none, 0, 1⟩]
def f65r21 : List AOper := [
  ⟨(some 64), .move (.t 12), none, 0, 0⟩,
  ⟨(some 65), .bin .mul (.c (.int .i64 8)) (.t 64), none, 0, 1⟩,
  ⟨(some 66), .move (.t 0), none, 0, 0⟩,
  ⟨(some 67), .move (.t 13), none, 0, 0⟩,
  ⟨(some 68), .strIndex (.t 66) (.t 67), none, 0, 12⟩,
  ⟨(some 69), .bin .sub (.t 68) (.c (.int .u8 48)), none, 0, 28⟩,
  ⟨(some 70), .conv .i64 (.t 69), none, 0, 60⟩,
  ⟨(some 71), .bin .add (.t 65) (.t 70), none, 0, 127⟩,
  ⟨(some 12), .move (.t 71), none, 0, 255⟩]
def f65r22 : List AOper := [
  ⟨(some 72), .bin .add (.t 61) (.c (.int .i64 1)), none, 0, 0⟩,
  ⟨(some 61), .move (.t 72), none, 0, 1⟩]
def f65m19 : ACode :=
  .seq (.region false f65r19 [0, 11, 12, 60, 61, 62] 0)
  (.seq (.cond (.t 62)
    (.skip)
    (.exit 2))
  (.seq (.block 3 (.seq (.region false f65r20 [0, 11, 12, 13, 60, 61] 0)
    (.region false f65r21 [0, 11, 12, 60, 61] 0)))
  (.region false f65r22 [0, 11, 12, 60, 61] 0)))
def f65l19 : ACode := f65m19
theorem f65l19_b {A : Tab} {nt : Nat} {e : Env} {h : Heap} : Brun A nt f65l19 e h = Brun A nt f65m19 e h := rfl
def f65r23 : List AOper := [
  ⟨(some 73), .move (.t 12), none, 0, 0⟩,
  ⟨(some 74), .conv .u8 (.t 73), none, 0, 1⟩,
  ⟨(some 75), .move (.t 11), none, 0, 0⟩,
  ⟨(some 76), .move (.t 11), none, 0, 0⟩,
  ⟨(some 77), .bin .gtr (.t 76) (.c (.int .i64 0)), none, 0, 8⟩,
  ⟨(some 78), .move (.t 77), none, 0, 24⟩,
  ⟨(some 79), .move (.t 12), (some (78, true)), 0, 56⟩,
  ⟨(some 80), .bin .leq (.t 79) (.c (.int .i64 255)), (some (78, true)), 0, 120⟩,
  ⟨(some 81), .pick (.t 78) (.t 80) (.c (.bool false)), none, 0, 248⟩,
  ⟨(some 2), .move (.t 74), none, 0, 59⟩,
  ⟨(some 3), .move (.t 75), none, 0, 575⟩,
  ⟨(some 4), .move (.t 81), none, 0, 2047⟩]
def f65c : ACode :=
  .seq (.region false f65r0 [0] 0)
  (.seq (.seq (.region false f65r1 [0, 15] 0)
  (.cond (.t 15)
    (.seq (.region false f65r2 [2, 3, 4] 0)
    (.ret))
    (.skip)))
  (.seq (.seq (.region false f65r3 [0, 5] 0)
  (.seq (.region false f65r4 [0, 5, 20] 0)
  (.cond (.t 20)
    (.seq (.region false f65r5 [2, 3, 4] 0)
    (.ret))
    (.skip))))
  (.seq (.seq (.region false f65r6 [0, 25] 0)
  (.cond (.t 25)
    (.seq (.region false f65r7 [0, 6] 0)
    (.seq (.region false f65r8 [0, 6, 7] 0)
    (.seq (.seq (.region false f65r9 [0, 6, 7, 29, 30] 0)
    (.block 0 (.loop f65l10)))
    (.seq (.region false f65r15 [2, 3, 4] 0)
    (.ret)))))
    (.skip)))
  (.seq (.region false f65r16 [0, 11] 0)
  (.seq (.region false f65r17 [0, 11, 12] 0)
  (.seq (.seq (.region false f65r18 [0, 11, 12, 60, 61] 0)
  (.block 2 (.loop f65l19)))
  (.seq (.region false f65r23 [2, 3, 4] 0)
  (.ret))))))))
def f65 : AFn := ⟨1, 82, [.tmp 2, .tmp 3, .tmp 4], f65c, 1, none⟩
def f65k : List (Nat × List Nat) := [(0, [0]), (1, [0, 15]), (2, [2, 3, 4]), (3, [0, 5]), (4, [0, 5, 20]), (5, [2, 3, 4]), (6, [0, 25]), (7, [0, 6]), (8, [0, 6, 7]), (9, [0, 6, 7, 29, 30]), (10, [0, 6, 7, 29, 30, 31]), (11, [0, 6, 7, 8, 29, 30]), (12, [0, 6, 7, 9, 29, 30]), (13, [0, 6, 7, 29, 30]), (14, [0, 6, 7, 29, 30]), (15, [2, 3, 4]), (16, [0, 11]), (17, [0, 11, 12]), (18, [0, 11, 12, 60, 61]), (19, [0, 11, 12, 60, 61, 62]), (20, [0, 11, 12, 13, 60, 61]), (21, [0, 11, 12, 60, 61]), (22, [0, 11, 12, 60, 61]), (23, [2, 3, 4])]
def f65v : List Nat := [74, 70, 48]

/-! 66: internal/stringslite.HasSuffix, parameters [9, 9], results [4] -/
def f66r0 : List AOper := [
  ⟨(some 4), .move (.c (.bool false)), none, 0, 0⟩]
def f66r1 : List AOper := [
  ⟨(some 5), .move (.t 0), none, 0, 0⟩,
  ⟨(some 6), .len 0 (.t 5), none, 0, 1⟩,
  ⟨(some 7), .move (.t 1), none, 0, 0⟩,
  ⟨(some 8), .len 0 (.t 7), none, 0, 4⟩,
  ⟨(some 9), .bin .geq (.t 6) (.t 8), none, 0, 15⟩,
  ⟨(some 10), .move (.t 9), none, 0, 31⟩,
  ⟨(some 11), .move (.t 0), (some (10, true)), 0, 63⟩,
  ⟨(some 12), .move (.t 0), (some (10, true)), 0, 63⟩,
  ⟨(some 13), .len 0 (.t 12), (some (10, true)), 0, 191⟩,
  ⟨(some 14), .move (.t 1), (some (10, true)), 0, 63⟩,
  ⟨(some 15), .len 0 (.t 14), (some (10, true)), 0, 575⟩,
  ⟨(some 16), .bin .sub (.t 13) (.t 15), (some (10, true)), 0, 1983⟩,
  ⟨(some 17), .strSlice (.t 11) (some (.t 16)) none, (some (10, true)), 0, 4095⟩,
  ⟨(some 18), .move (.t 1), (some (10, true)), 0, 63⟩,
  ⟨(some 19), .bin .eql (.t 17) (.t 18), (some (10, true)), 0, 16383⟩,
  ⟨(some 20), .pick (.t 10) (.t 19) (.c (.bool false)), none, 0, 32767⟩,
  ⟨(some 4), .move (.t 20), none, 0, 65535⟩]
def f66c : ACode :=
  .seq (.region false f66r0 [0, 1] 0)
  (.seq (.region false f66r1 [4] 0)
  (.ret))
def f66 : AFn := ⟨2, 21, [.tmp 4], f66c, 1, none⟩
def f66k : List (Nat × List Nat) := [(0, [0, 1]), (1, [4])]
def f66v : List Nat := []

/-! 78: mortise/token.escaped$1, parameters [5], results [4] -/
def f78r0 : List AOper := [
  ⟨(some 2), .move (.c (.bool false)), none, 0, 0⟩]
def f78r1 : List AOper := [
  ⟨(some 6), .move (.t 0), none, 0, 0⟩,
  ⟨(some 7), .call (.c (.fn 63 [] [])) [(.t 6)], none, 0, 1⟩,
  ⟨(some 5), .move (.t 7), none, 0, 3⟩,
  ⟨(some 8), .extract (.t 5) 0, none, 0, 7⟩,
  ⟨(some 9), .extract (.t 5) 1, none, 0, 7⟩,
  ⟨(some 3), .move (.t 8), none, 0, 15⟩,
  ⟨(some 4), .move (.t 9), none, 0, 63⟩]
def f78r2 : List AOper := [
  ⟨(some 10), .move (.t 4), none, 0, 0⟩,
  ⟨(some 2), .move (.t 10), none, 0, 1⟩]
def f78c : ACode :=
  .seq (.region false f78r0 [0] 0)
  (.seq (.region false f78r1 [4] 0)
  (.seq (.region false f78r2 [2] 0)
  (.ret)))
def f78 : AFn := ⟨1, 11, [.tmp 2], f78c, 1, none⟩
def f78k : List (Nat × List Nat) := [(0, [0]), (1, [4]), (2, [2])]
def f78v : List Nat := []

/-! 79: mortise/token.octal, parameters [5], results [4] -/
def f79r0 : List AOper := [
  ⟨(some 2), .move (.c (.bool false)), none, 0, 0⟩]
def f79r1 : List AOper := [
  ⟨(some 3), .move (.t 0), none, 0, 0⟩,
  ⟨(some 4), .bin .geq (.t 3) (.c (.int .u8 48)), none, 0, 1⟩,
  ⟨(some 5), .move (.t 4), none, 0, 3⟩,
  ⟨(some 6), .move (.t 0), (some (5, true)), 0, 7⟩,
  ⟨(some 7), .bin .leq (.t 6) (.c (.int .u8 55)), (some (5, true)), 0, 15⟩,
  ⟨(some 8), .pick (.t 5) (.t 7) (.c (.bool false)), none, 0, 31⟩,
  ⟨(some 2), .move (.t 8), none, 0, 63⟩]
def f79c : ACode :=
  .seq (.region false f79r0 [0] 0)
  (.seq (.region false f79r1 [2] 0)
  (.ret))
def f79 : AFn := ⟨1, 9, [.tmp 2], f79c, 1, none⟩
def f79k : List (Nat × List Nat) := [(0, [0]), (1, [2])]
def f79v : List Nat := []

end Go.Proofs.YtmpdpjkblcdfkaaDoor
