/- The seat's functions as the machine's, part 0. Printed by a program. -/
import Derived.Test.YtjggeonachlebaaDoorGlob
namespace Go.Proofs.YtjggeonachlebaaDoor
open Go.AM
set_option maxRecDepth 100000
/-! 3: mortise/mortiselaw05.LayoutNobody, parameters [3, 9, 22], results [4] -/
def f3r0 : List AOper := [
  ⟨(some 6), .move (.c (.bool false)), none, 0, 0⟩]
def f3r1 : List AOper := [
  ⟨(some 7), .move (.c .nilp), none, 0, 0⟩]
def f3r2 : List AOper := [
  ⟨(some 8), .move (.t 7), none, 0, 0⟩,
  ⟨(some 9), .move (.t 0), none, 0, 0⟩,
  ⟨(some 10), .move (.t 1), none, 0, 0⟩,
  ⟨(some 11), .move (.t 2), none, 0, 0⟩,
  ⟨(some 12), .call (.c (.fn 4 [] [])) [(.t 8), (.t 9), (.t 10), (.t 11)], none, 0, 15⟩,
  ⟨(some 13), .move (.t 12), none, 0, 31⟩,
  ⟨(some 14), .build [(.is [] .nil), .nilm] [], (some (13, true)), 0, 63⟩,
  ⟨(some 15), .box false (.t 14), (some (13, true)), 0, 127⟩,
  ⟨(some 16), .move (.t 0), (some (13, true)), 1, 63⟩,
  ⟨(some 17), .move (.t 1), (some (13, true)), 1, 63⟩,
  ⟨(some 18), .move (.t 2), (some (13, true)), 1, 63⟩,
  ⟨(some 19), .call (.c (.fn 4 [] [])) [(.t 15), (.t 16), (.t 17), (.t 18)], (some (13, true)), 1, 2047⟩,
  ⟨(some 20), .pick (.t 13) (.t 19) (.c (.bool false)), none, 1, 4095⟩,
  ⟨(some 21), .move (.t 20), none, 1, 8191⟩,
  ⟨(some 22), .call (.c (.fn 5 [] [])) [], (some (21, true)), 1, 16383⟩,
  ⟨(some 23), .pick (.t 21) (.t 22) (.c (.bool false)), none, 1, 32767⟩,
  ⟨(some 6), .move (.t 23), none, 1, 65535⟩]
def f3c : ACode :=
  .seq (.region false f3r0 [0, 1, 2] 0)
  (.seq (.region false f3r1 [0, 1, 2, 7] 0)
  (.seq (.region false f3r2 [6] 1)
  (.ret)))
def f3 : AFn := ⟨3, 24, [.tmp 6], f3c, 1, none⟩
def f3k : List (Nat × List Nat) := [(0, [0, 1, 2]), (1, [0, 1, 2, 7]), (2, [6])]
def f3v : List Nat := []

/-! 4: mortise/mortiselaw05.nobody, parameters [23, 3, 9, 22], results [4] -/
def f4r0 : List AOper := [
  ⟨(some 8), .move (.c (.bool false)), none, 0, 0⟩]
def f4r1 : List AOper := [
  ⟨(some 24), .move (.t 0), none, 0, 0⟩,
  ⟨(some 25), .move (.t 1), none, 0, 0⟩,
  ⟨(some 26), .call (.c (.fn 6 [] [])) [(.t 24), (.t 25)], none, 0, 3⟩,
  ⟨(some 23), .move (.t 26), none, 0, 7⟩,
  ⟨(some 27), .extract (.t 23) 0, none, 0, 15⟩,
  ⟨(some 28), .extract (.t 23) 1, none, 0, 15⟩,
  ⟨(some 9), .move (.t 27), none, 0, 31⟩,
  ⟨(some 10), .move (.t 28), none, 0, 127⟩]
def f4r2 : List AOper := [
  ⟨(some 30), .move (.t 0), none, 0, 0⟩,
  ⟨(some 31), .move (.t 1), none, 0, 0⟩,
  ⟨(some 32), .call (.c (.fn 7 [] [])) [(.t 30), (.t 31)], none, 0, 3⟩,
  ⟨(some 29), .move (.t 32), none, 0, 7⟩,
  ⟨(some 33), .extract (.t 29) 0, none, 0, 15⟩,
  ⟨(some 34), .extract (.t 29) 1, none, 0, 15⟩,
  ⟨(some 11), .move (.t 33), none, 0, 31⟩,
  ⟨(some 12), .move (.t 34), none, 0, 127⟩]
def f4r3 : List AOper := [
  ⟨(some 36), .move (.t 0), none, 0, 0⟩,
  ⟨(some 37), .move (.t 1), none, 0, 0⟩,
  ⟨(some 38), .call (.c (.fn 8 [] [])) [(.t 36), (.t 37)], none, 0, 3⟩,
  ⟨(some 35), .move (.t 38), none, 0, 7⟩,
  ⟨(some 39), .extract (.t 35) 0, none, 0, 15⟩,
  ⟨(some 40), .extract (.t 35) 1, none, 0, 15⟩,
  ⟨(some 13), .move (.t 39), none, 0, 31⟩,
  ⟨(some 14), .move (.t 40), none, 0, 127⟩]
def f4r4 : List AOper := [
  ⟨(some 42), .move (.t 0), none, 0, 0⟩,
  ⟨(some 43), .move (.t 1), none, 0, 0⟩,
  ⟨(some 44), .move (.t 2), none, 0, 0⟩,
  ⟨(some 45), .call (.c (.fn 9 [] [])) [(.t 42), (.t 43), (.t 44)], none, 0, 7⟩,
  ⟨(some 41), .move (.t 45), none, 0, 15⟩,
  ⟨(some 46), .extract (.t 41) 0, none, 0, 31⟩,
  ⟨(some 47), .extract (.t 41) 1, none, 0, 31⟩,
  ⟨(some 48), .extract (.t 41) 2, none, 0, 31⟩,
  ⟨(some 15), .alloc false (List.replicate 5 (.int .i64 0)), none, 0, 0⟩,
  ⟨none, .store 5 (.t 15) (.t 46), none, 1, 319⟩,
  ⟨(some 16), .move (.t 47), none, 1, 895⟩,
  ⟨(some 17), .move (.t 48), none, 1, 2047⟩]
def f4r5 : List AOper := [
  ⟨(some 50), .move (.t 0), none, 0, 0⟩,
  ⟨(some 51), .move (.t 1), none, 0, 0⟩,
  ⟨(some 52), .move (.t 3), none, 0, 0⟩,
  ⟨(some 53), .call (.c (.fn 10 [] [])) [(.t 50), (.t 51), (.t 52)], none, 0, 7⟩,
  ⟨(some 49), .move (.t 53), none, 0, 15⟩,
  ⟨(some 54), .extract (.t 49) 0, none, 0, 31⟩,
  ⟨(some 55), .extract (.t 49) 1, none, 0, 31⟩,
  ⟨(some 18), .alloc false (List.replicate 5 (.int .i64 0)), none, 0, 0⟩,
  ⟨none, .store 5 (.t 18) (.t 54), none, 1, 191⟩,
  ⟨(some 19), .move (.t 55), none, 1, 511⟩]
def f4r6 : List AOper := [
  ⟨(some 57), .move (.t 0), none, 0, 0⟩,
  ⟨(some 58), .move (.t 1), none, 0, 0⟩,
  ⟨(some 59), .call (.c (.fn 11 [] [])) [(.t 57), (.t 58)], none, 0, 3⟩,
  ⟨(some 56), .move (.t 59), none, 0, 7⟩,
  ⟨(some 60), .extract (.t 56) 0, none, 0, 15⟩,
  ⟨(some 61), .extract (.t 56) 1, none, 0, 15⟩,
  ⟨(some 20), .move (.t 60), none, 0, 31⟩,
  ⟨(some 21), .move (.t 61), none, 0, 127⟩]
def f4r7 : List AOper := [
  ⟨(some 22), .move (.c (.int .i64 1)), none, 0, 0⟩]
def f4r8 : List AOper := [
  ⟨(some 62), .move (.t 9), none, 0, 0⟩,
  ⟨(some 63), .bin .eql (.t 62) (.c (.int .i64 0)), none, 0, 1⟩,
  ⟨(some 64), .move (.t 63), none, 0, 3⟩,
  ⟨(some 65), .move (.t 11), (some (64, true)), 0, 7⟩,
  ⟨(some 66), .bin .eql (.t 65) (.c (.int .i64 0)), (some (64, true)), 0, 15⟩,
  ⟨(some 67), .pick (.t 64) (.t 66) (.c (.bool false)), none, 0, 31⟩,
  ⟨(some 68), .move (.t 67), none, 0, 63⟩,
  ⟨(some 69), .move (.t 13), (some (68, true)), 0, 127⟩,
  ⟨(some 70), .len 1 (.t 69), (some (68, true)), 0, 255⟩,
  ⟨(some 71), .bin .eql (.t 70) (.c (.int .i64 0)), (some (68, true)), 0, 511⟩,
  ⟨(some 72), .pick (.t 68) (.t 71) (.c (.bool false)), none, 0, 1023⟩,
  ⟨(some 73), .move (.t 72), none, 0, 2047⟩,
  ⟨(some 74), .load true 5 (.t 15), (some (73, true)), 0, 4095⟩,
  ⟨(some 75), .build (List.replicate 5 (.int .i64 0)) [], (some (73, true)), 0, 4095⟩,
  ⟨(some 76), .eq false (.agg [.int .i64, .int .i64, .int .i64, .int .i64, .int .i64]) (.t 74) (.t 75), (some (73, true)), 0, 16383⟩,
  ⟨(some 77), .pick (.t 73) (.t 76) (.c (.bool false)), none, 0, 32767⟩,
  ⟨(some 78), .move (.t 77), none, 0, 65535⟩,
  ⟨(some 79), .move (.t 16), (some (78, true)), 0, 131071⟩,
  ⟨(some 80), .un .not (.t 79), (some (78, true)), 0, 262143⟩,
  ⟨(some 81), .pick (.t 78) (.t 80) (.c (.bool false)), none, 0, 524287⟩,
  ⟨(some 82), .move (.t 81), none, 0, 1048575⟩,
  ⟨(some 83), .load true 5 (.t 18), (some (82, true)), 0, 2097151⟩,
  ⟨(some 84), .build (List.replicate 5 (.int .i64 0)) [], (some (82, true)), 0, 2097151⟩,
  ⟨(some 85), .eq false (.agg [.int .i64, .int .i64, .int .i64, .int .i64, .int .i64]) (.t 83) (.t 84), (some (82, true)), 0, 8388607⟩,
  ⟨(some 86), .pick (.t 82) (.t 85) (.c (.bool false)), none, 0, 16777215⟩,
  ⟨(some 87), .move (.t 86), none, 0, 33554431⟩,
  ⟨(some 88), .move (.t 20), (some (87, true)), 0, 67108863⟩,
  ⟨(some 89), .len 1 (.t 88), (some (87, true)), 0, 134217727⟩,
  ⟨(some 90), .bin .eql (.t 89) (.c (.int .i64 0)), (some (87, true)), 0, 268435455⟩,
  ⟨(some 91), .pick (.t 87) (.t 90) (.c (.bool false)), none, 0, 536870911⟩,
  ⟨(some 92), .move (.t 91), none, 0, 1073741823⟩,
  ⟨(some 93), .move (.t 10), (some (92, true)), 0, 2147483647⟩,
  ⟨(some 94), .move (.t 22), (some (92, true)), 0, 2147483647⟩,
  ⟨(some 95), .bin .eql (.t 93) (.t 94), (some (92, true)), 0, 8589934591⟩,
  ⟨(some 96), .pick (.t 92) (.t 95) (.c (.bool false)), none, 0, 17179869183⟩,
  ⟨(some 97), .move (.t 96), none, 0, 34359738367⟩,
  ⟨(some 98), .move (.t 12), (some (97, true)), 0, 68719476735⟩,
  ⟨(some 99), .move (.t 22), (some (97, true)), 0, 68719476735⟩,
  ⟨(some 100), .bin .eql (.t 98) (.t 99), (some (97, true)), 0, 274877906943⟩,
  ⟨(some 101), .pick (.t 97) (.t 100) (.c (.bool false)), none, 0, 549755813887⟩,
  ⟨(some 102), .move (.t 101), none, 0, 1099511627775⟩,
  ⟨(some 103), .move (.t 14), (some (102, true)), 0, 2199023255551⟩,
  ⟨(some 104), .move (.t 22), (some (102, true)), 0, 2199023255551⟩,
  ⟨(some 105), .bin .eql (.t 103) (.t 104), (some (102, true)), 0, 8796093022207⟩,
  ⟨(some 106), .pick (.t 102) (.t 105) (.c (.bool false)), none, 0, 17592186044415⟩,
  ⟨(some 107), .move (.t 106), none, 0, 35184372088831⟩,
  ⟨(some 108), .move (.t 17), (some (107, true)), 0, 70368744177663⟩,
  ⟨(some 109), .move (.t 22), (some (107, true)), 0, 70368744177663⟩,
  ⟨(some 110), .bin .eql (.t 108) (.t 109), (some (107, true)), 0, 281474976710655⟩,
  ⟨(some 111), .pick (.t 107) (.t 110) (.c (.bool false)), none, 0, 562949953421311⟩,
  ⟨(some 112), .move (.t 111), none, 0, 1125899906842623⟩,
  ⟨(some 113), .move (.t 19), (some (112, true)), 0, 2251799813685247⟩,
  ⟨(some 114), .move (.t 22), (some (112, true)), 0, 2251799813685247⟩,
  ⟨(some 115), .bin .eql (.t 113) (.t 114), (some (112, true)), 0, 9007199254740991⟩,
  ⟨(some 116), .pick (.t 112) (.t 115) (.c (.bool false)), none, 0, 18014398509481983⟩,
  ⟨(some 117), .move (.t 116), none, 0, 36028797018963967⟩,
  ⟨(some 118), .move (.t 21), (some (117, true)), 0, 72057594037927935⟩,
  ⟨(some 119), .move (.t 22), (some (117, true)), 0, 72057594037927935⟩,
  ⟨(some 120), .bin .eql (.t 118) (.t 119), (some (117, true)), 0, 288230376151711743⟩,
  ⟨(some 121), .pick (.t 117) (.t 120) (.c (.bool false)), none, 0, 576460752303423487⟩,
  ⟨(some 8), .move (.t 121), none, 0, 1152921504606846975⟩]
def f4c : ACode :=
  .seq (.region false f4r0 [0, 1, 2, 3] 0)
  (.seq (.region false f4r1 [0, 1, 2, 3, 9, 10] 0)
  (.seq (.region false f4r2 [0, 1, 2, 3, 9, 10, 11, 12] 0)
  (.seq (.region false f4r3 [0, 1, 2, 3, 9, 10, 11, 12, 13, 14] 0)
  (.seq (.region false f4r4 [0, 1, 3, 9, 10, 11, 12, 13, 14, 15, 16, 17] 1)
  (.seq (.region false f4r5 [0, 1, 9, 10, 11, 12, 13, 14, 15, 16, 17, 18, 19] 1)
  (.seq (.region false f4r6 [9, 10, 11, 12, 13, 14, 15, 16, 17, 18, 19, 20, 21] 0)
  (.seq (.region false f4r7 [9, 10, 11, 12, 13, 14, 15, 16, 17, 18, 19, 20, 21, 22] 0)
  (.seq (.region false f4r8 [8] 0)
  (.ret)))))))))
def f4 : AFn := ⟨4, 122, [.tmp 8], f4c, 1, none⟩
def f4k : List (Nat × List Nat) := [(0, [0, 1, 2, 3]), (1, [0, 1, 2, 3, 9, 10]), (2, [0, 1, 2, 3, 9, 10, 11, 12]), (3, [0, 1, 2, 3, 9, 10, 11, 12, 13, 14]), (4, [0, 1, 3, 9, 10, 11, 12, 13, 14, 15, 16, 17]), (5, [0, 1, 9, 10, 11, 12, 13, 14, 15, 16, 17, 18, 19]), (6, [9, 10, 11, 12, 13, 14, 15, 16, 17, 18, 19, 20, 21]), (7, [9, 10, 11, 12, 13, 14, 15, 16, 17, 18, 19, 20, 21, 22]), (8, [8])]
def f4v : List Nat := []

/-! 5: mortise/mortiselaw05.heads, parameters [], results [4] -/
def f5r0 : List AOper := [
  ⟨(some 0), .move (.c (.bool false)), none, 0, 0⟩]
def f5r1 : List AOper := [
  ⟨(some 26), .call (.c (.fn 12 [] [])) [], none, 0, 0⟩,
  ⟨(some 1), .move (.t 26), none, 0, 1⟩]
def f5r2 : List AOper := [
  ⟨(some 28), .move (.t 1), none, 0, 0⟩,
  ⟨(some 29), .call (.c (.fn 13 [] [])) [(.t 28), (.c (.str [83]))], none, 0, 1⟩,
  ⟨(some 27), .move (.t 29), none, 0, 3⟩,
  ⟨(some 30), .extract (.t 27) 0, none, 0, 7⟩,
  ⟨(some 31), .extract (.t 27) 1, none, 0, 7⟩,
  ⟨(some 2), .move (.t 30), none, 0, 15⟩,
  ⟨(some 3), .move (.t 31), none, 0, 63⟩]
def f5r3 : List AOper := [
  ⟨(some 32), .move (.t 1), none, 0, 0⟩,
  ⟨(some 33), .move (.t 2), none, 0, 0⟩,
  ⟨(some 34), .build [(.str []), (.int .i64 0), (.int .i64 0)] [(0, 1, (.c (.str [99]))), (1, 1, (.c (.int .i64 2))), (2, 1, (.c (.int .i64 (-1))))], none, 0, 0⟩,
  ⟨(some 35), .build [(.str []), (.int .i64 0), (.int .i64 0)] [(0, 1, (.c (.str [105]))), (1, 1, (.c (.int .i64 7))), (2, 1, (.c (.int .i64 (-1))))], none, 0, 0⟩,
  ⟨(some 36), .build [(.str []), (.int .i64 0), (.int .i64 0)] [(0, 1, (.c (.str [115]))), (1, 1, (.c (.int .i64 5))), (2, 1, (.c (.int .i64 (-1))))], none, 0, 0⟩,
  ⟨(some 37), .buildSlice true 3 3 [(.str []), (.int .i64 0), (.int .i64 0), (.str []), (.int .i64 0), (.int .i64 0), (.str []), (.int .i64 0), (.int .i64 0)] [(0, 3, (.t 34)), (3, 3, (.t 35)), (6, 3, (.t 36))], none, 0, 28⟩,
  ⟨(some 38), .call (.c (.fn 14 [] [])) [(.t 32), (.t 33), (.t 37)], none, 0, 63⟩,
  ⟨(some 4), .move (.t 38), none, 0, 127⟩]
def f5r4 : List AOper := [
  ⟨(some 40), .move (.t 1), none, 0, 0⟩,
  ⟨(some 41), .move (.t 2), none, 0, 0⟩,
  ⟨(some 42), .call (.c (.fn 6 [] [])) [(.t 40), (.t 41)], none, 0, 3⟩,
  ⟨(some 39), .move (.t 42), none, 0, 7⟩,
  ⟨(some 43), .extract (.t 39) 0, none, 0, 15⟩,
  ⟨(some 44), .extract (.t 39) 1, none, 0, 15⟩,
  ⟨(some 5), .move (.t 43), none, 0, 31⟩,
  ⟨(some 6), .move (.t 44), none, 0, 127⟩]
def f5r5 : List AOper := [
  ⟨(some 46), .move (.t 1), none, 0, 0⟩,
  ⟨(some 47), .move (.t 2), none, 0, 0⟩,
  ⟨(some 48), .call (.c (.fn 7 [] [])) [(.t 46), (.t 47)], none, 0, 3⟩,
  ⟨(some 45), .move (.t 48), none, 0, 7⟩,
  ⟨(some 49), .extract (.t 45) 0, none, 0, 15⟩,
  ⟨(some 50), .extract (.t 45) 1, none, 0, 15⟩,
  ⟨(some 7), .move (.t 49), none, 0, 31⟩,
  ⟨(some 8), .move (.t 50), none, 0, 127⟩]
def f5r6 : List AOper := [
  ⟨(some 52), .move (.t 1), none, 0, 0⟩,
  ⟨(some 53), .move (.t 2), none, 0, 0⟩,
  ⟨(some 54), .call (.c (.fn 8 [] [])) [(.t 52), (.t 53)], none, 0, 3⟩,
  ⟨(some 51), .move (.t 54), none, 0, 7⟩,
  ⟨(some 55), .extract (.t 51) 0, none, 0, 15⟩,
  ⟨(some 56), .extract (.t 51) 1, none, 0, 15⟩,
  ⟨(some 9), .move (.t 55), none, 0, 31⟩,
  ⟨(some 10), .move (.t 56), none, 0, 127⟩]
def f5r7 : List AOper := [
  ⟨(some 58), .move (.t 1), none, 0, 0⟩,
  ⟨(some 59), .move (.t 2), none, 0, 0⟩,
  ⟨(some 60), .call (.c (.fn 11 [] [])) [(.t 58), (.t 59)], none, 0, 3⟩,
  ⟨(some 57), .move (.t 60), none, 0, 7⟩,
  ⟨(some 61), .extract (.t 57) 0, none, 0, 15⟩,
  ⟨(some 62), .extract (.t 57) 1, none, 0, 15⟩,
  ⟨(some 11), .move (.t 61), none, 0, 31⟩,
  ⟨(some 12), .move (.t 62), none, 0, 127⟩]
def f5r8 : List AOper := [
  ⟨(some 64), .move (.t 1), none, 0, 0⟩,
  ⟨(some 65), .move (.t 2), none, 0, 0⟩,
  ⟨(some 66), .call (.c (.fn 9 [] [])) [(.t 64), (.t 65), (.c (.str [115]))], none, 0, 3⟩,
  ⟨(some 63), .move (.t 66), none, 0, 7⟩,
  ⟨(some 67), .extract (.t 63) 0, none, 0, 15⟩,
  ⟨(some 68), .extract (.t 63) 1, none, 0, 15⟩,
  ⟨(some 69), .extract (.t 63) 2, none, 0, 15⟩,
  ⟨(some 13), .alloc false (List.replicate 5 (.int .i64 0)), none, 0, 0⟩,
  ⟨none, .store 5 (.t 13) (.t 67), none, 1, 159⟩,
  ⟨(some 14), .move (.t 68), none, 1, 447⟩,
  ⟨(some 15), .move (.t 69), none, 1, 1023⟩]
def f5r9 : List AOper := [
  ⟨(some 71), .move (.t 1), none, 0, 0⟩,
  ⟨(some 72), .call (.c (.fn 13 [] [])) [(.t 71), (.c (.str [66]))], none, 0, 1⟩,
  ⟨(some 70), .move (.t 72), none, 0, 3⟩,
  ⟨(some 73), .extract (.t 70) 0, none, 0, 7⟩,
  ⟨(some 74), .extract (.t 70) 1, none, 0, 7⟩,
  ⟨(some 16), .move (.t 73), none, 0, 15⟩,
  ⟨(some 17), .move (.t 74), none, 0, 63⟩]
def f5r10 : List AOper := [
  ⟨(some 75), .move (.t 1), none, 0, 0⟩,
  ⟨(some 76), .move (.t 16), none, 0, 0⟩,
  ⟨(some 77), .build [(.str []), (.int .i64 0), (.int .i64 0)] [(0, 1, (.c (.str [97]))), (1, 1, (.c (.int .i64 7))), (2, 1, (.c (.int .i64 3)))], none, 0, 0⟩,
  ⟨(some 78), .build [(.str []), (.int .i64 0), (.int .i64 0)] [(0, 1, (.c (.str [98]))), (1, 1, (.c (.int .i64 7))), (2, 1, (.c (.int .i64 30)))], none, 0, 0⟩,
  ⟨(some 79), .build [(.str []), (.int .i64 0), (.int .i64 0)] [(0, 1, (.c (.str [99]))), (1, 1, (.c (.int .i64 2))), (2, 1, (.c (.int .i64 (-1))))], none, 0, 0⟩,
  ⟨(some 80), .buildSlice true 3 3 [(.str []), (.int .i64 0), (.int .i64 0), (.str []), (.int .i64 0), (.int .i64 0), (.str []), (.int .i64 0), (.int .i64 0)] [(0, 3, (.t 77)), (3, 3, (.t 78)), (6, 3, (.t 79))], none, 0, 28⟩,
  ⟨(some 81), .call (.c (.fn 14 [] [])) [(.t 75), (.t 76), (.t 80)], none, 0, 63⟩]
def f5r11 : List AOper := [
  ⟨(some 83), .move (.t 1), none, 0, 0⟩,
  ⟨(some 84), .move (.t 16), none, 0, 0⟩,
  ⟨(some 85), .call (.c (.fn 9 [] [])) [(.t 83), (.t 84), (.c (.str [98]))], none, 0, 3⟩,
  ⟨(some 82), .move (.t 85), none, 0, 7⟩,
  ⟨(some 86), .extract (.t 82) 0, none, 0, 15⟩,
  ⟨(some 87), .extract (.t 82) 1, none, 0, 15⟩,
  ⟨(some 88), .extract (.t 82) 2, none, 0, 15⟩,
  ⟨(some 18), .alloc false (List.replicate 5 (.int .i64 0)), none, 0, 0⟩,
  ⟨none, .store 5 (.t 18) (.t 86), none, 1, 159⟩,
  ⟨(some 19), .move (.t 87), none, 1, 447⟩,
  ⟨(some 20), .move (.t 88), none, 1, 1023⟩]
def f5r12 : List AOper := [
  ⟨(some 90), .move (.t 1), none, 0, 0⟩,
  ⟨(some 91), .move (.t 16), none, 0, 0⟩,
  ⟨(some 92), .call (.c (.fn 9 [] [])) [(.t 90), (.t 91), (.c (.str [99]))], none, 0, 3⟩,
  ⟨(some 89), .move (.t 92), none, 0, 7⟩,
  ⟨(some 93), .extract (.t 89) 0, none, 0, 15⟩,
  ⟨(some 94), .extract (.t 89) 1, none, 0, 15⟩,
  ⟨(some 95), .extract (.t 89) 2, none, 0, 15⟩,
  ⟨(some 21), .alloc false (List.replicate 5 (.int .i64 0)), none, 0, 0⟩,
  ⟨none, .store 5 (.t 21) (.t 93), none, 1, 159⟩,
  ⟨(some 22), .move (.t 94), none, 1, 447⟩,
  ⟨(some 23), .move (.t 95), none, 1, 1023⟩]
def f5r13 : List AOper := [
  ⟨(some 97), .move (.t 1), none, 0, 0⟩,
  ⟨(some 98), .call (.c (.fn 6 [] [])) [(.t 97), (.c (.int .i64 0))], none, 0, 1⟩,
  ⟨(some 96), .move (.t 98), none, 0, 3⟩,
  ⟨(some 99), .extract (.t 96) 0, none, 0, 7⟩,
  ⟨(some 100), .extract (.t 96) 1, none, 0, 7⟩,
  ⟨(some 24), .move (.t 99), none, 0, 15⟩,
  ⟨(some 25), .move (.t 100), none, 0, 63⟩]
def f5r14 : List AOper := [
  ⟨(some 101), .move (.t 4), none, 0, 0⟩,
  ⟨(some 102), .bin .neq (.t 101) (.c (.int .i64 0)), none, 0, 1⟩,
  ⟨(some 103), .move (.t 102), none, 0, 3⟩,
  ⟨(some 104), .move (.t 6), (some (103, false)), 0, 7⟩,
  ⟨(some 105), .bin .neq (.t 104) (.c (.int .i64 0)), (some (103, false)), 0, 15⟩,
  ⟨(some 106), .pick (.t 103) (.c (.bool true)) (.t 105), none, 0, 31⟩,
  ⟨(some 107), .move (.t 106), none, 0, 63⟩,
  ⟨(some 108), .move (.t 8), (some (107, false)), 0, 127⟩,
  ⟨(some 109), .bin .neq (.t 108) (.c (.int .i64 0)), (some (107, false)), 0, 255⟩,
  ⟨(some 110), .pick (.t 107) (.c (.bool true)) (.t 109), none, 0, 511⟩,
  ⟨(some 111), .move (.t 110), none, 0, 1023⟩,
  ⟨(some 112), .move (.t 10), (some (111, false)), 0, 2047⟩,
  ⟨(some 113), .bin .neq (.t 112) (.c (.int .i64 0)), (some (111, false)), 0, 4095⟩,
  ⟨(some 114), .pick (.t 111) (.c (.bool true)) (.t 113), none, 0, 8191⟩,
  ⟨(some 115), .move (.t 114), none, 0, 16383⟩,
  ⟨(some 116), .move (.t 12), (some (115, false)), 0, 32767⟩,
  ⟨(some 117), .bin .neq (.t 116) (.c (.int .i64 0)), (some (115, false)), 0, 65535⟩,
  ⟨(some 118), .pick (.t 115) (.c (.bool true)) (.t 117), none, 0, 131071⟩,
  ⟨(some 119), .move (.t 118), none, 0, 262143⟩,
  ⟨(some 120), .move (.t 15), (some (119, false)), 0, 524287⟩,
  ⟨(some 121), .bin .neq (.t 120) (.c (.int .i64 0)), (some (119, false)), 0, 1048575⟩,
  ⟨(some 122), .pick (.t 119) (.c (.bool true)) (.t 121), none, 0, 2097151⟩,
  ⟨(some 123), .move (.t 122), none, 0, 4194303⟩,
  ⟨(some 124), .move (.t 20), (some (123, false)), 0, 8388607⟩,
  ⟨(some 125), .bin .neq (.t 124) (.c (.int .i64 0)), (some (123, false)), 0, 16777215⟩,
  ⟨(some 126), .pick (.t 123) (.c (.bool true)) (.t 125), none, 0, 33554431⟩,
  ⟨(some 127), .move (.t 126), none, 0, 67108863⟩,
  ⟨(some 128), .move (.t 23), (some (127, false)), 0, 134217727⟩,
  ⟨(some 129), .bin .neq (.t 128) (.c (.int .i64 0)), (some (127, false)), 0, 268435455⟩,
  ⟨(some 130), .pick (.t 127) (.c (.bool true)) (.t 129), none, 0, 536870911⟩,
  ⟨(some 131), .move (.t 130), none, 0, 1073741823⟩,
  ⟨(some 132), .move (.t 25), (some (131, false)), 0, 2147483647⟩,
  ⟨(some 133), .bin .neq (.t 132) (.c (.int .i64 50)), (some (131, false)), 0, 4294967295⟩,
  ⟨(some 134), .pick (.t 131) (.c (.bool true)) (.t 133), none, 0, 8589934591⟩,
  ⟨(some 135), .move (.t 134), none, 0, 17179869183⟩,
  ⟨(some 136), .move (.t 9), (some (135, false)), 0, 34359738367⟩,
  ⟨(some 137), .len 1 (.t 136), (some (135, false)), 0, 68719476735⟩,
  ⟨(some 138), .bin .neq (.t 137) (.c (.int .i64 3)), (some (135, false)), 0, 137438953471⟩,
  ⟨(some 139), .pick (.t 135) (.c (.bool true)) (.t 138), none, 0, 274877906943⟩,
  ⟨(some 140), .move (.t 139), none, 0, 549755813887⟩,
  ⟨(some 141), .move (.t 11), (some (140, false)), 0, 1099511627775⟩,
  ⟨(some 142), .len 1 (.t 141), (some (140, false)), 0, 2199023255551⟩,
  ⟨(some 143), .bin .neq (.t 142) (.c (.int .i64 2)), (some (140, false)), 0, 4398046511103⟩,
  ⟨(some 144), .pick (.t 140) (.c (.bool true)) (.t 143), none, 0, 8796093022207⟩]
def f5r15 : List AOper := [
  ⟨(some 0), .move (.c (.bool false)), none, 0, 0⟩]
def f5r16 : List AOper := [
  ⟨(some 145), .move (.t 5), none, 0, 0⟩,
  ⟨(some 146), .bin .eql (.t 145) (.c (.int .i64 12)), none, 0, 1⟩,
  ⟨(some 147), .move (.t 146), none, 0, 3⟩,
  ⟨(some 148), .move (.t 7), (some (147, true)), 0, 7⟩,
  ⟨(some 149), .bin .eql (.t 148) (.c (.int .i64 4)), (some (147, true)), 0, 15⟩,
  ⟨(some 150), .pick (.t 147) (.t 149) (.c (.bool false)), none, 0, 31⟩,
  ⟨(some 151), .move (.t 150), none, 0, 63⟩,
  ⟨(some 152), .move (.t 9), (some (151, true)), 0, 127⟩,
  ⟨(some 153), .idxAddr 5 (.t 152) (.c (.int .i64 1)), (some (151, true)), 0, 255⟩,
  ⟨(some 154), .fieldAddr 2 (.t 153), (some (151, true)), 0, 511⟩,
  ⟨(some 155), .load false 1 (.t 154), (some (151, true)), 0, 1023⟩,
  ⟨(some 156), .bin .eql (.t 155) (.c (.int .i64 4)), (some (151, true)), 0, 2047⟩,
  ⟨(some 157), .pick (.t 151) (.t 156) (.c (.bool false)), none, 0, 4095⟩,
  ⟨(some 158), .move (.t 157), none, 0, 8191⟩,
  ⟨(some 159), .move (.t 11), (some (158, true)), 0, 16383⟩,
  ⟨(some 160), .idxAddr 2 (.t 159) (.c (.int .i64 0)), (some (158, true)), 0, 32767⟩,
  ⟨(some 161), .load true 2 (.t 160), (some (158, true)), 0, 65535⟩,
  ⟨(some 162), .build [(.int .i64 0), (.int .i64 0)] [(0, 1, (.c (.int .i64 8))), (1, 1, (.c (.int .i64 24)))], (some (158, true)), 0, 16383⟩,
  ⟨(some 163), .eq false (.agg [.int .i64, .int .i64]) (.t 161) (.t 162), (some (158, true)), 0, 262143⟩,
  ⟨(some 164), .pick (.t 158) (.t 163) (.c (.bool false)), none, 0, 524287⟩,
  ⟨(some 165), .move (.t 164), none, 0, 1048575⟩,
  ⟨(some 166), .move (.t 11), (some (165, true)), 0, 2097151⟩,
  ⟨(some 167), .idxAddr 2 (.t 166) (.c (.int .i64 1)), (some (165, true)), 0, 4194303⟩,
  ⟨(some 168), .load true 2 (.t 167), (some (165, true)), 0, 8388607⟩,
  ⟨(some 169), .build [(.int .i64 0), (.int .i64 0)] [(0, 1, (.c (.int .i64 80))), (1, 1, (.c (.int .i64 16)))], (some (165, true)), 0, 2097151⟩,
  ⟨(some 170), .eq false (.agg [.int .i64, .int .i64]) (.t 168) (.t 169), (some (165, true)), 0, 33554431⟩,
  ⟨(some 171), .pick (.t 165) (.t 170) (.c (.bool false)), none, 0, 67108863⟩,
  ⟨(some 172), .move (.t 171), none, 0, 134217727⟩,
  ⟨(some 173), .move (.t 14), (some (172, true)), 0, 268435455⟩,
  ⟨(some 174), .pick (.t 172) (.t 173) (.c (.bool false)), none, 0, 536870911⟩,
  ⟨(some 175), .move (.t 174), none, 0, 1073741823⟩,
  ⟨(some 176), .fieldAddr 2 (.t 13), (some (175, true)), 0, 2147483647⟩,
  ⟨(some 177), .load false 1 (.t 176), (some (175, true)), 0, 4294967295⟩,
  ⟨(some 178), .bin .eql (.t 177) (.c (.int .i64 8)), (some (175, true)), 0, 8589934591⟩,
  ⟨(some 179), .pick (.t 175) (.t 178) (.c (.bool false)), none, 0, 17179869183⟩,
  ⟨(some 180), .move (.t 179), none, 0, 34359738367⟩,
  ⟨(some 181), .move (.t 19), (some (180, true)), 0, 68719476735⟩,
  ⟨(some 182), .pick (.t 180) (.t 181) (.c (.bool false)), none, 0, 137438953471⟩,
  ⟨(some 183), .move (.t 182), none, 0, 274877906943⟩,
  ⟨(some 184), .fieldAddr 2 (.t 18), (some (183, true)), 0, 549755813887⟩,
  ⟨(some 185), .load false 1 (.t 184), (some (183, true)), 0, 1099511627775⟩,
  ⟨(some 186), .bin .eql (.t 185) (.c (.int .i64 4)), (some (183, true)), 0, 2199023255551⟩,
  ⟨(some 187), .pick (.t 183) (.t 186) (.c (.bool false)), none, 0, 4398046511103⟩,
  ⟨(some 188), .move (.t 187), none, 0, 8796093022207⟩,
  ⟨(some 189), .fieldAddr 4 (.t 18), (some (188, true)), 0, 17592186044415⟩,
  ⟨(some 190), .load false 1 (.t 189), (some (188, true)), 0, 35184372088831⟩,
  ⟨(some 191), .bin .eql (.t 190) (.c (.int .i64 30)), (some (188, true)), 0, 70368744177663⟩,
  ⟨(some 192), .pick (.t 188) (.t 191) (.c (.bool false)), none, 0, 140737488355327⟩,
  ⟨(some 193), .move (.t 192), none, 0, 281474976710655⟩,
  ⟨(some 194), .move (.t 22), (some (193, true)), 0, 562949953421311⟩,
  ⟨(some 195), .pick (.t 193) (.t 194) (.c (.bool false)), none, 0, 1125899906842623⟩,
  ⟨(some 196), .move (.t 195), none, 0, 2251799813685247⟩,
  ⟨(some 197), .fieldAddr 2 (.t 21), (some (196, true)), 0, 4503599627370495⟩,
  ⟨(some 198), .load false 1 (.t 197), (some (196, true)), 0, 9007199254740991⟩,
  ⟨(some 199), .bin .eql (.t 198) (.c (.int .i64 8)), (some (196, true)), 0, 18014398509481983⟩,
  ⟨(some 200), .pick (.t 196) (.t 199) (.c (.bool false)), none, 0, 36028797018963967⟩,
  ⟨(some 0), .move (.t 200), none, 0, 72057594037927935⟩]
def f5c : ACode :=
  .seq (.region false f5r0 [] 0)
  (.seq (.region false f5r1 [1] 0)
  (.seq (.region false f5r2 [1, 2] 0)
  (.seq (.region false f5r3 [1, 2, 4] 0)
  (.seq (.region false f5r4 [1, 2, 4, 5, 6] 0)
  (.seq (.region false f5r5 [1, 2, 4, 5, 6, 7, 8] 0)
  (.seq (.region false f5r6 [1, 2, 4, 5, 6, 7, 8, 9, 10] 0)
  (.seq (.region false f5r7 [1, 2, 4, 5, 6, 7, 8, 9, 10, 11, 12] 0)
  (.seq (.region false f5r8 [1, 4, 5, 6, 7, 8, 9, 10, 11, 12, 13, 14, 15] 1)
  (.seq (.region false f5r9 [1, 4, 5, 6, 7, 8, 9, 10, 11, 12, 13, 14, 15, 16] 0)
  (.seq (.region false f5r10 [1, 4, 5, 6, 7, 8, 9, 10, 11, 12, 13, 14, 15, 16] 0)
  (.seq (.region false f5r11 [1, 4, 5, 6, 7, 8, 9, 10, 11, 12, 13, 14, 15, 16, 18, 19, 20] 1)
  (.seq (.region false f5r12 [1, 4, 5, 6, 7, 8, 9, 10, 11, 12, 13, 14, 15, 18, 19, 20, 21, 22, 23] 1)
  (.seq (.region false f5r13 [4, 5, 6, 7, 8, 9, 10, 11, 12, 13, 14, 15, 18, 19, 20, 21, 22, 23, 25] 0)
  (.seq (.seq (.region false f5r14 [5, 7, 9, 11, 13, 14, 18, 19, 21, 22, 144] 0)
  (.cond (.t 144)
    (.seq (.region false f5r15 [0] 0)
    (.ret))
    (.skip)))
  (.seq (.region false f5r16 [0] 0)
  (.ret))))))))))))))))
def f5 : AFn := ⟨0, 201, [.tmp 0], f5c, 1, none⟩
def f5k : List (Nat × List Nat) := [(0, []), (1, [1]), (2, [1, 2]), (3, [1, 2, 4]), (4, [1, 2, 4, 5, 6]), (5, [1, 2, 4, 5, 6, 7, 8]), (6, [1, 2, 4, 5, 6, 7, 8, 9, 10]), (7, [1, 2, 4, 5, 6, 7, 8, 9, 10, 11, 12]), (8, [1, 4, 5, 6, 7, 8, 9, 10, 11, 12, 13, 14, 15]), (9, [1, 4, 5, 6, 7, 8, 9, 10, 11, 12, 13, 14, 15, 16]), (10, [1, 4, 5, 6, 7, 8, 9, 10, 11, 12, 13, 14, 15, 16]), (11, [1, 4, 5, 6, 7, 8, 9, 10, 11, 12, 13, 14, 15, 16, 18, 19, 20]), (12, [1, 4, 5, 6, 7, 8, 9, 10, 11, 12, 13, 14, 15, 18, 19, 20, 21, 22, 23]), (13, [4, 5, 6, 7, 8, 9, 10, 11, 12, 13, 14, 15, 18, 19, 20, 21, 22, 23, 25]), (14, [5, 7, 9, 11, 13, 14, 18, 19, 21, 22, 144]), (15, [0]), (16, [0])]
def f5v : List Nat := [80, 37]

/-! 6: mortise/layout.Size, parameters [23, 3], results [3, 31] -/
def f6r0 : List AOper := [
  ⟨(some 4), .move (.c (.int .i64 0)), none, 0, 0⟩,
  ⟨(some 5), .move (.c (.int .i64 0)), none, 0, 1⟩]
def f6r1 : List AOper := [
  ⟨(some 10), .move (.t 0), none, 0, 0⟩,
  ⟨(some 11), .move (.t 1), none, 0, 0⟩,
  ⟨(some 12), .call (.c (.fn 15 [] [])) [(.t 10), (.t 11)], none, 0, 3⟩,
  ⟨(some 9), .move (.t 12), none, 0, 7⟩,
  ⟨(some 13), .extract (.t 9) 0, none, 0, 15⟩,
  ⟨(some 14), .extract (.t 9) 1, none, 0, 15⟩,
  ⟨(some 15), .extract (.t 9) 2, none, 0, 15⟩,
  ⟨(some 7), .alloc false [(.int .i64 0), (.int .i64 0), (.is [] .nil)], none, 0, 0⟩,
  ⟨(some 6), .move (.t 13), none, 1, 159⟩,
  ⟨none, .store 3 (.t 7) (.t 14), none, 1, 447⟩,
  ⟨(some 8), .move (.t 15), none, 1, 1023⟩]
def f6r2 : List AOper := [
  ⟨(some 16), .fieldAddr 0 (.t 7), none, 0, 0⟩,
  ⟨(some 17), .load false 1 (.t 16), none, 0, 1⟩,
  ⟨(some 18), .move (.t 8), none, 0, 0⟩,
  ⟨(some 4), .move (.t 17), none, 0, 3⟩,
  ⟨(some 5), .move (.t 18), none, 0, 15⟩]
def f6c : ACode :=
  .seq (.region false f6r0 [0, 1] 0)
  (.seq (.region false f6r1 [7, 8] 1)
  (.seq (.region false f6r2 [4, 5] 0)
  (.ret)))
def f6 : AFn := ⟨2, 19, [.tmp 4, .tmp 5], f6c, 1, none⟩
def f6k : List (Nat × List Nat) := [(0, [0, 1]), (1, [7, 8]), (2, [4, 5])]
def f6v : List Nat := []

/-! 7: mortise/layout.Align, parameters [23, 3], results [3, 31] -/
def f7r0 : List AOper := [
  ⟨(some 4), .move (.c (.int .i64 0)), none, 0, 0⟩,
  ⟨(some 5), .move (.c (.int .i64 0)), none, 0, 1⟩]
def f7r1 : List AOper := [
  ⟨(some 10), .move (.t 0), none, 0, 0⟩,
  ⟨(some 11), .move (.t 1), none, 0, 0⟩,
  ⟨(some 12), .call (.c (.fn 15 [] [])) [(.t 10), (.t 11)], none, 0, 3⟩,
  ⟨(some 9), .move (.t 12), none, 0, 7⟩,
  ⟨(some 13), .extract (.t 9) 0, none, 0, 15⟩,
  ⟨(some 14), .extract (.t 9) 1, none, 0, 15⟩,
  ⟨(some 15), .extract (.t 9) 2, none, 0, 15⟩,
  ⟨(some 7), .alloc false [(.int .i64 0), (.int .i64 0), (.is [] .nil)], none, 0, 0⟩,
  ⟨(some 6), .move (.t 13), none, 1, 159⟩,
  ⟨none, .store 3 (.t 7) (.t 14), none, 1, 447⟩,
  ⟨(some 8), .move (.t 15), none, 1, 1023⟩]
def f7r2 : List AOper := [
  ⟨(some 16), .fieldAddr 1 (.t 7), none, 0, 0⟩,
  ⟨(some 17), .load false 1 (.t 16), none, 0, 1⟩,
  ⟨(some 18), .move (.t 8), none, 0, 0⟩,
  ⟨(some 4), .move (.t 17), none, 0, 3⟩,
  ⟨(some 5), .move (.t 18), none, 0, 15⟩]
def f7c : ACode :=
  .seq (.region false f7r0 [0, 1] 0)
  (.seq (.region false f7r1 [7, 8] 1)
  (.seq (.region false f7r2 [4, 5] 0)
  (.ret)))
def f7 : AFn := ⟨2, 19, [.tmp 4, .tmp 5], f7c, 1, none⟩
def f7k : List (Nat × List Nat) := [(0, [0, 1]), (1, [7, 8]), (2, [4, 5])]
def f7v : List Nat := []

/-! 8: mortise/layout.Places, parameters [23, 3], results [34, 31] -/
def f8r0 : List AOper := [
  ⟨(some 4), .move (.c (.is [] .nil)), none, 0, 0⟩,
  ⟨(some 5), .move (.c (.int .i64 0)), none, 0, 1⟩]
def f8r1 : List AOper := [
  ⟨(some 10), .move (.t 0), none, 0, 0⟩,
  ⟨(some 11), .move (.t 1), none, 0, 0⟩,
  ⟨(some 12), .call (.c (.fn 15 [] [])) [(.t 10), (.t 11)], none, 0, 3⟩,
  ⟨(some 9), .move (.t 12), none, 0, 7⟩,
  ⟨(some 13), .extract (.t 9) 0, none, 0, 15⟩,
  ⟨(some 14), .extract (.t 9) 1, none, 0, 15⟩,
  ⟨(some 15), .extract (.t 9) 2, none, 0, 15⟩,
  ⟨(some 7), .alloc false [(.int .i64 0), (.int .i64 0), (.is [] .nil)], none, 0, 0⟩,
  ⟨(some 6), .move (.t 13), none, 1, 159⟩,
  ⟨none, .store 3 (.t 7) (.t 14), none, 1, 447⟩,
  ⟨(some 8), .move (.t 15), none, 1, 1023⟩]
def f8r2 : List AOper := [
  ⟨(some 16), .move (.t 8), none, 0, 0⟩,
  ⟨(some 17), .bin .eql (.t 16) (.c (.int .i64 0)), none, 0, 1⟩,
  ⟨(some 18), .move (.t 17), none, 0, 3⟩,
  ⟨(some 19), .move (.t 0), (some (18, true)), 0, 7⟩,
  ⟨(some 20), .move (.t 1), (some (18, true)), 0, 7⟩,
  ⟨(some 21), .call (.c (.fn 16 [] [])) [(.t 19), (.t 20)], (some (18, true)), 0, 31⟩,
  ⟨(some 22), .un .not (.t 21), (some (18, true)), 0, 63⟩,
  ⟨(some 23), .pick (.t 18) (.t 22) (.c (.bool false)), none, 0, 127⟩]
def f8r3 : List AOper := [
  ⟨(some 8), .move (.c (.int .i64 30)), none, 0, 0⟩]
def f8r4 : List AOper := [
  ⟨(some 24), .move (.t 8), none, 0, 0⟩,
  ⟨(some 25), .bin .neq (.t 24) (.c (.int .i64 0)), none, 0, 1⟩]
def f8r5 : List AOper := [
  ⟨(some 26), .move (.t 8), none, 0, 0⟩,
  ⟨(some 4), .move (.c (.is [] .nil)), none, 0, 0⟩,
  ⟨(some 5), .move (.t 26), none, 0, 3⟩]
def f8r6 : List AOper := [
  ⟨(some 27), .fieldAddr 2 (.t 7), none, 0, 0⟩,
  ⟨(some 28), .load false 1 (.t 27), none, 0, 1⟩,
  ⟨(some 4), .move (.t 28), none, 0, 3⟩,
  ⟨(some 5), .move (.c (.int .i64 0)), none, 0, 7⟩]
def f8c : ACode :=
  .seq (.region false f8r0 [0, 1] 0)
  (.seq (.region false f8r1 [0, 1, 7, 8] 1)
  (.seq (.seq (.region false f8r2 [7, 8, 23] 0)
  (.cond (.t 23)
    (.region false f8r3 [7, 8] 0)
    (.skip)))
  (.seq (.seq (.region false f8r4 [7, 8, 25] 0)
  (.cond (.t 25)
    (.seq (.region false f8r5 [4, 5] 0)
    (.ret))
    (.skip)))
  (.seq (.region false f8r6 [4, 5] 0)
  (.ret)))))
def f8 : AFn := ⟨2, 29, [.tmp 4, .tmp 5], f8c, 1, none⟩
def f8k : List (Nat × List Nat) := [(0, [0, 1]), (1, [0, 1, 7, 8]), (2, [7, 8, 23]), (3, [7, 8]), (4, [7, 8, 25]), (5, [4, 5]), (6, [4, 5])]
def f8v : List Nat := []

/-! 9: mortise/layout.Find, parameters [23, 3, 9], results [38, 4, 31] -/
def f9r0 : List AOper := [
  ⟨(some 6), .alloc false (List.replicate 5 (.int .i64 0)), none, 0, 0⟩,
  ⟨(some 7), .move (.c (.bool false)), none, 1, 0⟩,
  ⟨(some 8), .move (.c (.int .i64 0)), none, 1, 2⟩]
def f9r1 : List AOper := [
  ⟨(some 17), .move (.t 0), none, 0, 0⟩,
  ⟨(some 18), .move (.t 1), none, 0, 0⟩,
  ⟨(some 19), .call (.c (.fn 15 [] [])) [(.t 17), (.t 18)], none, 0, 3⟩,
  ⟨(some 16), .move (.t 19), none, 0, 7⟩,
  ⟨(some 20), .extract (.t 16) 0, none, 0, 15⟩,
  ⟨(some 21), .extract (.t 16) 1, none, 0, 15⟩,
  ⟨(some 22), .extract (.t 16) 2, none, 0, 15⟩,
  ⟨(some 10), .alloc false [(.int .i64 0), (.int .i64 0), (.is [] .nil)], none, 0, 0⟩,
  ⟨(some 9), .move (.t 20), none, 1, 159⟩,
  ⟨none, .store 3 (.t 10) (.t 21), none, 1, 447⟩,
  ⟨(some 11), .move (.t 22), none, 1, 1023⟩]
def f9r2 : List AOper := [
  ⟨(some 23), .move (.t 11), none, 0, 0⟩,
  ⟨(some 24), .bin .eql (.t 23) (.c (.int .i64 0)), none, 0, 1⟩,
  ⟨(some 25), .move (.t 24), none, 0, 3⟩,
  ⟨(some 26), .move (.t 0), (some (25, true)), 0, 7⟩,
  ⟨(some 27), .move (.t 1), (some (25, true)), 0, 7⟩,
  ⟨(some 28), .call (.c (.fn 16 [] [])) [(.t 26), (.t 27)], (some (25, true)), 0, 31⟩,
  ⟨(some 29), .un .not (.t 28), (some (25, true)), 0, 63⟩,
  ⟨(some 30), .pick (.t 25) (.t 29) (.c (.bool false)), none, 0, 127⟩]
def f9r3 : List AOper := [
  ⟨(some 11), .move (.c (.int .i64 30)), none, 0, 0⟩]
def f9r4 : List AOper := [
  ⟨(some 31), .move (.t 11), none, 0, 0⟩,
  ⟨(some 32), .bin .neq (.t 31) (.c (.int .i64 0)), none, 0, 1⟩]
def f9r5 : List AOper := [
  ⟨(some 33), .build (List.replicate 5 (.int .i64 0)) [], none, 0, 0⟩,
  ⟨(some 34), .move (.t 11), none, 0, 0⟩,
  ⟨none, .store 5 (.t 6) (.t 33), none, 0, 1⟩,
  ⟨(some 7), .move (.c (.bool false)), none, 0, 5⟩,
  ⟨(some 8), .move (.t 34), none, 0, 15⟩]
def f9r6 : List AOper := [
  ⟨(some 36), .move (.t 0), none, 0, 0⟩,
  ⟨(some 37), .move (.t 1), none, 0, 0⟩,
  ⟨(some 38), .call (.c (.fn 17 [] [])) [(.t 36), (.t 37)], none, 0, 3⟩,
  ⟨(some 35), .move (.t 38), none, 0, 7⟩,
  ⟨(some 39), .extract (.t 35) 0, none, 0, 15⟩,
  ⟨(some 40), .extract (.t 35) 1, none, 0, 15⟩,
  ⟨(some 12), .alloc false [(.int .i64 0), (.int .i64 0), (.int .i64 0), (.str []), (.is [] .nil), (.bool false)], none, 0, 0⟩,
  ⟨none, .store 6 (.t 12) (.t 39), none, 1, 95⟩,
  ⟨(some 13), .move (.t 40), none, 1, 255⟩]
def f9r7 : List AOper := [
  ⟨(some 42), .load true 6 (.t 12), none, 0, 0⟩,
  ⟨(some 43), .load true 3 (.t 10), none, 0, 0⟩,
  ⟨(some 44), .move (.t 2), none, 0, 0⟩,
  ⟨(some 45), .call (.c (.fn 18 [] [])) [(.t 42), (.t 43), (.t 44)], none, 0, 7⟩,
  ⟨(some 41), .move (.t 45), none, 0, 15⟩,
  ⟨(some 46), .extract (.t 41) 0, none, 0, 31⟩,
  ⟨(some 47), .extract (.t 41) 1, none, 0, 31⟩,
  ⟨(some 14), .alloc false (List.replicate 5 (.int .i64 0)), none, 0, 0⟩,
  ⟨none, .store 5 (.t 14) (.t 46), none, 1, 191⟩,
  ⟨(some 15), .move (.t 47), none, 1, 511⟩]
def f9r8 : List AOper := [
  ⟨(some 48), .load true 5 (.t 14), none, 0, 0⟩,
  ⟨(some 49), .move (.t 15), none, 0, 0⟩,
  ⟨none, .store 5 (.t 6) (.t 48), none, 0, 1⟩,
  ⟨(some 7), .move (.t 49), none, 0, 7⟩,
  ⟨(some 8), .move (.c (.int .i64 0)), none, 0, 15⟩]
def f9c : ACode :=
  .seq (.region false f9r0 [0, 1, 2, 6] 1)
  (.seq (.region false f9r1 [0, 1, 2, 6, 10, 11] 1)
  (.seq (.seq (.region false f9r2 [0, 1, 2, 6, 10, 11, 30] 0)
  (.cond (.t 30)
    (.region false f9r3 [0, 1, 2, 6, 10, 11] 0)
    (.skip)))
  (.seq (.seq (.region false f9r4 [0, 1, 2, 6, 10, 11, 32] 0)
  (.cond (.t 32)
    (.seq (.region false f9r5 [6, 7, 8] 0)
    (.ret))
    (.skip)))
  (.seq (.region false f9r6 [2, 6, 10, 12] 1)
  (.seq (.region false f9r7 [6, 14, 15] 1)
  (.seq (.region false f9r8 [6, 7, 8] 0)
  (.ret)))))))
def f9 : AFn := ⟨3, 50, [.cell 6 true 5, .tmp 7, .tmp 8], f9c, 1, none⟩
def f9k : List (Nat × List Nat) := [(0, [0, 1, 2, 6]), (1, [0, 1, 2, 6, 10, 11]), (2, [0, 1, 2, 6, 10, 11, 30]), (3, [0, 1, 2, 6, 10, 11]), (4, [0, 1, 2, 6, 10, 11, 32]), (5, [6, 7, 8]), (6, [2, 6, 10, 12]), (7, [6, 14, 15]), (8, [6, 7, 8])]
def f9v : List Nat := []

/-! 10: mortise/layout.Walk, parameters [23, 3, 22], results [38, 31] -/
def f10r0 : List AOper := [
  ⟨(some 6), .alloc false (List.replicate 5 (.int .i64 0)), none, 0, 0⟩,
  ⟨(some 7), .move (.c (.int .i64 0)), none, 1, 0⟩]
def f10r1 : List AOper := [
  ⟨(some 19), .move (.t 0), none, 0, 0⟩,
  ⟨(some 20), .move (.t 1), none, 0, 0⟩,
  ⟨(some 21), .call (.c (.fn 15 [] [])) [(.t 19), (.t 20)], none, 0, 3⟩,
  ⟨(some 18), .move (.t 21), none, 0, 7⟩,
  ⟨(some 22), .extract (.t 18) 0, none, 0, 15⟩,
  ⟨(some 23), .extract (.t 18) 1, none, 0, 15⟩,
  ⟨(some 24), .extract (.t 18) 2, none, 0, 15⟩,
  ⟨(some 9), .alloc false [(.int .i64 0), (.int .i64 0), (.is [] .nil)], none, 0, 0⟩,
  ⟨(some 8), .move (.t 22), none, 1, 159⟩,
  ⟨none, .store 3 (.t 9) (.t 23), none, 1, 447⟩,
  ⟨(some 10), .move (.t 24), none, 1, 1023⟩]
def f10r2 : List AOper := [
  ⟨(some 25), .move (.t 10), none, 0, 0⟩,
  ⟨(some 26), .bin .neq (.t 25) (.c (.int .i64 0)), none, 0, 1⟩]
def f10r3 : List AOper := [
  ⟨(some 27), .build (List.replicate 5 (.int .i64 0)) [], none, 0, 0⟩,
  ⟨(some 28), .move (.t 10), none, 0, 0⟩,
  ⟨none, .store 5 (.t 6) (.t 27), none, 0, 1⟩,
  ⟨(some 7), .move (.t 28), none, 0, 7⟩]
def f10r4 : List AOper := [
  ⟨(some 29), .move (.t 1), none, 0, 0⟩,
  ⟨(some 30), .build (List.replicate 5 (.int .i64 0)) [(1, 1, (.t 29))], none, 0, 1⟩,
  ⟨(some 11), .alloc false (List.replicate 5 (.int .i64 0)), none, 0, 0⟩,
  ⟨none, .store 5 (.t 11) (.t 30), none, 1, 7⟩]
def f10r5 : List AOper := [
  ⟨(some 31), .move (.t 2), none, 0, 0⟩,
  ⟨(some 32), .len 1 (.t 31), none, 0, 1⟩,
  ⟨(some 33), .move (.c (.int .i64 0)), none, 0, 0⟩]
def f10r6 : List AOper := [
  ⟨(some 34), .bin .lss (.t 33) (.t 32), none, 0, 0⟩]
def f10r7 : List AOper := [
  ⟨(some 35), .idxAddr 2 (.t 31) (.t 33), none, 0, 0⟩,
  ⟨(some 36), .load true 2 (.t 35), none, 0, 1⟩,
  ⟨(some 13), .alloc false [(.str []), (.int .i64 0)], none, 0, 0⟩,
  ⟨none, .store 2 (.t 13) (.t 36), none, 1, 7⟩]
def f10r8 : List AOper := [
  ⟨(some 38), .move (.t 0), none, 0, 0⟩,
  ⟨(some 39), .fieldAddr 1 (.t 11), none, 0, 0⟩,
  ⟨(some 40), .load false 1 (.t 39), none, 0, 2⟩,
  ⟨(some 41), .call (.c (.fn 17 [] [])) [(.t 38), (.t 40)], none, 0, 7⟩,
  ⟨(some 37), .move (.t 41), none, 0, 15⟩,
  ⟨(some 42), .extract (.t 37) 0, none, 0, 31⟩,
  ⟨(some 43), .extract (.t 37) 1, none, 0, 31⟩,
  ⟨(some 14), .alloc false [(.int .i64 0), (.int .i64 0), (.int .i64 0), (.str []), (.is [] .nil), (.bool false)], none, 0, 0⟩,
  ⟨none, .store 6 (.t 14) (.t 42), none, 1, 191⟩,
  ⟨(some 15), .move (.t 43), none, 1, 511⟩]
def f10r9 : List AOper := [
  ⟨(some 44), .fieldAddr 0 (.t 13), none, 0, 0⟩,
  ⟨(some 45), .load false 1 (.t 44), none, 0, 1⟩,
  ⟨(some 46), .bin .eql (.t 45) (.c (.str [])), none, 0, 3⟩]
def f10r10 : List AOper := [
  ⟨(some 47), .fieldAddr 0 (.t 14), none, 0, 0⟩,
  ⟨(some 48), .load false 1 (.t 47), none, 0, 1⟩,
  ⟨(some 49), .bin .neq (.t 48) (.c (.int .i64 14)), none, 0, 3⟩,
  ⟨(some 50), .move (.t 49), none, 0, 7⟩,
  ⟨(some 51), .fieldAddr 4 (.t 11), (some (50, false)), 0, 15⟩,
  ⟨(some 52), .load false 1 (.t 51), (some (50, false)), 0, 31⟩,
  ⟨(some 53), .bin .gtr (.t 52) (.c (.int .i64 0)), (some (50, false)), 0, 63⟩,
  ⟨(some 54), .pick (.t 50) (.c (.bool true)) (.t 53), none, 0, 127⟩,
  ⟨(some 55), .move (.t 54), none, 0, 255⟩,
  ⟨(some 56), .fieldAddr 1 (.t 13), (some (55, false)), 0, 511⟩,
  ⟨(some 57), .load false 1 (.t 56), (some (55, false)), 0, 1023⟩,
  ⟨(some 58), .bin .lss (.t 57) (.c (.int .i64 0)), (some (55, false)), 0, 2047⟩,
  ⟨(some 59), .pick (.t 55) (.c (.bool true)) (.t 58), none, 0, 4095⟩,
  ⟨(some 60), .move (.t 59), none, 0, 8191⟩,
  ⟨(some 61), .fieldAddr 1 (.t 13), (some (60, false)), 0, 16383⟩,
  ⟨(some 62), .load false 1 (.t 61), (some (60, false)), 0, 32767⟩,
  ⟨(some 63), .fieldAddr 2 (.t 14), (some (60, false)), 0, 16383⟩,
  ⟨(some 64), .load false 1 (.t 63), (some (60, false)), 0, 81919⟩,
  ⟨(some 65), .bin .geq (.t 62) (.t 64), (some (60, false)), 0, 262143⟩,
  ⟨(some 66), .pick (.t 60) (.c (.bool true)) (.t 65), none, 0, 524287⟩]
def f10r11 : List AOper := [
  ⟨(some 67), .build (List.replicate 5 (.int .i64 0)) [], none, 0, 0⟩,
  ⟨none, .store 5 (.t 6) (.t 67), none, 0, 1⟩,
  ⟨(some 7), .move (.c (.int .i64 30)), none, 0, 3⟩]
def f10q12 : List AOper := [
  ⟨(some 68), .fieldAddr 2 (.t 11), none, 0, 0⟩,
  ⟨(some 69), .load false 1 (.t 68), none, 0, 1⟩,
  ⟨(some 70), .fieldAddr 1 (.t 13), none, 0, 0⟩,
  ⟨(some 71), .load false 1 (.t 70), none, 0, 4⟩,
  ⟨(some 72), .move (.t 8), none, 0, 0⟩,
  ⟨(some 73), .fieldAddr 1 (.t 14), none, 0, 0⟩,
  ⟨(some 74), .load false 1 (.t 73), none, 0, 32⟩,
  ⟨(some 75), .call (.c (.fn 19 [] [])) [(.t 72), (.t 74)], none, 0, 112⟩,
  ⟨(some 76), .field false 0 1 (.t 75), none, 0, 240⟩,
  ⟨(some 77), .bin .mul (.t 71) (.t 76), none, 0, 508⟩,
  ⟨(some 78), .bin .add (.t 69) (.t 77), none, 0, 1023⟩,
  ⟨(some 79), .fieldAddr 2 (.t 11), none, 0, 2047⟩,
  ⟨none, .store 1 (.t 79) (.t 78), none, 0, 4095⟩]
def f10r12 : List AOper := f10q12
def f10r13 : List AOper := [
  ⟨(some 80), .fieldAddr 1 (.t 14), none, 0, 0⟩,
  ⟨(some 81), .load false 1 (.t 80), none, 0, 1⟩,
  ⟨(some 82), .fieldAddr 1 (.t 11), none, 0, 3⟩,
  ⟨none, .store 1 (.t 82) (.t 81), none, 0, 7⟩]
def f10r14 : List AOper := [
  ⟨(some 83), .move (.t 0), none, 0, 0⟩,
  ⟨(some 84), .fieldAddr 1 (.t 11), none, 0, 0⟩,
  ⟨(some 85), .load false 1 (.t 84), none, 0, 2⟩,
  ⟨(some 86), .call (.c (.fn 16 [] [])) [(.t 83), (.t 85)], none, 0, 7⟩,
  ⟨(some 87), .un .not (.t 86), none, 0, 15⟩]
def f10r15 : List AOper := [
  ⟨(some 88), .build (List.replicate 5 (.int .i64 0)) [], none, 0, 0⟩,
  ⟨none, .store 5 (.t 6) (.t 88), none, 0, 1⟩,
  ⟨(some 7), .move (.c (.int .i64 30)), none, 0, 3⟩]
def f10r16 : List AOper := [
  ⟨(some 90), .load true 6 (.t 14), none, 0, 0⟩,
  ⟨(some 91), .move (.t 8), none, 0, 0⟩,
  ⟨(some 92), .fieldAddr 1 (.t 11), none, 0, 0⟩,
  ⟨(some 93), .load false 1 (.t 92), none, 0, 4⟩,
  ⟨(some 94), .call (.c (.fn 19 [] [])) [(.t 91), (.t 93)], none, 0, 14⟩,
  ⟨(some 95), .fieldAddr 0 (.t 13), none, 0, 0⟩,
  ⟨(some 96), .load false 1 (.t 95), none, 0, 32⟩,
  ⟨(some 97), .call (.c (.fn 18 [] [])) [(.t 90), (.t 94), (.t 96)], none, 0, 127⟩,
  ⟨(some 89), .move (.t 97), none, 0, 255⟩,
  ⟨(some 98), .extract (.t 89) 0, none, 0, 511⟩,
  ⟨(some 99), .extract (.t 89) 1, none, 0, 511⟩,
  ⟨(some 16), .alloc false (List.replicate 5 (.int .i64 0)), none, 0, 0⟩,
  ⟨none, .store 5 (.t 16) (.t 98), none, 1, 3071⟩,
  ⟨(some 17), .move (.t 99), none, 1, 8191⟩]
def f10r17 : List AOper := [
  ⟨(some 100), .move (.t 17), none, 0, 0⟩,
  ⟨(some 101), .un .not (.t 100), none, 0, 1⟩]
def f10r18 : List AOper := [
  ⟨(some 102), .build (List.replicate 5 (.int .i64 0)) [], none, 0, 0⟩,
  ⟨none, .store 5 (.t 6) (.t 102), none, 0, 1⟩,
  ⟨(some 7), .move (.c (.int .i64 30)), none, 0, 3⟩]
def f10r19 : List AOper := [
  ⟨(some 103), .fieldAddr 2 (.t 16), none, 0, 0⟩,
  ⟨(some 104), .load false 1 (.t 103), none, 0, 1⟩,
  ⟨(some 105), .fieldAddr 2 (.t 11), none, 0, 0⟩,
  ⟨(some 106), .load false 1 (.t 105), none, 0, 4⟩,
  ⟨(some 107), .bin .add (.t 104) (.t 106), none, 0, 15⟩,
  ⟨(some 108), .fieldAddr 2 (.t 16), none, 0, 31⟩,
  ⟨none, .store 1 (.t 108) (.t 107), none, 0, 63⟩]
def f10r20 : List AOper := [
  ⟨(some 109), .load true 5 (.t 16), none, 0, 0⟩,
  ⟨none, .store 5 (.t 11) (.t 109), none, 0, 1⟩]
def f10r21 : List AOper := [
  ⟨(some 110), .bin .add (.t 33) (.c (.int .i64 1)), none, 0, 0⟩,
  ⟨(some 33), .move (.t 110), none, 0, 1⟩]
def f10m6 : ACode :=
  .seq (.region false f10r6 [0, 6, 8, 11, 31, 32, 33, 34] 0)
  (.seq (.cond (.t 34)
    (.skip)
    (.exit 0))
  (.seq (.block 1 (.seq (.region false f10r7 [0, 6, 8, 11, 13, 31, 32, 33] 1)
    (.seq (.region false f10r8 [0, 6, 8, 11, 13, 14, 31, 32, 33] 1)
    (.seq (.seq (.region false f10r9 [0, 6, 8, 11, 13, 14, 31, 32, 33, 46] 0)
    (.cond (.t 46)
      (.seq (.seq (.region false f10r10 [0, 6, 8, 11, 13, 14, 31, 32, 33, 66] 0)
      (.cond (.t 66)
        (.seq (.region false f10r11 [6, 7] 0)
        (.ret))
        (.skip)))
      (.seq (.region true f10r12 [0, 6, 8, 11, 14, 31, 32, 33] 0)
      (.seq (.region false f10r13 [0, 6, 8, 11, 31, 32, 33] 0)
      (.exit 1))))
      (.skip)))
    (.seq (.seq (.region false f10r14 [0, 6, 8, 11, 13, 14, 31, 32, 33, 87] 0)
    (.cond (.t 87)
      (.seq (.region false f10r15 [6, 7] 0)
      (.ret))
      (.skip)))
    (.seq (.region true f10r16 [0, 6, 8, 11, 16, 17, 31, 32, 33] 1)
    (.seq (.seq (.region false f10r17 [0, 6, 8, 11, 16, 31, 32, 33, 101] 0)
    (.cond (.t 101)
      (.seq (.region false f10r18 [6, 7] 0)
      (.ret))
      (.skip)))
    (.seq (.region false f10r19 [0, 6, 8, 11, 16, 31, 32, 33] 0)
    (.region false f10r20 [0, 6, 8, 11, 31, 32, 33] 0)))))))))
  (.region false f10r21 [0, 6, 8, 11, 31, 32, 33] 0)))
def f10l6 : ACode := f10m6
theorem f10l6_b {A : Tab} {nt : Nat} {e : Env} {h : Heap} : Brun A nt f10l6 e h = Brun A nt f10m6 e h := rfl
def f10r22 : List AOper := [
  ⟨(some 111), .load true 5 (.t 11), none, 0, 0⟩,
  ⟨none, .store 5 (.t 6) (.t 111), none, 0, 1⟩,
  ⟨(some 7), .move (.c (.int .i64 0)), none, 0, 3⟩]
theorem f10r12_s : staticOK 0 f10r12 = true := by rfl
theorem f10r12_w {A : Tab} {nt : Nat} {keep : List Nat} {n : Nat} {e : Env} {h : Heap} (hr : (bkeep keep (stepsF nt (stepF A true) h.length f10r12 e (h ++ List.replicate n .free))).isSome = true) : Brun A nt (.region true f10r12 keep n) e h = bkeep keep (stepsF nt (stepF A true) h.length f10r12 e (h ++ List.replicate n .free)) := Brun_drawnS f10r12_s hr
theorem f10r12_u (nt base : Nat) (step : Nat → AOp → Env → Heap → Option (AV × Heap)) (e : Env) (h : Heap) : stepsF nt step base f10r12 e h = stepsF nt step base f10q12 e h := rfl
def f10c : ACode :=
  .seq (.region false f10r0 [0, 1, 2, 6] 1)
  (.seq (.region false f10r1 [0, 1, 2, 6, 8, 10] 1)
  (.seq (.seq (.region false f10r2 [0, 1, 2, 6, 8, 10, 26] 0)
  (.cond (.t 26)
    (.seq (.region false f10r3 [6, 7] 0)
    (.ret))
    (.skip)))
  (.seq (.region false f10r4 [0, 2, 6, 8, 11] 1)
  (.seq (.seq (.region false f10r5 [0, 6, 8, 11, 31, 32, 33] 0)
  (.block 0 (.loop f10l6)))
  (.seq (.region false f10r22 [6, 7] 0)
  (.ret))))))
def f10 : AFn := ⟨3, 112, [.cell 6 true 5, .tmp 7], f10c, 1, none⟩
def f10k : List (Nat × List Nat) := [(0, [0, 1, 2, 6]), (1, [0, 1, 2, 6, 8, 10]), (2, [0, 1, 2, 6, 8, 10, 26]), (3, [6, 7]), (4, [0, 2, 6, 8, 11]), (5, [0, 6, 8, 11, 31, 32, 33]), (6, [0, 6, 8, 11, 31, 32, 33, 34]), (7, [0, 6, 8, 11, 13, 31, 32, 33]), (8, [0, 6, 8, 11, 13, 14, 31, 32, 33]), (9, [0, 6, 8, 11, 13, 14, 31, 32, 33, 46]), (10, [0, 6, 8, 11, 13, 14, 31, 32, 33, 66]), (11, [6, 7]), (12, [0, 6, 8, 11, 14, 31, 32, 33]), (13, [0, 6, 8, 11, 31, 32, 33]), (14, [0, 6, 8, 11, 13, 14, 31, 32, 33, 87]), (15, [6, 7]), (16, [0, 6, 8, 11, 16, 17, 31, 32, 33]), (17, [0, 6, 8, 11, 16, 31, 32, 33, 101]), (18, [6, 7]), (19, [0, 6, 8, 11, 16, 31, 32, 33]), (20, [0, 6, 8, 11, 31, 32, 33]), (21, [0, 6, 8, 11, 31, 32, 33]), (22, [6, 7])]
def f10v : List Nat := []

/-! 11: mortise/layout.Gaps, parameters [23, 3], results [43, 31] -/
def f11r0 : List AOper := [
  ⟨(some 4), .move (.c (.is [] .nil)), none, 0, 0⟩,
  ⟨(some 5), .move (.c (.int .i64 0)), none, 0, 1⟩]
def f11r1 : List AOper := [
  ⟨(some 15), .move (.t 0), none, 0, 0⟩,
  ⟨(some 16), .move (.t 1), none, 0, 0⟩,
  ⟨(some 17), .call (.c (.fn 15 [] [])) [(.t 15), (.t 16)], none, 0, 3⟩,
  ⟨(some 14), .move (.t 17), none, 0, 7⟩,
  ⟨(some 18), .extract (.t 14) 0, none, 0, 15⟩,
  ⟨(some 19), .extract (.t 14) 1, none, 0, 15⟩,
  ⟨(some 20), .extract (.t 14) 2, none, 0, 15⟩,
  ⟨(some 7), .alloc false [(.int .i64 0), (.int .i64 0), (.is [] .nil)], none, 0, 0⟩,
  ⟨(some 6), .move (.t 18), none, 1, 159⟩,
  ⟨none, .store 3 (.t 7) (.t 19), none, 1, 447⟩,
  ⟨(some 8), .move (.t 20), none, 1, 1023⟩]
def f11r2 : List AOper := [
  ⟨(some 21), .move (.t 8), none, 0, 0⟩,
  ⟨(some 22), .bin .neq (.t 21) (.c (.int .i64 0)), none, 0, 1⟩]
def f11r3 : List AOper := [
  ⟨(some 23), .move (.t 8), none, 0, 0⟩,
  ⟨(some 4), .move (.c (.is [] .nil)), none, 0, 0⟩,
  ⟨(some 5), .move (.t 23), none, 0, 3⟩]
def f11r4 : List AOper := [
  ⟨(some 24), .fieldAddr 0 (.t 7), none, 0, 0⟩,
  ⟨(some 25), .load false 1 (.t 24), none, 0, 1⟩,
  ⟨(some 26), .bin .mul (.c (.int .i64 8)) (.t 25), none, 0, 3⟩,
  ⟨(some 27), .bin .add (.t 26) (.c (.int .i64 1)), none, 0, 7⟩,
  ⟨(some 28), .mkSlice false 1 1 [(.int .u8 0)] (.t 27) (.t 27), none, 0, 15⟩,
  ⟨(some 9), .alloc false [(.is [] .nil)], none, 1, 0⟩,
  ⟨none, .store 1 (.t 9) (.t 28), none, 2, 63⟩]
def f11r5 : List AOper := [
  ⟨(some 29), .load false 1 (.t 9), none, 0, 0⟩,
  ⟨(some 30), .fieldAddr 0 (.t 7), none, 0, 0⟩,
  ⟨(some 31), .load false 1 (.t 30), none, 0, 2⟩,
  ⟨(some 32), .bin .mul (.c (.int .i64 8)) (.t 31), none, 0, 6⟩,
  ⟨(some 33), .idxAddr 1 (.t 29) (.t 32), none, 0, 15⟩,
  ⟨none, .store 1 (.t 33) (.c (.int .u8 1)), none, 0, 31⟩]
def f11r6 : List AOper := [
  ⟨(some 34), .move (.t 6), none, 0, 0⟩,
  ⟨(some 35), .move (.t 1), none, 0, 0⟩,
  ⟨(some 36), .fn 21 [] [(.t 9)], none, 0, 0⟩,
  ⟨(some 37), .call (.c (.fn 20 [] [])) [(.t 34), (.t 35), (.c (.int .i64 0)), (.t 36)], none, 0, 7⟩]
def f11r7 : List AOper := [
  ⟨(some 10), .move (.c (.is [] .nil)), none, 0, 0⟩]
def f11r8 : List AOper := [
  ⟨(some 11), .move (.c (.int .i64 (-1))), none, 0, 0⟩]
def f11r9 : List AOper := [
  ⟨(some 38), .load false 1 (.t 9), none, 0, 0⟩,
  ⟨(some 39), .len 1 (.t 38), none, 0, 1⟩,
  ⟨(some 40), .move (.c (.int .i64 0)), none, 0, 0⟩]
def f11r10 : List AOper := [
  ⟨(some 41), .bin .lss (.t 40) (.t 39), none, 0, 0⟩]
def f11r11 : List AOper := [
  ⟨(some 42), .move (.t 40), none, 0, 0⟩,
  ⟨(some 43), .idxAddr 1 (.t 38) (.t 40), none, 0, 0⟩,
  ⟨(some 44), .load false 1 (.t 43), none, 0, 2⟩,
  ⟨(some 12), .move (.t 42), none, 0, 7⟩,
  ⟨(some 13), .move (.t 44), none, 0, 15⟩]
def f11r12 : List AOper := [
  ⟨(some 46), .move (.t 13), none, 0, 0⟩,
  ⟨(some 47), .bin .eql (.t 46) (.c (.int .u8 0)), none, 0, 1⟩,
  ⟨(some 48), .move (.t 47), none, 0, 3⟩,
  ⟨(some 49), .move (.t 11), (some (48, true)), 0, 7⟩,
  ⟨(some 50), .bin .lss (.t 49) (.c (.int .i64 0)), (some (48, true)), 0, 15⟩,
  ⟨(some 51), .pick (.t 48) (.t 50) (.c (.bool false)), none, 0, 31⟩,
  ⟨(some 45), .move (.t 51), none, 0, 63⟩]
def f11r13 : List AOper := [
  ⟨(some 52), .move (.t 12), none, 0, 0⟩,
  ⟨(some 11), .move (.t 52), none, 0, 1⟩]
def f11r14 : List AOper := [
  ⟨(some 54), .move (.t 13), none, 0, 0⟩,
  ⟨(some 55), .bin .eql (.t 54) (.c (.int .u8 1)), none, 0, 1⟩,
  ⟨(some 56), .move (.t 55), none, 0, 3⟩,
  ⟨(some 57), .move (.t 11), (some (56, true)), 0, 7⟩,
  ⟨(some 58), .bin .geq (.t 57) (.c (.int .i64 0)), (some (56, true)), 0, 15⟩,
  ⟨(some 59), .pick (.t 56) (.t 58) (.c (.bool false)), none, 0, 31⟩,
  ⟨(some 53), .move (.t 59), none, 0, 63⟩]
def f11r15 : List AOper := [
  ⟨(some 60), .move (.t 10), none, 0, 0⟩,
  ⟨(some 61), .move (.t 11), none, 0, 0⟩,
  ⟨(some 62), .move (.t 12), none, 0, 0⟩,
  ⟨(some 63), .move (.t 11), none, 0, 0⟩,
  ⟨(some 64), .bin .sub (.t 62) (.t 63), none, 0, 12⟩,
  ⟨(some 65), .build [(.int .i64 0), (.int .i64 0)] [(0, 1, (.t 61)), (1, 1, (.t 64))], none, 0, 30⟩,
  ⟨(some 66), .buildSlice false 2 1 [(.int .i64 0), (.int .i64 0)] [(0, 2, (.t 65))], none, 0, 62⟩,
  ⟨(some 67), .append false 2 16 (.t 60) (.t 66), none, 1, 127⟩,
  ⟨(some 10), .move (.t 67), none, 2, 255⟩]
def f11r16 : List AOper := [
  ⟨(some 11), .move (.c (.int .i64 (-1))), none, 0, 0⟩]
def f11r17 : List AOper := [
  ⟨(some 68), .bin .add (.t 40) (.c (.int .i64 1)), none, 0, 0⟩,
  ⟨(some 40), .move (.t 68), none, 0, 1⟩]
def f11m10 : ACode :=
  .seq (.region false f11r10 [10, 11, 38, 39, 40, 41] 0)
  (.seq (.cond (.t 41)
    (.skip)
    (.exit 0))
  (.seq (.block 1 (.seq (.region false f11r11 [10, 11, 12, 13, 38, 39, 40] 0)
    (.block 2 (.seq (.region false f11r12 [10, 11, 12, 13, 38, 39, 40, 45] 0)
      (.cond (.t 45)
        (.region false f11r13 [10, 11, 38, 39, 40] 0)
        (.seq (.region false f11r14 [10, 11, 12, 38, 39, 40, 53] 0)
        (.cond (.t 53)
          (.seq (.region false f11r15 [10, 38, 39, 40] 2)
          (.region false f11r16 [10, 11, 38, 39, 40] 0))
          (.skip))))))))
  (.region false f11r17 [10, 11, 38, 39, 40] 0)))
def f11l10 : ACode := f11m10
theorem f11l10_b {A : Tab} {nt : Nat} {e : Env} {h : Heap} : Brun A nt f11l10 e h = Brun A nt f11m10 e h := rfl
def f11r18 : List AOper := [
  ⟨(some 69), .move (.t 10), none, 0, 0⟩,
  ⟨(some 4), .move (.t 69), none, 0, 1⟩,
  ⟨(some 5), .move (.c (.int .i64 0)), none, 0, 3⟩]
def f11c : ACode :=
  .seq (.region false f11r0 [0, 1] 0)
  (.seq (.region false f11r1 [1, 6, 7, 8] 1)
  (.seq (.seq (.region false f11r2 [1, 6, 7, 8, 22] 0)
  (.cond (.t 22)
    (.seq (.region false f11r3 [4, 5] 0)
    (.ret))
    (.skip)))
  (.seq (.region false f11r4 [1, 6, 7, 9] 2)
  (.seq (.region false f11r5 [1, 6, 9] 0)
  (.seq (.region false f11r6 [9] 0)
  (.seq (.region false f11r7 [9, 10] 0)
  (.seq (.region false f11r8 [9, 10, 11] 0)
  (.seq (.seq (.region false f11r9 [10, 11, 38, 39, 40] 0)
  (.block 0 (.loop f11l10)))
  (.seq (.region false f11r18 [4, 5] 0)
  (.ret))))))))))
def f11 : AFn := ⟨2, 70, [.tmp 4, .tmp 5], f11c, 1, none⟩
def f11k : List (Nat × List Nat) := [(0, [0, 1]), (1, [1, 6, 7, 8]), (2, [1, 6, 7, 8, 22]), (3, [4, 5]), (4, [1, 6, 7, 9]), (5, [1, 6, 9]), (6, [9]), (7, [9, 10]), (8, [9, 10, 11]), (9, [10, 11, 38, 39, 40]), (10, [10, 11, 38, 39, 40, 41]), (11, [10, 11, 12, 13, 38, 39, 40]), (12, [10, 11, 12, 13, 38, 39, 40, 45]), (14, [10, 11, 12, 38, 39, 40, 53]), (15, [10, 38, 39, 40]), (16, [10, 11, 38, 39, 40]), (13, [10, 11, 38, 39, 40]), (17, [10, 11, 38, 39, 40]), (18, [4, 5])]
def f11v : List Nat := []

/-! 12: mortise/ctype.New, parameters [], results [23] -/
def f12r0 : List AOper := [
  ⟨(some 0), .move (.c .nilp), none, 0, 0⟩]
def f12r1 : List AOper := [
  ⟨(some 3), .mkMap, none, 0, 0⟩,
  ⟨(some 4), .build [(.is [] .nil), .nilm] [(1, 1, (.t 3))], none, 1, 1⟩,
  ⟨(some 5), .box false (.t 4), none, 1, 3⟩,
  ⟨(some 1), .move (.t 5), none, 2, 7⟩]
def f12r2 : List AOper := [
  ⟨(some 2), .move (.c (.int .i64 1)), none, 0, 0⟩]
def f12r3 : List AOper := [
  ⟨(some 6), .move (.t 2), none, 0, 0⟩,
  ⟨(some 7), .bin .leq (.t 6) (.c (.int .i64 11)), none, 0, 1⟩]
def f12r4 : List AOper := [
  ⟨(some 10), .move (.t 1), none, 0, 0⟩,
  ⟨(some 11), .move (.t 1), none, 0, 0⟩,
  ⟨(some 12), .nilCheck (.t 11), none, 0, 2⟩,
  ⟨(some 13), .fieldAddr 0 (.t 12), none, 0, 6⟩,
  ⟨(some 14), .load false 1 (.t 13), none, 0, 14⟩,
  ⟨(some 15), .move (.t 2), none, 0, 0⟩,
  ⟨(some 16), .build [(.int .i64 0), (.int .i64 0), (.int .i64 0), (.str []), (.is [] .nil), (.bool false)] [(0, 1, (.t 15))], none, 0, 32⟩,
  ⟨(some 17), .buildSlice false 6 1 [(.int .i64 0), (.int .i64 0), (.int .i64 0), (.str []), (.is [] .nil), (.bool false)] [(0, 6, (.t 16))], none, 0, 96⟩,
  ⟨(some 18), .append false 6 72 (.t 14) (.t 17), none, 1, 254⟩,
  ⟨(some 19), .nilCheck (.t 10), none, 2, 511⟩,
  ⟨(some 20), .fieldAddr 0 (.t 19), none, 2, 1023⟩,
  ⟨none, .store 1 (.t 20) (.t 18), none, 2, 2047⟩]
def f12r5 : List AOper := [
  ⟨(some 8), .move (.t 2), none, 0, 0⟩,
  ⟨(some 9), .bin .add (.t 8) (.c (.int .i64 1)), none, 0, 1⟩,
  ⟨(some 2), .move (.t 9), none, 0, 3⟩]
def f12m3 : ACode :=
  .seq (.seq (.region false f12r3 [1, 2, 7] 0)
  (.cond (.t 7)
    (.skip)
    (.exit 0)))
  (.seq (.block 1 (.region false f12r4 [1, 2] 2))
  (.region false f12r5 [1, 2] 0))
def f12l3 : ACode := f12m3
theorem f12l3_b {A : Tab} {nt : Nat} {e : Env} {h : Heap} : Brun A nt f12l3 e h = Brun A nt f12m3 e h := rfl
def f12r6 : List AOper := [
  ⟨(some 21), .move (.t 1), none, 0, 0⟩,
  ⟨(some 0), .move (.t 21), none, 0, 1⟩]
def f12c : ACode :=
  .seq (.region false f12r0 [] 0)
  (.seq (.region false f12r1 [1] 2)
  (.seq (.seq (.region false f12r2 [1, 2] 0)
  (.block 0 (.loop f12l3)))
  (.seq (.region false f12r6 [0] 0)
  (.ret))))
def f12 : AFn := ⟨0, 22, [.tmp 0], f12c, 0, none⟩
def f12k : List (Nat × List Nat) := [(0, []), (1, [1]), (2, [1, 2]), (3, [1, 2, 7]), (5, [1, 2]), (4, [1, 2]), (6, [0])]
def f12v : List Nat := []

/-! 13: (*mortise/ctype.Table).Struct, parameters [23, 9], results [3, 31] -/
def f13r0 : List AOper := [
  ⟨(some 4), .move (.c (.int .i64 0)), none, 0, 0⟩,
  ⟨(some 5), .move (.c (.int .i64 0)), none, 0, 1⟩]
def f13r1 : List AOper := [
  ⟨(some 6), .move (.t 0), none, 0, 0⟩,
  ⟨(some 7), .move (.t 1), none, 0, 0⟩,
  ⟨(some 8), .call (.c (.fn 22 [] [])) [(.t 6), (.c (.int .i64 15)), (.t 7)], none, 0, 3⟩,
  ⟨(some 9), .extract (.t 8) 0, none, 0, 7⟩,
  ⟨(some 10), .extract (.t 8) 1, none, 0, 7⟩,
  ⟨(some 4), .move (.t 9), none, 0, 31⟩,
  ⟨(some 5), .move (.t 10), none, 0, 63⟩]
def f13c : ACode :=
  .seq (.region false f13r0 [0, 1] 0)
  (.seq (.region false f13r1 [4, 5] 0)
  (.ret))
def f13 : AFn := ⟨2, 11, [.tmp 4, .tmp 5], f13c, 1, none⟩
def f13k : List (Nat × List Nat) := [(0, [0, 1]), (1, [4, 5])]
def f13v : List Nat := []

/-! 14: (*mortise/ctype.Table).Complete, parameters [23, 3, 51], results [31] -/
def f14r0 : List AOper := [
  ⟨(some 6), .move (.c (.int .i64 0)), none, 0, 0⟩]
def f14r1 : List AOper := [
  ⟨(some 9), .move (.t 0), none, 0, 0⟩,
  ⟨(some 10), .call (.c (.fn 23 [] [])) [(.t 9)], none, 0, 1⟩,
  ⟨(some 11), .un .not (.t 10), none, 0, 3⟩,
  ⟨(some 8), .move (.t 11), none, 0, 7⟩]
def f14r2 : List AOper := [
  ⟨(some 6), .move (.c (.int .i64 1)), none, 0, 0⟩]
def f14r3 : List AOper := [
  ⟨(some 13), .move (.t 0), none, 0, 0⟩,
  ⟨(some 14), .move (.t 1), none, 0, 0⟩,
  ⟨(some 15), .call (.c (.fn 24 [] [])) [(.t 13), (.t 14)], none, 0, 3⟩,
  ⟨(some 16), .un .not (.t 15), none, 0, 7⟩,
  ⟨(some 12), .move (.t 16), none, 0, 15⟩]
def f14r4 : List AOper := [
  ⟨(some 6), .move (.c (.int .i64 30)), none, 0, 0⟩]
def f14r5 : List AOper := [
  ⟨(some 18), .move (.t 0), none, 0, 0⟩,
  ⟨(some 19), .nilCheck (.t 18), none, 0, 1⟩,
  ⟨(some 20), .fieldAddr 0 (.t 19), none, 0, 3⟩,
  ⟨(some 21), .load false 1 (.t 20), none, 0, 7⟩,
  ⟨(some 22), .move (.t 1), none, 0, 0⟩,
  ⟨(some 23), .idxAddr 6 (.t 21) (.t 22), none, 0, 31⟩,
  ⟨(some 24), .fieldAddr 5 (.t 23), none, 0, 63⟩,
  ⟨(some 25), .load false 1 (.t 24), none, 0, 127⟩,
  ⟨(some 17), .move (.t 25), none, 0, 255⟩]
def f14r6 : List AOper := [
  ⟨(some 6), .move (.c (.int .i64 33)), none, 0, 0⟩]
def f14r7 : List AOper := [
  ⟨(some 26), .move (.t 0), none, 0, 0⟩,
  ⟨(some 27), .move (.t 2), none, 0, 0⟩,
  ⟨(some 28), .call (.c (.fn 25 [] [])) [(.t 26), (.t 27)], none, 0, 3⟩,
  ⟨(some 7), .move (.t 28), none, 0, 7⟩]
def f14r8 : List AOper := [
  ⟨(some 29), .move (.t 7), none, 0, 0⟩,
  ⟨(some 30), .bin .neq (.t 29) (.c (.int .i64 0)), none, 0, 1⟩]
def f14r9 : List AOper := [
  ⟨(some 31), .move (.t 7), none, 0, 0⟩,
  ⟨(some 6), .move (.t 31), none, 0, 1⟩]
def f14q10 : List AOper := [
  ⟨(some 32), .move (.t 0), none, 0, 0⟩,
  ⟨(some 33), .nilCheck (.t 32), none, 0, 1⟩,
  ⟨(some 34), .fieldAddr 0 (.t 33), none, 0, 3⟩,
  ⟨(some 35), .load false 1 (.t 34), none, 0, 7⟩,
  ⟨(some 36), .move (.t 1), none, 0, 0⟩,
  ⟨(some 37), .move (.t 2), none, 0, 0⟩,
  ⟨(some 38), .call (.c (.fn 26 [] [])) [(.t 37)], none, 0, 32⟩,
  ⟨(some 39), .idxAddr 6 (.t 35) (.t 36), none, 0, 127⟩,
  ⟨(some 40), .fieldAddr 4 (.t 39), none, 0, 255⟩,
  ⟨none, .store 1 (.t 40) (.t 38), none, 0, 511⟩]
def f14r10 : List AOper := f14q10
def f14r11 : List AOper := [
  ⟨(some 41), .move (.t 0), none, 0, 0⟩,
  ⟨(some 42), .nilCheck (.t 41), none, 0, 1⟩,
  ⟨(some 43), .fieldAddr 0 (.t 42), none, 0, 3⟩,
  ⟨(some 44), .load false 1 (.t 43), none, 0, 7⟩,
  ⟨(some 45), .move (.t 1), none, 0, 0⟩,
  ⟨(some 46), .idxAddr 6 (.t 44) (.t 45), none, 0, 31⟩,
  ⟨(some 47), .fieldAddr 5 (.t 46), none, 0, 63⟩,
  ⟨none, .store 1 (.t 47) (.c (.bool true)), none, 0, 127⟩]
def f14r12 : List AOper := [
  ⟨(some 6), .move (.c (.int .i64 0)), none, 0, 0⟩]
theorem f14r10_s : staticOK 0 f14r10 = true := by rfl
theorem f14r10_w {A : Tab} {nt : Nat} {keep : List Nat} {n : Nat} {e : Env} {h : Heap} (hr : (bkeep keep (stepsF nt (stepF A true) h.length f14r10 e (h ++ List.replicate n .free))).isSome = true) : Brun A nt (.region true f14r10 keep n) e h = bkeep keep (stepsF nt (stepF A true) h.length f14r10 e (h ++ List.replicate n .free)) := Brun_drawnS f14r10_s hr
theorem f14r10_u (nt base : Nat) (step : Nat → AOp → Env → Heap → Option (AV × Heap)) (e : Env) (h : Heap) : stepsF nt step base f14r10 e h = stepsF nt step base f14q10 e h := rfl
def f14c : ACode :=
  .seq (.region false f14r0 [0, 1, 2] 0)
  (.seq (.block 0 (.seq (.region false f14r1 [0, 1, 2, 8] 0)
    (.cond (.t 8)
      (.seq (.region false f14r2 [6] 0)
      (.ret))
      (.seq (.region false f14r3 [0, 1, 2, 12] 0)
      (.cond (.t 12)
        (.seq (.region false f14r4 [6] 0)
        (.ret))
        (.seq (.region false f14r5 [0, 1, 2, 17] 0)
        (.cond (.t 17)
          (.seq (.region false f14r6 [6] 0)
          (.ret))
          (.skip))))))))
  (.seq (.seq (.region false f14r7 [0, 1, 2, 7] 0)
  (.seq (.region false f14r8 [0, 1, 2, 7, 30] 0)
  (.cond (.t 30)
    (.seq (.region false f14r9 [6] 0)
    (.ret))
    (.skip))))
  (.seq (.region true f14r10 [0, 1] 0)
  (.seq (.region false f14r11 [] 0)
  (.seq (.region false f14r12 [6] 0)
  (.ret))))))
def f14 : AFn := ⟨3, 48, [.tmp 6], f14c, 1, none⟩
def f14k : List (Nat × List Nat) := [(0, [0, 1, 2]), (1, [0, 1, 2, 8]), (3, [0, 1, 2, 12]), (5, [0, 1, 2, 17]), (6, [6]), (4, [6]), (2, [6]), (7, [0, 1, 2, 7]), (8, [0, 1, 2, 7, 30]), (9, [6]), (10, [0, 1]), (11, []), (12, [6])]
def f14v : List Nat := []

/-! 15: mortise/layout.begin, parameters [23, 3], results [54, 56, 31] -/
def f15r0 : List AOper := [
  ⟨(some 4), .move (.c .nilp), none, 0, 0⟩,
  ⟨(some 5), .alloc false [(.int .i64 0), (.int .i64 0), (.is [] .nil)], none, 0, 0⟩,
  ⟨(some 6), .move (.c (.int .i64 0)), none, 1, 1⟩]
def f15r1 : List AOper := [
  ⟨(some 10), .move (.t 0), none, 0, 0⟩,
  ⟨(some 11), .call (.c (.fn 27 [] [])) [(.t 10)], none, 0, 1⟩,
  ⟨(some 12), .bin .eql (.t 11) (.c (.int .i64 0)), none, 0, 3⟩,
  ⟨(some 9), .move (.t 12), none, 0, 7⟩]
def f15r2 : List AOper := [
  ⟨(some 13), .build [(.int .i64 0), (.int .i64 0), (.is [] .nil)] [], none, 0, 0⟩,
  ⟨(some 4), .move (.c .nilp), none, 0, 0⟩,
  ⟨none, .store 3 (.t 5) (.t 13), none, 0, 3⟩,
  ⟨(some 6), .move (.c (.int .i64 1)), none, 0, 7⟩]
def f15r3 : List AOper := [
  ⟨(some 15), .move (.t 1), none, 0, 0⟩,
  ⟨(some 16), .bin .lss (.t 15) (.c (.int .i64 0)), none, 0, 1⟩,
  ⟨(some 17), .move (.t 16), none, 0, 3⟩,
  ⟨(some 18), .move (.t 1), (some (17, false)), 0, 7⟩,
  ⟨(some 19), .move (.t 0), (some (17, false)), 0, 7⟩,
  ⟨(some 20), .call (.c (.fn 27 [] [])) [(.t 19)], (some (17, false)), 0, 23⟩,
  ⟨(some 21), .bin .geq (.t 18) (.t 20), (some (17, false)), 0, 63⟩,
  ⟨(some 22), .pick (.t 17) (.c (.bool true)) (.t 21), none, 0, 127⟩,
  ⟨(some 14), .move (.t 22), none, 0, 255⟩]
def f15r4 : List AOper := [
  ⟨(some 23), .build [(.int .i64 0), (.int .i64 0), (.is [] .nil)] [], none, 0, 0⟩,
  ⟨(some 4), .move (.c .nilp), none, 0, 0⟩,
  ⟨none, .store 3 (.t 5) (.t 23), none, 0, 3⟩,
  ⟨(some 6), .move (.c (.int .i64 30)), none, 0, 7⟩]
def f15r5 : List AOper := [
  ⟨(some 25), .move (.t 0), none, 0, 0⟩,
  ⟨(some 26), .move (.t 1), none, 0, 0⟩,
  ⟨(some 27), .call (.c (.fn 28 [] [])) [(.t 25), (.t 26)], none, 0, 3⟩,
  ⟨(some 28), .un .not (.t 27), none, 0, 7⟩,
  ⟨(some 24), .move (.t 28), none, 0, 15⟩]
def f15r6 : List AOper := [
  ⟨(some 29), .build [(.int .i64 0), (.int .i64 0), (.is [] .nil)] [], none, 0, 0⟩,
  ⟨(some 4), .move (.c .nilp), none, 0, 0⟩,
  ⟨none, .store 3 (.t 5) (.t 29), none, 0, 3⟩,
  ⟨(some 6), .move (.c (.int .i64 50)), none, 0, 7⟩]
def f15r7 : List AOper := [
  ⟨(some 30), .move (.t 0), none, 0, 0⟩,
  ⟨(some 31), .mkMap, none, 0, 0⟩,
  ⟨(some 32), .build [.nilp, .nilm, (.bool false)] [(0, 1, (.t 30)), (1, 1, (.t 31))], none, 1, 3⟩,
  ⟨(some 33), .box false (.t 32), none, 1, 7⟩,
  ⟨(some 7), .move (.t 33), none, 2, 15⟩]
def f15r8 : List AOper := [
  ⟨(some 34), .move (.t 7), none, 0, 0⟩,
  ⟨(some 35), .move (.t 1), none, 0, 0⟩,
  ⟨(some 36), .call (.c (.fn 19 [] [])) [(.t 34), (.t 35)], none, 0, 3⟩,
  ⟨(some 8), .alloc false [(.int .i64 0), (.int .i64 0), (.is [] .nil)], none, 0, 0⟩,
  ⟨none, .store 3 (.t 8) (.t 36), none, 1, 15⟩]
def f15r9 : List AOper := [
  ⟨(some 37), .move (.t 7), none, 0, 0⟩,
  ⟨(some 38), .nilCheck (.t 37), none, 0, 1⟩,
  ⟨(some 39), .fieldAddr 2 (.t 38), none, 0, 3⟩,
  ⟨(some 40), .load false 1 (.t 39), none, 0, 7⟩]
def f15r10 : List AOper := [
  ⟨(some 41), .build [(.int .i64 0), (.int .i64 0), (.is [] .nil)] [], none, 0, 0⟩,
  ⟨(some 4), .move (.c .nilp), none, 0, 0⟩,
  ⟨none, .store 3 (.t 5) (.t 41), none, 0, 3⟩,
  ⟨(some 6), .move (.c (.int .i64 51)), none, 0, 7⟩]
def f15q11 : List AOper := [
  ⟨(some 42), .move (.t 7), none, 0, 0⟩,
  ⟨(some 43), .load true 3 (.t 8), none, 0, 0⟩,
  ⟨(some 4), .move (.t 42), none, 0, 1⟩,
  ⟨none, .store 3 (.t 5) (.t 43), none, 0, 7⟩,
  ⟨(some 6), .move (.c (.int .i64 0)), none, 0, 15⟩]
def f15r11 : List AOper := f15q11
theorem f15r11_s : staticOK 0 f15r11 = true := by rfl
theorem f15r11_w {A : Tab} {nt : Nat} {keep : List Nat} {n : Nat} {e : Env} {h : Heap} (hr : (bkeep keep (stepsF nt (stepF A true) h.length f15r11 e (h ++ List.replicate n .free))).isSome = true) : Brun A nt (.region true f15r11 keep n) e h = bkeep keep (stepsF nt (stepF A true) h.length f15r11 e (h ++ List.replicate n .free)) := Brun_drawnS f15r11_s hr
theorem f15r11_u (nt base : Nat) (step : Nat → AOp → Env → Heap → Option (AV × Heap)) (e : Env) (h : Heap) : stepsF nt step base f15r11 e h = stepsF nt step base f15q11 e h := rfl
def f15c : ACode :=
  .seq (.region false f15r0 [0, 1, 5] 1)
  (.seq (.block 0 (.seq (.region false f15r1 [0, 1, 5, 9] 0)
    (.cond (.t 9)
      (.seq (.region false f15r2 [4, 5, 6] 0)
      (.ret))
      (.seq (.region false f15r3 [0, 1, 5, 14] 0)
      (.cond (.t 14)
        (.seq (.region false f15r4 [4, 5, 6] 0)
        (.ret))
        (.seq (.region false f15r5 [0, 1, 5, 24] 0)
        (.cond (.t 24)
          (.seq (.region false f15r6 [4, 5, 6] 0)
          (.ret))
          (.skip))))))))
  (.seq (.region false f15r7 [1, 5, 7] 2)
  (.seq (.region false f15r8 [5, 7, 8] 1)
  (.seq (.seq (.region false f15r9 [5, 7, 8, 40] 0)
  (.cond (.t 40)
    (.seq (.region false f15r10 [4, 5, 6] 0)
    (.ret))
    (.skip)))
  (.seq (.region true f15r11 [4, 5, 6] 0)
  (.ret))))))
def f15 : AFn := ⟨2, 44, [.tmp 4, .cell 5 true 3, .tmp 6], f15c, 0, none⟩
def f15k : List (Nat × List Nat) := [(0, [0, 1, 5]), (1, [0, 1, 5, 9]), (3, [0, 1, 5, 14]), (5, [0, 1, 5, 24]), (6, [4, 5, 6]), (4, [4, 5, 6]), (2, [4, 5, 6]), (7, [1, 5, 7]), (8, [5, 7, 8]), (9, [5, 7, 8, 40]), (10, [4, 5, 6]), (11, [4, 5, 6])]
def f15v : List Nat := []

/-! 16: mortise/layout.record, parameters [23, 3], results [4] -/
def f16r0 : List AOper := [
  ⟨(some 4), .move (.c (.bool false)), none, 0, 0⟩]
def f16r1 : List AOper := [
  ⟨(some 8), .move (.t 0), none, 0, 0⟩,
  ⟨(some 9), .move (.t 1), none, 0, 0⟩,
  ⟨(some 10), .call (.c (.fn 17 [] [])) [(.t 8), (.t 9)], none, 0, 3⟩,
  ⟨(some 7), .move (.t 10), none, 0, 7⟩,
  ⟨(some 11), .extract (.t 7) 0, none, 0, 15⟩,
  ⟨(some 12), .extract (.t 7) 1, none, 0, 15⟩,
  ⟨(some 5), .alloc false [(.int .i64 0), (.int .i64 0), (.int .i64 0), (.str []), (.is [] .nil), (.bool false)], none, 0, 0⟩,
  ⟨none, .store 6 (.t 5) (.t 11), none, 1, 95⟩,
  ⟨(some 6), .move (.t 12), none, 1, 255⟩]
def f16r2 : List AOper := [
  ⟨(some 13), .fieldAddr 0 (.t 5), none, 0, 0⟩,
  ⟨(some 14), .load false 1 (.t 13), none, 0, 1⟩,
  ⟨(some 15), .bin .eql (.t 14) (.c (.int .i64 15)), none, 0, 3⟩,
  ⟨(some 16), .move (.t 15), none, 0, 7⟩,
  ⟨(some 17), .fieldAddr 0 (.t 5), (some (16, false)), 0, 15⟩,
  ⟨(some 18), .load false 1 (.t 17), (some (16, false)), 0, 31⟩,
  ⟨(some 19), .bin .eql (.t 18) (.c (.int .i64 16)), (some (16, false)), 0, 63⟩,
  ⟨(some 20), .pick (.t 16) (.c (.bool true)) (.t 19), none, 0, 127⟩,
  ⟨(some 4), .move (.t 20), none, 0, 255⟩]
def f16c : ACode :=
  .seq (.region false f16r0 [0, 1] 0)
  (.seq (.region false f16r1 [5] 1)
  (.seq (.region false f16r2 [4] 0)
  (.ret)))
def f16 : AFn := ⟨2, 21, [.tmp 4], f16c, 1, none⟩
def f16k : List (Nat × List Nat) := [(0, [0, 1]), (1, [5]), (2, [4])]
def f16v : List Nat := []

/-! 17: (*mortise/ctype.Table).Row, parameters [23, 3], results [62, 4] -/
def f17r0 : List AOper := [
  ⟨(some 4), .alloc false [(.int .i64 0), (.int .i64 0), (.int .i64 0), (.str []), (.is [] .nil), (.bool false)], none, 0, 0⟩,
  ⟨(some 5), .move (.c (.bool false)), none, 1, 0⟩]
def f17r1 : List AOper := [
  ⟨(some 6), .move (.t 0), none, 0, 0⟩,
  ⟨(some 7), .move (.t 1), none, 0, 0⟩,
  ⟨(some 8), .call (.c (.fn 29 [] [])) [(.t 6), (.t 7)], none, 0, 3⟩,
  ⟨(some 9), .un .not (.t 8), none, 0, 7⟩]
def f17r2 : List AOper := [
  ⟨(some 10), .build [(.int .i64 0), (.int .i64 0), (.int .i64 0), (.str []), (.is [] .nil), (.bool false)] [], none, 0, 0⟩,
  ⟨none, .store 6 (.t 4) (.t 10), none, 0, 1⟩,
  ⟨(some 5), .move (.c (.bool false)), none, 0, 3⟩]
def f17r3 : List AOper := [
  ⟨(some 11), .move (.t 0), none, 0, 0⟩,
  ⟨(some 12), .nilCheck (.t 11), none, 0, 1⟩,
  ⟨(some 13), .fieldAddr 0 (.t 12), none, 0, 3⟩,
  ⟨(some 14), .load false 1 (.t 13), none, 0, 7⟩,
  ⟨(some 15), .move (.t 1), none, 0, 0⟩,
  ⟨(some 16), .idxAddr 6 (.t 14) (.t 15), none, 0, 31⟩,
  ⟨(some 17), .load true 6 (.t 16), none, 0, 63⟩,
  ⟨(some 18), .call (.c (.fn 30 [] [])) [(.t 17)], none, 0, 127⟩,
  ⟨none, .store 6 (.t 4) (.t 18), none, 0, 255⟩,
  ⟨(some 5), .move (.c (.bool true)), none, 0, 511⟩]
def f17c : ACode :=
  .seq (.region false f17r0 [0, 1, 4] 1)
  (.seq (.seq (.region false f17r1 [0, 1, 4, 9] 0)
  (.cond (.t 9)
    (.seq (.region false f17r2 [4, 5] 0)
    (.ret))
    (.skip)))
  (.seq (.region false f17r3 [4, 5] 0)
  (.ret)))
def f17 : AFn := ⟨2, 19, [.cell 4 true 6, .tmp 5], f17c, 1, none⟩
def f17k : List (Nat × List Nat) := [(0, [0, 1, 4]), (1, [0, 1, 4, 9]), (2, [4, 5]), (3, [4, 5])]
def f17v : List Nat := []

/-! 18: mortise/layout.named, parameters [62, 56, 9], results [38, 4] -/
def f18r0 : List AOper := [
  ⟨(some 3), .box true (.t 0), none, 0, 0⟩,
  ⟨(some 4), .box true (.t 1), none, 0, 0⟩,
  ⟨(some 6), .alloc false (List.replicate 5 (.int .i64 0)), none, 0, 0⟩,
  ⟨(some 7), .move (.c (.bool false)), none, 1, 0⟩]
def f18r1 : List AOper := [
  ⟨(some 10), .fieldAddr 2 (.t 4), none, 0, 0⟩,
  ⟨(some 11), .load false 1 (.t 10), none, 0, 1⟩,
  ⟨(some 12), .len 1 (.t 11), none, 0, 3⟩,
  ⟨(some 13), .move (.c (.int .i64 0)), none, 0, 0⟩]
def f18r2 : List AOper := [
  ⟨(some 14), .bin .lss (.t 13) (.t 12), none, 0, 0⟩]
def f18r3 : List AOper := [
  ⟨(some 15), .idxAddr 5 (.t 11) (.t 13), none, 0, 0⟩,
  ⟨(some 16), .load true 5 (.t 15), none, 0, 1⟩,
  ⟨(some 9), .alloc false (List.replicate 5 (.int .i64 0)), none, 0, 0⟩,
  ⟨none, .store 5 (.t 9) (.t 16), none, 1, 7⟩]
def f18r4 : List AOper := [
  ⟨(some 17), .move (.t 2), none, 0, 0⟩,
  ⟨(some 18), .bin .neq (.t 17) (.c (.str [])), none, 0, 1⟩,
  ⟨(some 19), .move (.t 18), none, 0, 3⟩,
  ⟨(some 20), .fieldAddr 4 (.t 3), (some (19, true)), 0, 7⟩,
  ⟨(some 21), .load false 1 (.t 20), (some (19, true)), 0, 15⟩,
  ⟨(some 22), .fieldAddr 0 (.t 9), (some (19, true)), 0, 7⟩,
  ⟨(some 23), .load false 1 (.t 22), (some (19, true)), 0, 39⟩,
  ⟨(some 24), .idxAddr 3 (.t 21) (.t 23), (some (19, true)), 0, 127⟩,
  ⟨(some 25), .fieldAddr 0 (.t 24), (some (19, true)), 0, 255⟩,
  ⟨(some 26), .load false 1 (.t 25), (some (19, true)), 0, 511⟩,
  ⟨(some 27), .move (.t 2), (some (19, true)), 0, 7⟩,
  ⟨(some 28), .bin .eql (.t 26) (.t 27), (some (19, true)), 0, 2047⟩,
  ⟨(some 29), .pick (.t 19) (.t 28) (.c (.bool false)), none, 0, 4095⟩]
def f18r5 : List AOper := [
  ⟨(some 30), .load true 5 (.t 9), none, 0, 0⟩,
  ⟨none, .store 5 (.t 6) (.t 30), none, 0, 1⟩,
  ⟨(some 7), .move (.c (.bool true)), none, 0, 3⟩]
def f18r6 : List AOper := [
  ⟨(some 31), .bin .add (.t 13) (.c (.int .i64 1)), none, 0, 0⟩,
  ⟨(some 13), .move (.t 31), none, 0, 1⟩]
def f18m2 : ACode :=
  .seq (.region false f18r2 [2, 3, 6, 11, 12, 13, 14] 0)
  (.seq (.cond (.t 14)
    (.skip)
    (.exit 0))
  (.seq (.block 1 (.seq (.region false f18r3 [2, 3, 6, 9, 11, 12, 13] 1)
    (.seq (.region false f18r4 [2, 3, 6, 9, 11, 12, 13, 29] 0)
    (.cond (.t 29)
      (.seq (.region false f18r5 [6, 7] 0)
      (.ret))
      (.skip)))))
  (.region false f18r6 [2, 3, 6, 11, 12, 13] 0)))
def f18l2 : ACode := f18m2
theorem f18l2_b {A : Tab} {nt : Nat} {e : Env} {h : Heap} : Brun A nt f18l2 e h = Brun A nt f18m2 e h := rfl
def f18r7 : List AOper := [
  ⟨(some 32), .build (List.replicate 5 (.int .i64 0)) [], none, 0, 0⟩,
  ⟨none, .store 5 (.t 6) (.t 32), none, 0, 1⟩,
  ⟨(some 7), .move (.c (.bool false)), none, 0, 3⟩]
def f18c : ACode :=
  .seq (.region false f18r0 [2, 3, 4, 6] 1)
  (.seq (.seq (.region false f18r1 [2, 3, 6, 11, 12, 13] 0)
  (.block 0 (.loop f18l2)))
  (.seq (.region false f18r7 [6, 7] 0)
  (.ret)))
def f18 : AFn := ⟨3, 33, [.cell 6 true 5, .tmp 7], f18c, 1, none⟩
def f18k : List (Nat × List Nat) := [(0, [2, 3, 4, 6]), (1, [2, 3, 6, 11, 12, 13]), (2, [2, 3, 6, 11, 12, 13, 14]), (3, [2, 3, 6, 9, 11, 12, 13]), (4, [2, 3, 6, 9, 11, 12, 13, 29]), (5, [6, 7]), (6, [2, 3, 6, 11, 12, 13]), (7, [6, 7])]
def f18v : List Nat := [4, 3]

/-! 19: (*mortise/layout.looker).look, parameters [54, 3], results [56] -/
def f19r0 : List AOper := [
  ⟨(some 4), .alloc false [(.int .i64 0), (.int .i64 0), (.is [] .nil)], none, 0, 0⟩]
def f19r1 : List AOper := [
  ⟨(some 13), .move (.t 0), none, 0, 0⟩,
  ⟨(some 14), .nilCheck (.t 13), none, 0, 1⟩,
  ⟨(some 15), .fieldAddr 1 (.t 14), none, 0, 3⟩,
  ⟨(some 16), .load false 1 (.t 15), none, 0, 7⟩,
  ⟨(some 17), .move (.t 1), none, 0, 0⟩,
  ⟨(some 18), .lookup false [.int .i64] (.agg [(.int .i64 0), (.int .i64 0), (.is [] .nil)]) true (.t 16) (.t 17), none, 0, 31⟩,
  ⟨(some 12), .move (.t 18), none, 0, 63⟩,
  ⟨(some 19), .extract (.t 12) 0, none, 0, 127⟩,
  ⟨(some 20), .extract (.t 12) 1, none, 0, 127⟩,
  ⟨(some 5), .alloc false [(.int .i64 0), (.int .i64 0), (.is [] .nil)], none, 0, 0⟩,
  ⟨none, .store 3 (.t 5) (.t 19), none, 1, 767⟩,
  ⟨(some 6), .move (.t 20), none, 1, 2047⟩]
def f19r2 : List AOper := [
  ⟨(some 21), .move (.t 6), none, 0, 0⟩]
def f19r3 : List AOper := [
  ⟨(some 22), .load true 3 (.t 5), none, 0, 0⟩,
  ⟨none, .store 3 (.t 4) (.t 22), none, 0, 1⟩]
def f19r4 : List AOper := [
  ⟨(some 24), .move (.t 0), none, 0, 0⟩,
  ⟨(some 25), .nilCheck (.t 24), none, 0, 1⟩,
  ⟨(some 26), .fieldAddr 0 (.t 25), none, 0, 3⟩,
  ⟨(some 27), .load false 1 (.t 26), none, 0, 7⟩,
  ⟨(some 28), .move (.t 1), none, 0, 0⟩,
  ⟨(some 29), .call (.c (.fn 17 [] [])) [(.t 27), (.t 28)], none, 0, 31⟩,
  ⟨(some 23), .move (.t 29), none, 0, 63⟩,
  ⟨(some 30), .extract (.t 23) 0, none, 0, 127⟩,
  ⟨(some 31), .extract (.t 23) 1, none, 0, 127⟩,
  ⟨(some 7), .alloc false [(.int .i64 0), (.int .i64 0), (.int .i64 0), (.str []), (.is [] .nil), (.bool false)], none, 0, 0⟩,
  ⟨none, .store 6 (.t 7) (.t 30), none, 1, 767⟩,
  ⟨(some 8), .move (.t 31), none, 1, 2047⟩]
def f19r5 : List AOper := [
  ⟨(some 9), .alloc false [(.int .i64 0), (.int .i64 0), (.is [] .nil)], none, 0, 0⟩]
def f19r6 : List AOper := [
  ⟨(some 32), .fieldAddr 0 (.t 7), none, 0, 0⟩,
  ⟨(some 33), .load false 1 (.t 32), none, 0, 1⟩]
def f19r7 : List AOper := [
  ⟨(some 41), .bin .eql (.t 33) (.c (.int .i64 14)), none, 0, 0⟩,
  ⟨(some 40), .move (.t 41), none, 0, 1⟩]
def f19r8 : List AOper := [
  ⟨(some 42), .move (.t 0), none, 0, 0⟩,
  ⟨(some 43), .fieldAddr 1 (.t 7), none, 0, 0⟩,
  ⟨(some 44), .load false 1 (.t 43), none, 0, 2⟩,
  ⟨(some 45), .call (.c (.fn 19 [] [])) [(.t 42), (.t 44)], none, 0, 7⟩,
  ⟨(some 10), .alloc false [(.int .i64 0), (.int .i64 0), (.is [] .nil)], none, 0, 0⟩,
  ⟨none, .store 3 (.t 10) (.t 45), none, 1, 31⟩]
def f19r9 : List AOper := [
  ⟨(some 46), .fieldAddr 2 (.t 7), none, 0, 0⟩,
  ⟨(some 47), .load false 1 (.t 46), none, 0, 1⟩,
  ⟨(some 48), .fieldAddr 0 (.t 10), none, 0, 0⟩,
  ⟨(some 49), .load false 1 (.t 48), none, 0, 4⟩,
  ⟨(some 50), .bin .mul (.t 47) (.t 49), none, 0, 15⟩,
  ⟨(some 51), .fieldAddr 1 (.t 10), none, 0, 0⟩,
  ⟨(some 52), .load false 1 (.t 51), none, 0, 32⟩,
  ⟨(some 53), .build [(.int .i64 0), (.int .i64 0), (.is [] .nil)] [(0, 1, (.t 50)), (1, 1, (.t 52))], none, 0, 127⟩,
  ⟨none, .store 3 (.t 9) (.t 53), none, 0, 255⟩]
def f19r10 : List AOper := [
  ⟨(some 55), .bin .eql (.t 33) (.c (.int .i64 15)), none, 0, 0⟩,
  ⟨(some 54), .move (.t 55), none, 0, 1⟩]
def f19r11 : List AOper := [
  ⟨(some 56), .move (.t 0), none, 0, 0⟩,
  ⟨(some 57), .load true 6 (.t 7), none, 0, 0⟩,
  ⟨(some 58), .call (.c (.fn 31 [] [])) [(.t 56), (.t 57)], none, 0, 3⟩,
  ⟨none, .store 3 (.t 9) (.t 58), none, 0, 7⟩]
def f19r12 : List AOper := [
  ⟨(some 60), .bin .eql (.t 33) (.c (.int .i64 16)), none, 0, 0⟩,
  ⟨(some 59), .move (.t 60), none, 0, 1⟩]
def f19r13 : List AOper := [
  ⟨(some 61), .move (.t 0), none, 0, 0⟩,
  ⟨(some 62), .load true 6 (.t 7), none, 0, 0⟩,
  ⟨(some 63), .call (.c (.fn 32 [] [])) [(.t 61), (.t 62)], none, 0, 3⟩,
  ⟨none, .store 3 (.t 9) (.t 63), none, 0, 7⟩]
def f19r14 : List AOper := [
  ⟨(some 34), .fieldAddr 0 (.t 7), none, 0, 0⟩,
  ⟨(some 35), .load false 1 (.t 34), none, 0, 1⟩,
  ⟨(some 36), .call (.c (.fn 33 [] [])) [(.t 35)], none, 0, 3⟩,
  ⟨(some 11), .move (.t 36), none, 0, 7⟩]
def f19r15 : List AOper := [
  ⟨(some 37), .move (.t 11), none, 0, 0⟩,
  ⟨(some 38), .move (.t 11), none, 0, 0⟩,
  ⟨(some 39), .build [(.int .i64 0), (.int .i64 0), (.is [] .nil)] [(0, 1, (.t 37)), (1, 1, (.t 38))], none, 0, 3⟩,
  ⟨none, .store 3 (.t 9) (.t 39), none, 0, 7⟩]
def f19r16 : List AOper := [
  ⟨(some 64), .fieldAddr 0 (.t 9), none, 0, 0⟩,
  ⟨(some 65), .load false 1 (.t 64), none, 0, 1⟩,
  ⟨(some 66), .bin .gtr (.t 65) (.c (.int .i64 16384)), none, 0, 3⟩]
def f19r17 : List AOper := [
  ⟨(some 67), .move (.t 0), none, 0, 0⟩,
  ⟨(some 68), .nilCheck (.t 67), none, 0, 1⟩,
  ⟨(some 69), .fieldAddr 2 (.t 68), none, 0, 3⟩,
  ⟨none, .store 1 (.t 69) (.c (.bool true)), none, 0, 7⟩]
def f19r18 : List AOper := [
  ⟨(some 70), .fieldAddr 0 (.t 9), none, 0, 0⟩,
  ⟨none, .store 1 (.t 70) (.c (.int .i64 16385)), none, 0, 1⟩]
def f19q19 : List AOper := [
  ⟨(some 71), .move (.t 0), none, 0, 0⟩,
  ⟨(some 72), .nilCheck (.t 71), none, 0, 1⟩,
  ⟨(some 73), .fieldAddr 1 (.t 72), none, 0, 3⟩,
  ⟨(some 74), .load false 1 (.t 73), none, 0, 7⟩,
  ⟨(some 75), .move (.t 1), none, 0, 0⟩,
  ⟨(some 76), .load true 3 (.t 9), none, 0, 0⟩,
  ⟨none, .mapUpdate false [.int .i64] (.t 74) (.t 75) (.t 76), none, 0, 63⟩]
def f19r19 : List AOper := f19q19
def f19r20 : List AOper := [
  ⟨(some 77), .load true 3 (.t 9), none, 0, 0⟩,
  ⟨none, .store 3 (.t 4) (.t 77), none, 0, 1⟩]
theorem f19r19_s : staticOK 0 f19r19 = true := by rfl
theorem f19r19_w {A : Tab} {nt : Nat} {keep : List Nat} {n : Nat} {e : Env} {h : Heap} (hr : (bkeep keep (stepsF nt (stepF A true) h.length f19r19 e (h ++ List.replicate n .free))).isSome = true) : Brun A nt (.region true f19r19 keep n) e h = bkeep keep (stepsF nt (stepF A true) h.length f19r19 e (h ++ List.replicate n .free)) := Brun_drawnS f19r19_s hr
theorem f19r19_u (nt base : Nat) (step : Nat → AOp → Env → Heap → Option (AV × Heap)) (e : Env) (h : Heap) : stepsF nt step base f19r19 e h = stepsF nt step base f19q19 e h := rfl
def f19c : ACode :=
  .seq (.region false f19r0 [0, 1, 4] 1)
  (.seq (.seq (.region false f19r1 [0, 1, 4, 5, 6] 1)
  (.seq (.region false f19r2 [0, 1, 4, 5, 21] 0)
  (.cond (.t 21)
    (.seq (.region false f19r3 [4] 0)
    (.ret))
    (.skip))))
  (.seq (.region false f19r4 [0, 1, 4, 7] 1)
  (.seq (.region false f19r5 [0, 1, 4, 7, 9] 1)
  (.seq (.seq (.region false f19r6 [0, 1, 4, 7, 9, 33] 0)
  (.block 0 (.seq (.region false f19r7 [0, 1, 4, 7, 9, 33, 40] 0)
    (.cond (.t 40)
      (.seq (.region false f19r8 [0, 1, 4, 7, 9, 10] 1)
      (.region false f19r9 [0, 1, 4, 9] 0))
      (.seq (.region false f19r10 [0, 1, 4, 7, 9, 33, 54] 0)
      (.cond (.t 54)
        (.region false f19r11 [0, 1, 4, 9] 0)
        (.seq (.region false f19r12 [0, 1, 4, 7, 9, 59] 0)
        (.cond (.t 59)
          (.region false f19r13 [0, 1, 4, 9] 0)
          (.seq (.region false f19r14 [0, 1, 4, 9, 11] 0)
          (.region false f19r15 [0, 1, 4, 9] 0))))))))))
  (.seq (.seq (.region false f19r16 [0, 1, 4, 9, 66] 0)
  (.cond (.t 66)
    (.seq (.region false f19r17 [0, 1, 4, 9] 0)
    (.region false f19r18 [0, 1, 4, 9] 0))
    (.skip)))
  (.seq (.region true f19r19 [4, 9] 0)
  (.seq (.region false f19r20 [4] 0)
  (.ret))))))))
def f19 : AFn := ⟨2, 78, [.cell 4 true 3], f19c, 1, none⟩
def f19k : List (Nat × List Nat) := [(0, [0, 1, 4]), (1, [0, 1, 4, 5, 6]), (2, [0, 1, 4, 5, 21]), (3, [4]), (4, [0, 1, 4, 7]), (5, [0, 1, 4, 7, 9]), (6, [0, 1, 4, 7, 9, 33]), (9, [0, 1, 4, 7, 9, 33, 40]), (12, [0, 1, 4, 7, 9, 33, 54]), (14, [0, 1, 4, 7, 9, 59]), (7, [0, 1, 4, 9, 11]), (8, [0, 1, 4, 9]), (15, [0, 1, 4, 9]), (13, [0, 1, 4, 9]), (10, [0, 1, 4, 7, 9, 10]), (11, [0, 1, 4, 9]), (16, [0, 1, 4, 9, 66]), (17, [0, 1, 4, 9]), (18, [0, 1, 4, 9]), (19, [4, 9]), (20, [4])]
def f19v : List Nat := []

/-! 20: (*mortise/layout.looker).has, parameters [54, 3, 3, 72], results [] -/
def f20r0 : List AOper := [
  ⟨(some 17), .move (.t 0), none, 0, 0⟩,
  ⟨(some 18), .nilCheck (.t 17), none, 0, 1⟩,
  ⟨(some 19), .fieldAddr 0 (.t 18), none, 0, 3⟩,
  ⟨(some 20), .load false 1 (.t 19), none, 0, 7⟩,
  ⟨(some 21), .move (.t 1), none, 0, 0⟩,
  ⟨(some 22), .call (.c (.fn 17 [] [])) [(.t 20), (.t 21)], none, 0, 31⟩,
  ⟨(some 16), .move (.t 22), none, 0, 63⟩,
  ⟨(some 23), .extract (.t 16) 0, none, 0, 127⟩,
  ⟨(some 24), .extract (.t 16) 1, none, 0, 127⟩,
  ⟨(some 8), .alloc false [(.int .i64 0), (.int .i64 0), (.int .i64 0), (.str []), (.is [] .nil), (.bool false)], none, 0, 0⟩,
  ⟨none, .store 6 (.t 8) (.t 23), none, 1, 767⟩,
  ⟨(some 9), .move (.t 24), none, 1, 2047⟩]
def f20r1 : List AOper := [
  ⟨(some 25), .move (.t 0), none, 0, 0⟩,
  ⟨(some 26), .move (.t 1), none, 0, 0⟩,
  ⟨(some 27), .call (.c (.fn 19 [] [])) [(.t 25), (.t 26)], none, 0, 3⟩,
  ⟨(some 10), .alloc false [(.int .i64 0), (.int .i64 0), (.is [] .nil)], none, 0, 0⟩,
  ⟨none, .store 3 (.t 10) (.t 27), none, 1, 15⟩]
def f20r2 : List AOper := [
  ⟨(some 28), .fieldAddr 0 (.t 8), none, 0, 0⟩,
  ⟨(some 29), .load false 1 (.t 28), none, 0, 1⟩]
def f20r3 : List AOper := [
  ⟨(some 37), .bin .eql (.t 29) (.c (.int .i64 14)), none, 0, 0⟩,
  ⟨(some 36), .move (.t 37), none, 0, 1⟩]
def f20r4 : List AOper := [
  ⟨(some 38), .move (.t 0), none, 0, 0⟩,
  ⟨(some 39), .fieldAddr 1 (.t 8), none, 0, 0⟩,
  ⟨(some 40), .load false 1 (.t 39), none, 0, 2⟩,
  ⟨(some 41), .call (.c (.fn 19 [] [])) [(.t 38), (.t 40)], none, 0, 7⟩,
  ⟨(some 42), .field false 0 1 (.t 41), none, 0, 15⟩,
  ⟨(some 11), .move (.t 42), none, 0, 31⟩]
def f20r5 : List AOper := [
  ⟨(some 43), .fieldAddr 2 (.t 8), none, 0, 0⟩,
  ⟨(some 44), .load false 1 (.t 43), none, 0, 1⟩,
  ⟨(some 45), .move (.c (.int .i64 0)), none, 0, 0⟩]
def f20r6 : List AOper := [
  ⟨(some 46), .bin .lss (.t 45) (.t 44), none, 0, 0⟩]
def f20r7 : List AOper := [
  ⟨(some 47), .move (.t 45), none, 0, 0⟩,
  ⟨(some 12), .move (.t 47), none, 0, 1⟩]
def f20r8 : List AOper := [
  ⟨(some 48), .move (.t 0), none, 0, 0⟩,
  ⟨(some 49), .fieldAddr 1 (.t 8), none, 0, 0⟩,
  ⟨(some 50), .load false 1 (.t 49), none, 0, 2⟩,
  ⟨(some 51), .move (.t 2), none, 0, 0⟩,
  ⟨(some 52), .move (.t 11), none, 0, 0⟩,
  ⟨(some 53), .bin .mul (.c (.int .i64 8)) (.t 52), none, 0, 16⟩,
  ⟨(some 54), .move (.t 12), none, 0, 0⟩,
  ⟨(some 55), .bin .mul (.t 53) (.t 54), none, 0, 112⟩,
  ⟨(some 56), .bin .add (.t 51) (.t 55), none, 0, 248⟩,
  ⟨(some 57), .move (.t 3), none, 0, 0⟩,
  ⟨(some 58), .call (.c (.fn 20 [] [])) [(.t 48), (.t 50), (.t 56), (.t 57)], none, 0, 1023⟩]
def f20r9 : List AOper := [
  ⟨(some 59), .bin .add (.t 45) (.c (.int .i64 1)), none, 0, 0⟩,
  ⟨(some 45), .move (.t 59), none, 0, 1⟩]
def f20m6 : ACode :=
  .seq (.region false f20r6 [0, 2, 3, 8, 11, 44, 45, 46] 0)
  (.seq (.cond (.t 46)
    (.skip)
    (.exit 1))
  (.seq (.block 2 (.seq (.region false f20r7 [0, 2, 3, 8, 11, 12, 44, 45] 0)
    (.region false f20r8 [0, 2, 3, 8, 11, 44, 45] 0)))
  (.region false f20r9 [0, 2, 3, 8, 11, 44, 45] 0)))
def f20l6 : ACode := f20m6
theorem f20l6_b {A : Tab} {nt : Nat} {e : Env} {h : Heap} : Brun A nt f20l6 e h = Brun A nt f20m6 e h := rfl
def f20r10 : List AOper := [
  ⟨(some 61), .bin .eql (.t 29) (.c (.int .i64 15)), none, 0, 0⟩,
  ⟨(some 60), .move (.t 61), none, 0, 1⟩]
def f20r11 : List AOper := [
  ⟨(some 62), .bin .eql (.t 29) (.c (.int .i64 16)), none, 0, 0⟩,
  ⟨(some 60), .move (.t 62), none, 0, 1⟩]
def f20r12 : List AOper := [
  ⟨(some 63), .fieldAddr 2 (.t 10), none, 0, 0⟩,
  ⟨(some 64), .load false 1 (.t 63), none, 0, 1⟩,
  ⟨(some 65), .len 1 (.t 64), none, 0, 3⟩,
  ⟨(some 66), .move (.c (.int .i64 0)), none, 0, 0⟩]
def f20r13 : List AOper := [
  ⟨(some 67), .bin .lss (.t 66) (.t 65), none, 0, 0⟩]
def f20r14 : List AOper := [
  ⟨(some 68), .idxAddr 5 (.t 64) (.t 66), none, 0, 0⟩,
  ⟨(some 69), .load true 5 (.t 68), none, 0, 1⟩,
  ⟨(some 14), .alloc false (List.replicate 5 (.int .i64 0)), none, 0, 0⟩,
  ⟨none, .store 5 (.t 14) (.t 69), none, 1, 7⟩]
def f20r15 : List AOper := [
  ⟨(some 70), .fieldAddr 4 (.t 8), none, 0, 0⟩,
  ⟨(some 71), .load false 1 (.t 70), none, 0, 1⟩,
  ⟨(some 72), .fieldAddr 0 (.t 14), none, 0, 0⟩,
  ⟨(some 73), .load false 1 (.t 72), none, 0, 4⟩,
  ⟨(some 74), .idxAddr 3 (.t 71) (.t 73), none, 0, 15⟩,
  ⟨(some 75), .load true 3 (.t 74), none, 0, 31⟩,
  ⟨(some 15), .alloc false [(.str []), (.int .i64 0), (.int .i64 0)], none, 0, 0⟩,
  ⟨none, .store 3 (.t 15) (.t 75), none, 1, 127⟩]
def f20r16 : List AOper := [
  ⟨(some 77), .fieldAddr 2 (.t 15), none, 0, 0⟩,
  ⟨(some 78), .load false 1 (.t 77), none, 0, 1⟩,
  ⟨(some 79), .bin .lss (.t 78) (.c (.int .i64 0)), none, 0, 3⟩,
  ⟨(some 76), .move (.t 79), none, 0, 7⟩]
def f20r17 : List AOper := [
  ⟨(some 80), .move (.t 0), none, 0, 0⟩,
  ⟨(some 81), .fieldAddr 1 (.t 14), none, 0, 0⟩,
  ⟨(some 82), .load false 1 (.t 81), none, 0, 2⟩,
  ⟨(some 83), .move (.t 2), none, 0, 0⟩,
  ⟨(some 84), .fieldAddr 2 (.t 14), none, 0, 0⟩,
  ⟨(some 85), .load false 1 (.t 84), none, 0, 16⟩,
  ⟨(some 86), .bin .mul (.c (.int .i64 8)) (.t 85), none, 0, 48⟩,
  ⟨(some 87), .bin .add (.t 83) (.t 86), none, 0, 120⟩,
  ⟨(some 88), .move (.t 3), none, 0, 0⟩,
  ⟨(some 89), .call (.c (.fn 20 [] [])) [(.t 80), (.t 82), (.t 87), (.t 88)], none, 0, 511⟩]
def f20r18 : List AOper := [
  ⟨(some 91), .fieldAddr 0 (.t 15), none, 0, 0⟩,
  ⟨(some 92), .load false 1 (.t 91), none, 0, 1⟩,
  ⟨(some 93), .bin .neq (.t 92) (.c (.str [])), none, 0, 3⟩,
  ⟨(some 90), .move (.t 93), none, 0, 7⟩]
def f20r19 : List AOper := [
  ⟨(some 94), .move (.t 3), none, 0, 0⟩,
  ⟨(some 95), .move (.t 2), none, 0, 0⟩,
  ⟨(some 96), .fieldAddr 2 (.t 14), none, 0, 0⟩,
  ⟨(some 97), .load false 1 (.t 96), none, 0, 4⟩,
  ⟨(some 98), .bin .mul (.c (.int .i64 8)) (.t 97), none, 0, 12⟩,
  ⟨(some 99), .bin .add (.t 95) (.t 98), none, 0, 30⟩,
  ⟨(some 100), .fieldAddr 3 (.t 14), none, 0, 0⟩,
  ⟨(some 101), .load false 1 (.t 100), none, 0, 64⟩,
  ⟨(some 102), .bin .add (.t 99) (.t 101), none, 0, 254⟩,
  ⟨(some 103), .fieldAddr 4 (.t 14), none, 0, 0⟩,
  ⟨(some 104), .load false 1 (.t 103), none, 0, 512⟩,
  ⟨(some 105), .call (.t 94) [(.t 102), (.t 104)], none, 0, 2047⟩]
def f20r20 : List AOper := [
  ⟨(some 106), .bin .add (.t 66) (.c (.int .i64 1)), none, 0, 0⟩,
  ⟨(some 66), .move (.t 106), none, 0, 1⟩]
def f20m13 : ACode :=
  .seq (.region false f20r13 [0, 2, 3, 8, 64, 65, 66, 67] 0)
  (.seq (.cond (.t 67)
    (.skip)
    (.exit 3))
  (.seq (.block 4 (.seq (.region false f20r14 [0, 2, 3, 8, 14, 64, 65, 66] 1)
    (.seq (.region false f20r15 [0, 2, 3, 8, 14, 15, 64, 65, 66] 1)
    (.block 5 (.seq (.region false f20r16 [0, 2, 3, 8, 14, 15, 64, 65, 66, 76] 0)
      (.cond (.t 76)
        (.region false f20r17 [0, 2, 3, 8, 64, 65, 66] 0)
        (.seq (.region false f20r18 [0, 2, 3, 8, 14, 64, 65, 66, 90] 0)
        (.cond (.t 90)
          (.region false f20r19 [0, 2, 3, 8, 64, 65, 66] 0)
          (.skip)))))))))
  (.region false f20r20 [0, 2, 3, 8, 64, 65, 66] 0)))
def f20l13 : ACode := f20m13
theorem f20l13_b {A : Tab} {nt : Nat} {e : Env} {h : Heap} : Brun A nt f20l13 e h = Brun A nt f20m13 e h := rfl
def f20r21 : List AOper := [
  ⟨(some 30), .move (.t 3), none, 0, 0⟩,
  ⟨(some 31), .move (.t 2), none, 0, 0⟩,
  ⟨(some 32), .fieldAddr 0 (.t 10), none, 0, 0⟩,
  ⟨(some 33), .load false 1 (.t 32), none, 0, 4⟩,
  ⟨(some 34), .bin .mul (.c (.int .i64 8)) (.t 33), none, 0, 12⟩,
  ⟨(some 35), .call (.t 30) [(.t 31), (.t 34)], none, 0, 31⟩]
def f20c : ACode :=
  .seq (.region false f20r0 [0, 1, 2, 3, 8] 1)
  (.seq (.region false f20r1 [0, 2, 3, 8, 10] 1)
  (.seq (.region false f20r2 [0, 2, 3, 8, 10, 29] 0)
  (.block 0 (.seq (.region false f20r3 [0, 2, 3, 8, 10, 29, 36] 0)
    (.cond (.t 36)
      (.seq (.region false f20r4 [0, 2, 3, 8, 11] 0)
      (.seq (.region false f20r5 [0, 2, 3, 8, 11, 44, 45] 0)
      (.block 1 (.loop f20l6))))
      (.seq (.seq (.region false f20r10 [0, 2, 3, 8, 10, 29, 60] 0)
      (.cond (.t 60)
        (.skip)
        (.region false f20r11 [0, 2, 3, 8, 10, 60] 0)))
      (.cond (.t 60)
        (.seq (.region false f20r12 [0, 2, 3, 8, 64, 65, 66] 0)
        (.block 3 (.loop f20l13)))
        (.region false f20r21 [] 0))))))))
def f20 : AFn := ⟨4, 107, [], f20c, 1, none⟩
def f20k : List (Nat × List Nat) := [(0, [0, 1, 2, 3, 8]), (1, [0, 2, 3, 8, 10]), (2, [0, 2, 3, 8, 10, 29]), (4, [0, 2, 3, 8, 10, 29, 36]), (11, [0, 2, 3, 8, 10, 29, 60]), (12, [0, 2, 3, 8, 10, 60]), (3, []), (13, [0, 2, 3, 8, 64, 65, 66]), (14, [0, 2, 3, 8, 64, 65, 66, 67]), (15, [0, 2, 3, 8, 14, 64, 65, 66]), (16, [0, 2, 3, 8, 14, 15, 64, 65, 66]), (17, [0, 2, 3, 8, 14, 15, 64, 65, 66, 76]), (19, [0, 2, 3, 8, 14, 64, 65, 66, 90]), (20, [0, 2, 3, 8, 64, 65, 66]), (18, [0, 2, 3, 8, 64, 65, 66]), (21, [0, 2, 3, 8, 64, 65, 66]), (5, [0, 2, 3, 8, 11]), (6, [0, 2, 3, 8, 11, 44, 45]), (7, [0, 2, 3, 8, 11, 44, 45, 46]), (8, [0, 2, 3, 8, 11, 12, 44, 45]), (9, [0, 2, 3, 8, 11, 44, 45]), (10, [0, 2, 3, 8, 11, 44, 45])]
def f20v : List Nat := []

/-! 21: mortise/layout.Gaps$1, parameters [3, 3], results [] -/
def f21r0 : List AOper := [
  ⟨(some 6), .move (.t 1), none, 0, 0⟩,
  ⟨(some 7), .move (.c (.int .i64 0)), none, 0, 0⟩]
def f21r1 : List AOper := [
  ⟨(some 8), .bin .lss (.t 7) (.t 6), none, 0, 0⟩]
def f21r2 : List AOper := [
  ⟨(some 9), .move (.t 7), none, 0, 0⟩,
  ⟨(some 5), .move (.t 9), none, 0, 1⟩]
def f21r3 : List AOper := [
  ⟨(some 10), .load false 1 (.t 2), none, 0, 0⟩,
  ⟨(some 11), .move (.t 0), none, 0, 0⟩,
  ⟨(some 12), .move (.t 5), none, 0, 0⟩,
  ⟨(some 13), .bin .add (.t 11) (.t 12), none, 0, 6⟩,
  ⟨(some 14), .idxAddr 1 (.t 10) (.t 13), none, 0, 15⟩,
  ⟨none, .store 1 (.t 14) (.c (.int .u8 1)), none, 0, 31⟩]
def f21r4 : List AOper := [
  ⟨(some 15), .bin .add (.t 7) (.c (.int .i64 1)), none, 0, 0⟩,
  ⟨(some 7), .move (.t 15), none, 0, 1⟩]
def f21m1 : ACode :=
  .seq (.region false f21r1 [0, 2, 6, 7, 8] 0)
  (.seq (.cond (.t 8)
    (.skip)
    (.exit 0))
  (.seq (.block 1 (.seq (.region false f21r2 [0, 2, 5, 6, 7] 0)
    (.region false f21r3 [0, 2, 6, 7] 0)))
  (.region false f21r4 [0, 2, 6, 7] 0)))
def f21l1 : ACode := f21m1
theorem f21l1_b {A : Tab} {nt : Nat} {e : Env} {h : Heap} : Brun A nt f21l1 e h = Brun A nt f21m1 e h := rfl
def f21c : ACode :=
  .seq (.region false f21r0 [0, 2, 6, 7] 0)
  (.block 0 (.loop f21l1))
def f21 : AFn := ⟨3, 16, [], f21c, 1, none⟩
def f21k : List (Nat × List Nat) := [(0, [0, 2, 6, 7]), (1, [0, 2, 6, 7, 8]), (2, [0, 2, 5, 6, 7]), (3, [0, 2, 6, 7]), (4, [0, 2, 6, 7])]
def f21v : List Nat := []

/-! 22: (*mortise/ctype.Table).tagged, parameters [23, 60, 9], results [3, 31] -/
def f22r0 : List AOper := [
  ⟨(some 6), .move (.c (.int .i64 0)), none, 0, 0⟩,
  ⟨(some 7), .move (.c (.int .i64 0)), none, 0, 1⟩]
def f22r1 : List AOper := [
  ⟨(some 9), .move (.t 0), none, 0, 0⟩,
  ⟨(some 10), .call (.c (.fn 23 [] [])) [(.t 9)], none, 0, 1⟩,
  ⟨(some 11), .un .not (.t 10), none, 0, 3⟩,
  ⟨(some 8), .move (.t 11), none, 0, 7⟩]
def f22r2 : List AOper := [
  ⟨(some 6), .move (.c (.int .i64 0)), none, 0, 0⟩,
  ⟨(some 7), .move (.c (.int .i64 1)), none, 0, 1⟩]
def f22r3 : List AOper := [
  ⟨(some 13), .move (.t 2), none, 0, 0⟩,
  ⟨(some 14), .call (.c (.fn 34 [] [])) [(.t 13)], none, 0, 1⟩,
  ⟨(some 15), .un .not (.t 14), none, 0, 3⟩,
  ⟨(some 12), .move (.t 15), none, 0, 7⟩]
def f22r4 : List AOper := [
  ⟨(some 6), .move (.c (.int .i64 0)), none, 0, 0⟩,
  ⟨(some 7), .move (.c (.int .i64 31)), none, 0, 1⟩]
def f22r5 : List AOper := [
  ⟨(some 16), .move (.t 0), none, 0, 0⟩,
  ⟨(some 17), .move (.t 1), none, 0, 0⟩,
  ⟨(some 18), .move (.t 2), none, 0, 0⟩,
  ⟨(some 19), .build [(.int .i64 0), (.int .i64 0), (.int .i64 0), (.str []), (.is [] .nil), (.bool false)] [(0, 1, (.t 17)), (3, 1, (.t 18))], none, 0, 6⟩,
  ⟨(some 20), .call (.c (.fn 35 [] [])) [(.t 16), (.t 19)], none, 0, 15⟩,
  ⟨(some 21), .extract (.t 20) 0, none, 0, 31⟩,
  ⟨(some 22), .extract (.t 20) 1, none, 0, 31⟩,
  ⟨(some 6), .move (.t 21), none, 0, 127⟩,
  ⟨(some 7), .move (.t 22), none, 0, 255⟩]
def f22c : ACode :=
  .seq (.region false f22r0 [0, 1, 2] 0)
  (.seq (.block 0 (.seq (.region false f22r1 [0, 1, 2, 8] 0)
    (.cond (.t 8)
      (.seq (.region false f22r2 [6, 7] 0)
      (.ret))
      (.seq (.region false f22r3 [0, 1, 2, 12] 0)
      (.cond (.t 12)
        (.seq (.region false f22r4 [6, 7] 0)
        (.ret))
        (.skip))))))
  (.seq (.region false f22r5 [6, 7] 0)
  (.ret)))
def f22 : AFn := ⟨3, 23, [.tmp 6, .tmp 7], f22c, 1, none⟩
def f22k : List (Nat × List Nat) := [(0, [0, 1, 2]), (1, [0, 1, 2, 8]), (3, [0, 1, 2, 12]), (4, [6, 7]), (2, [6, 7]), (5, [6, 7])]
def f22v : List Nat := []

/-! 23: (*mortise/ctype.Table).alive, parameters [23], results [4] -/
def f23r0 : List AOper := [
  ⟨(some 2), .move (.c (.bool false)), none, 0, 0⟩]
def f23r1 : List AOper := [
  ⟨(some 3), .move (.t 0), none, 0, 0⟩,
  ⟨(some 4), .eq true .ptr (.t 3) (.c .nilp), none, 0, 1⟩,
  ⟨(some 5), .move (.t 4), none, 0, 3⟩,
  ⟨(some 6), .move (.t 0), (some (5, true)), 0, 7⟩,
  ⟨(some 7), .nilCheck (.t 6), (some (5, true)), 0, 15⟩,
  ⟨(some 8), .fieldAddr 1 (.t 7), (some (5, true)), 0, 31⟩,
  ⟨(some 9), .load false 1 (.t 8), (some (5, true)), 0, 63⟩,
  ⟨(some 10), .eq true .map (.t 9) (.c .nilm), (some (5, true)), 0, 127⟩,
  ⟨(some 11), .pick (.t 5) (.t 10) (.c (.bool false)), none, 0, 255⟩,
  ⟨(some 2), .move (.t 11), none, 0, 511⟩]
def f23c : ACode :=
  .seq (.region false f23r0 [0] 0)
  (.seq (.region false f23r1 [2] 0)
  (.ret))
def f23 : AFn := ⟨1, 12, [.tmp 2], f23c, 1, none⟩
def f23k : List (Nat × List Nat) := [(0, [0]), (1, [2])]
def f23v : List Nat := []

/-! 24: (*mortise/ctype.Table).record, parameters [23, 3], results [4] -/
def f24r0 : List AOper := [
  ⟨(some 4), .move (.c (.bool false)), none, 0, 0⟩]
def f24r1 : List AOper := [
  ⟨(some 6), .move (.t 0), none, 0, 0⟩,
  ⟨(some 7), .move (.t 1), none, 0, 0⟩,
  ⟨(some 8), .call (.c (.fn 36 [] [])) [(.t 6), (.t 7)], none, 0, 3⟩,
  ⟨(some 5), .move (.t 8), none, 0, 7⟩]
def f24r2 : List AOper := [
  ⟨(some 9), .move (.t 5), none, 0, 0⟩,
  ⟨(some 10), .bin .eql (.t 9) (.c (.int .i64 15)), none, 0, 1⟩,
  ⟨(some 11), .move (.t 10), none, 0, 3⟩,
  ⟨(some 12), .move (.t 5), (some (11, false)), 0, 7⟩,
  ⟨(some 13), .bin .eql (.t 12) (.c (.int .i64 16)), (some (11, false)), 0, 15⟩,
  ⟨(some 14), .pick (.t 11) (.c (.bool true)) (.t 13), none, 0, 31⟩,
  ⟨(some 4), .move (.t 14), none, 0, 63⟩]
def f24c : ACode :=
  .seq (.region false f24r0 [0, 1] 0)
  (.seq (.region false f24r1 [5] 0)
  (.seq (.region false f24r2 [4] 0)
  (.ret)))
def f24 : AFn := ⟨2, 15, [.tmp 4], f24c, 1, none⟩
def f24k : List (Nat × List Nat) := [(0, [0, 1]), (1, [5]), (2, [4])]
def f24v : List Nat := []

/-! 25: (*mortise/ctype.Table).members, parameters [23, 51], results [31] -/
def f25r0 : List AOper := [
  ⟨(some 4), .move (.c (.int .i64 0)), none, 0, 0⟩]
def f25r1 : List AOper := [
  ⟨(some 8), .move (.t 1), none, 0, 0⟩,
  ⟨(some 9), .len 1 (.t 8), none, 0, 1⟩,
  ⟨(some 10), .bin .lss (.t 9) (.c (.int .i64 1)), none, 0, 3⟩,
  ⟨(some 11), .move (.t 10), none, 0, 7⟩,
  ⟨(some 12), .move (.t 1), (some (11, false)), 0, 15⟩,
  ⟨(some 13), .len 1 (.t 12), (some (11, false)), 0, 31⟩,
  ⟨(some 14), .bin .gtr (.t 13) (.c (.int .i64 64)), (some (11, false)), 0, 63⟩,
  ⟨(some 15), .pick (.t 11) (.c (.bool true)) (.t 14), none, 0, 127⟩]
def f25r2 : List AOper := [
  ⟨(some 4), .move (.c (.int .i64 2)), none, 0, 0⟩]
def f25r3 : List AOper := [
  ⟨(some 16), .mkMap, none, 0, 0⟩,
  ⟨(some 5), .move (.t 16), none, 1, 1⟩]
def f25r4 : List AOper := [
  ⟨(some 17), .move (.t 1), none, 0, 0⟩,
  ⟨(some 18), .len 1 (.t 17), none, 0, 1⟩,
  ⟨(some 19), .move (.c (.int .i64 0)), none, 0, 0⟩]
def f25r5 : List AOper := [
  ⟨(some 20), .bin .lss (.t 19) (.t 18), none, 0, 0⟩]
def f25r6 : List AOper := [
  ⟨(some 21), .idxAddr 3 (.t 17) (.t 19), none, 0, 0⟩,
  ⟨(some 22), .load true 3 (.t 21), none, 0, 1⟩,
  ⟨(some 7), .alloc false [(.str []), (.int .i64 0), (.int .i64 0)], none, 0, 0⟩,
  ⟨none, .store 3 (.t 7) (.t 22), none, 1, 7⟩]
def f25r7 : List AOper := [
  ⟨(some 24), .move (.t 0), none, 0, 0⟩,
  ⟨(some 25), .fieldAddr 1 (.t 7), none, 0, 0⟩,
  ⟨(some 26), .load false 1 (.t 25), none, 0, 2⟩,
  ⟨(some 27), .call (.c (.fn 29 [] [])) [(.t 24), (.t 26)], none, 0, 7⟩,
  ⟨(some 28), .un .not (.t 27), none, 0, 15⟩,
  ⟨(some 23), .move (.t 28), none, 0, 31⟩]
def f25r8 : List AOper := [
  ⟨(some 4), .move (.c (.int .i64 30)), none, 0, 0⟩]
def f25r9 : List AOper := [
  ⟨(some 30), .move (.t 0), none, 0, 0⟩,
  ⟨(some 31), .fieldAddr 1 (.t 7), none, 0, 0⟩,
  ⟨(some 32), .load false 1 (.t 31), none, 0, 2⟩,
  ⟨(some 33), .call (.c (.fn 28 [] [])) [(.t 30), (.t 32)], none, 0, 7⟩,
  ⟨(some 34), .un .not (.t 33), none, 0, 15⟩,
  ⟨(some 29), .move (.t 34), none, 0, 31⟩]
def f25r10 : List AOper := [
  ⟨(some 4), .move (.c (.int .i64 50)), none, 0, 0⟩]
def f25r11 : List AOper := [
  ⟨(some 36), .fieldAddr 2 (.t 7), none, 0, 0⟩,
  ⟨(some 37), .load false 1 (.t 36), none, 0, 1⟩,
  ⟨(some 38), .bin .neq (.t 37) (.c (.int .i64 (-1))), none, 0, 3⟩,
  ⟨(some 39), .move (.t 38), none, 0, 7⟩,
  ⟨(some 40), .move (.t 0), (some (39, true)), 0, 15⟩,
  ⟨(some 41), .fieldAddr 1 (.t 7), (some (39, true)), 0, 15⟩,
  ⟨(some 42), .load false 1 (.t 41), (some (39, true)), 0, 47⟩,
  ⟨(some 43), .fieldAddr 2 (.t 7), (some (39, true)), 0, 15⟩,
  ⟨(some 44), .load false 1 (.t 43), (some (39, true)), 0, 143⟩,
  ⟨(some 45), .call (.c (.fn 37 [] [])) [(.t 40), (.t 42), (.t 44)], (some (39, true)), 0, 511⟩,
  ⟨(some 46), .un .not (.t 45), (some (39, true)), 0, 1023⟩,
  ⟨(some 47), .pick (.t 39) (.t 46) (.c (.bool false)), none, 0, 2047⟩,
  ⟨(some 35), .move (.t 47), none, 0, 4095⟩]
def f25r12 : List AOper := [
  ⟨(some 4), .move (.c (.int .i64 52)), none, 0, 0⟩]
def f25r13 : List AOper := [
  ⟨(some 49), .fieldAddr 0 (.t 7), none, 0, 0⟩,
  ⟨(some 50), .load false 1 (.t 49), none, 0, 1⟩,
  ⟨(some 51), .bin .eql (.t 50) (.c (.str [])), none, 0, 3⟩,
  ⟨(some 52), .move (.t 51), none, 0, 7⟩,
  ⟨(some 53), .fieldAddr 2 (.t 7), (some (52, true)), 0, 15⟩,
  ⟨(some 54), .load false 1 (.t 53), (some (52, true)), 0, 31⟩,
  ⟨(some 55), .bin .lss (.t 54) (.c (.int .i64 0)), (some (52, true)), 0, 63⟩,
  ⟨(some 56), .pick (.t 52) (.t 55) (.c (.bool false)), none, 0, 127⟩,
  ⟨(some 48), .move (.t 56), none, 0, 255⟩]
def f25r14 : List AOper := [
  ⟨(some 57), .fieldAddr 0 (.t 7), none, 0, 0⟩,
  ⟨(some 58), .load false 1 (.t 57), none, 0, 1⟩,
  ⟨(some 59), .bin .neq (.t 58) (.c (.str [])), none, 0, 3⟩,
  ⟨(some 60), .move (.t 59), none, 0, 7⟩,
  ⟨(some 61), .fieldAddr 0 (.t 7), (some (60, true)), 0, 15⟩,
  ⟨(some 62), .load false 1 (.t 61), (some (60, true)), 0, 31⟩,
  ⟨(some 63), .call (.c (.fn 38 [] [])) [(.t 62)], (some (60, true)), 0, 63⟩,
  ⟨(some 64), .un .not (.t 63), (some (60, true)), 0, 127⟩,
  ⟨(some 65), .move (.t 64), (some (60, true)), 0, 255⟩,
  ⟨(some 66), .fieldAddr 2 (.t 7), (some (65, false)), 0, 511⟩,
  ⟨(some 67), .load false 1 (.t 66), (some (65, false)), 0, 1023⟩,
  ⟨(some 68), .bin .eql (.t 67) (.c (.int .i64 0)), (some (65, false)), 0, 2047⟩,
  ⟨(some 69), .pick (.t 65) (.c (.bool true)) (.t 68), (some (60, true)), 0, 4095⟩,
  ⟨(some 70), .move (.t 69), (some (60, true)), 0, 8191⟩,
  ⟨(some 71), .move (.t 5), (some (70, false)), 0, 16383⟩,
  ⟨(some 72), .fieldAddr 0 (.t 7), (some (70, false)), 0, 16383⟩,
  ⟨(some 73), .load false 1 (.t 72), (some (70, false)), 0, 49151⟩,
  ⟨(some 74), .lookup false [.str] (.int .i64 0) false (.t 71) (.t 73), (some (70, false)), 0, 131071⟩,
  ⟨(some 75), .bin .gtr (.t 74) (.c (.int .i64 0)), (some (70, false)), 0, 262143⟩,
  ⟨(some 76), .pick (.t 70) (.c (.bool true)) (.t 75), (some (60, true)), 0, 524287⟩,
  ⟨(some 77), .pick (.t 60) (.t 76) (.c (.bool false)), none, 0, 1048575⟩,
  ⟨(some 48), .move (.t 77), none, 0, 2097151⟩]
def f25r15 : List AOper := [
  ⟨(some 4), .move (.c (.int .i64 31)), none, 0, 0⟩]
def f25r16 : List AOper := [
  ⟨(some 78), .move (.t 5), none, 0, 0⟩,
  ⟨(some 79), .fieldAddr 0 (.t 7), none, 0, 0⟩,
  ⟨(some 80), .load false 1 (.t 79), none, 0, 2⟩,
  ⟨(some 81), .lookup false [.str] (.int .i64 0) false (.t 78) (.t 80), none, 0, 7⟩,
  ⟨(some 82), .bin .add (.t 81) (.c (.int .i64 1)), none, 0, 15⟩,
  ⟨none, .mapUpdate false [.str] (.t 78) (.t 80) (.t 82), none, 0, 31⟩]
def f25r17 : List AOper := [
  ⟨(some 83), .bin .add (.t 19) (.c (.int .i64 1)), none, 0, 0⟩,
  ⟨(some 19), .move (.t 83), none, 0, 1⟩]
def f25m5 : ACode :=
  .seq (.region false f25r5 [0, 5, 17, 18, 19, 20] 0)
  (.seq (.cond (.t 20)
    (.skip)
    (.exit 0))
  (.seq (.block 1 (.seq (.region false f25r6 [0, 5, 7, 17, 18, 19] 1)
    (.seq (.block 2 (.seq (.region false f25r7 [0, 5, 7, 17, 18, 19, 23] 0)
      (.cond (.t 23)
        (.seq (.region false f25r8 [4] 0)
        (.ret))
        (.seq (.region false f25r9 [0, 5, 7, 17, 18, 19, 29] 0)
        (.cond (.t 29)
          (.seq (.region false f25r10 [4] 0)
          (.ret))
          (.seq (.region false f25r11 [0, 5, 7, 17, 18, 19, 35] 0)
          (.cond (.t 35)
            (.seq (.region false f25r12 [4] 0)
            (.ret))
            (.seq (.seq (.region false f25r13 [0, 5, 7, 17, 18, 19, 48] 0)
            (.cond (.t 48)
              (.skip)
              (.region false f25r14 [0, 5, 7, 17, 18, 19, 48] 0)))
            (.cond (.t 48)
              (.seq (.region false f25r15 [4] 0)
              (.ret))
              (.skip))))))))))
    (.region false f25r16 [0, 5, 17, 18, 19] 0))))
  (.region false f25r17 [0, 5, 17, 18, 19] 0)))
def f25l5 : ACode := f25m5
theorem f25l5_b {A : Tab} {nt : Nat} {e : Env} {h : Heap} : Brun A nt f25l5 e h = Brun A nt f25m5 e h := rfl
def f25r18 : List AOper := [
  ⟨(some 4), .move (.c (.int .i64 0)), none, 0, 0⟩]
def f25c : ACode :=
  .seq (.region false f25r0 [0, 1] 0)
  (.seq (.seq (.region false f25r1 [0, 1, 15] 0)
  (.cond (.t 15)
    (.seq (.region false f25r2 [4] 0)
    (.ret))
    (.skip)))
  (.seq (.region false f25r3 [0, 1, 5] 1)
  (.seq (.seq (.region false f25r4 [0, 5, 17, 18, 19] 0)
  (.block 0 (.loop f25l5)))
  (.seq (.region false f25r18 [4] 0)
  (.ret)))))
def f25 : AFn := ⟨2, 84, [.tmp 4], f25c, 1, none⟩
def f25k : List (Nat × List Nat) := [(0, [0, 1]), (1, [0, 1, 15]), (2, [4]), (3, [0, 1, 5]), (4, [0, 5, 17, 18, 19]), (5, [0, 5, 17, 18, 19, 20]), (6, [0, 5, 7, 17, 18, 19]), (7, [0, 5, 7, 17, 18, 19, 23]), (9, [0, 5, 7, 17, 18, 19, 29]), (11, [0, 5, 7, 17, 18, 19, 35]), (13, [0, 5, 7, 17, 18, 19, 48]), (14, [0, 5, 7, 17, 18, 19, 48]), (15, [4]), (12, [4]), (10, [4]), (8, [4]), (16, [0, 5, 17, 18, 19]), (17, [0, 5, 17, 18, 19]), (18, [4])]
def f25v : List Nat := []

/-! 26: slices.Clone[[]mortise/api.Member,mortise/api.Member], parameters [51], results [51] -/
def f26r0 : List AOper := [
  ⟨(some 2), .move (.c (.is [] .nil)), none, 0, 0⟩]
def f26r1 : List AOper := [
  ⟨(some 3), .move (.t 0), none, 0, 0⟩,
  ⟨(some 4), .eq false .slice (.t 3) (.c (.is [] .nil)), none, 0, 1⟩]
def f26r2 : List AOper := [
  ⟨(some 2), .move (.c (.is [] .nil)), none, 0, 0⟩]
def f26r3 : List AOper := [
  ⟨(some 5), .buildSlice true 3 0 [] [], none, 0, 0⟩,
  ⟨(some 6), .move (.t 0), none, 0, 0⟩,
  ⟨(some 7), .append true 3 32 (.t 5) (.t 6), none, 0, 3⟩,
  ⟨(some 2), .move (.t 7), none, 1, 7⟩]
def f26c : ACode :=
  .seq (.region false f26r0 [0] 0)
  (.seq (.seq (.region false f26r1 [0, 4] 0)
  (.cond (.t 4)
    (.seq (.region false f26r2 [2] 0)
    (.ret))
    (.skip)))
  (.seq (.region false f26r3 [2] 1)
  (.ret)))
def f26 : AFn := ⟨1, 8, [.tmp 2], f26c, 3, none⟩
def f26k : List (Nat × List Nat) := [(0, [0]), (1, [0, 4]), (2, [2]), (3, [2])]
def f26v : List Nat := [7, 5]

/-! 27: (*mortise/ctype.Table).Len, parameters [23], results [3] -/
def f27r0 : List AOper := [
  ⟨(some 2), .move (.c (.int .i64 0)), none, 0, 0⟩]
def f27r1 : List AOper := [
  ⟨(some 3), .move (.t 0), none, 0, 0⟩,
  ⟨(some 4), .call (.c (.fn 23 [] [])) [(.t 3)], none, 0, 1⟩,
  ⟨(some 5), .un .not (.t 4), none, 0, 3⟩]
def f27r2 : List AOper := [
  ⟨(some 2), .move (.c (.int .i64 0)), none, 0, 0⟩]
def f27r3 : List AOper := [
  ⟨(some 6), .move (.t 0), none, 0, 0⟩,
  ⟨(some 7), .nilCheck (.t 6), none, 0, 1⟩,
  ⟨(some 8), .fieldAddr 0 (.t 7), none, 0, 3⟩,
  ⟨(some 9), .load false 1 (.t 8), none, 0, 7⟩,
  ⟨(some 10), .len 1 (.t 9), none, 0, 15⟩,
  ⟨(some 2), .move (.t 10), none, 0, 31⟩]
def f27c : ACode :=
  .seq (.region false f27r0 [0] 0)
  (.seq (.seq (.region false f27r1 [0, 5] 0)
  (.cond (.t 5)
    (.seq (.region false f27r2 [2] 0)
    (.ret))
    (.skip)))
  (.seq (.region false f27r3 [2] 0)
  (.ret)))
def f27 : AFn := ⟨1, 11, [.tmp 2], f27c, 1, none⟩
def f27k : List (Nat × List Nat) := [(0, [0]), (1, [0, 5]), (2, [2]), (3, [2])]
def f27v : List Nat := []

/-! 28: (*mortise/ctype.Table).Whole, parameters [23, 3], results [4] -/
def f28r0 : List AOper := [
  ⟨(some 4), .move (.c (.bool false)), none, 0, 0⟩]
def f28r1 : List AOper := [
  ⟨(some 6), .move (.t 0), none, 0, 0⟩,
  ⟨(some 7), .move (.t 1), none, 0, 0⟩,
  ⟨(some 8), .call (.c (.fn 36 [] [])) [(.t 6), (.t 7)], none, 0, 3⟩,
  ⟨(some 5), .move (.t 8), none, 0, 7⟩]
def f28r2 : List AOper := [
  ⟨(some 9), .move (.t 5), none, 0, 0⟩]
def f28r3 : List AOper := [
  ⟨(some 11), .bin .eql (.t 9) (.c (.int .i64 0)), none, 0, 0⟩,
  ⟨(some 10), .move (.t 11), none, 0, 1⟩]
def f28r4 : List AOper := [
  ⟨(some 12), .bin .eql (.t 9) (.c (.int .i64 1)), none, 0, 0⟩,
  ⟨(some 10), .move (.t 12), none, 0, 1⟩]
def f28r5 : List AOper := [
  ⟨(some 4), .move (.c (.bool false)), none, 0, 0⟩]
def f28r6 : List AOper := [
  ⟨(some 14), .bin .eql (.t 9) (.c (.int .i64 14)), none, 0, 0⟩,
  ⟨(some 13), .move (.t 14), none, 0, 1⟩]
def f28r7 : List AOper := [
  ⟨(some 15), .move (.t 0), none, 0, 0⟩,
  ⟨(some 16), .nilCheck (.t 15), none, 0, 1⟩,
  ⟨(some 17), .fieldAddr 0 (.t 16), none, 0, 3⟩,
  ⟨(some 18), .load false 1 (.t 17), none, 0, 7⟩,
  ⟨(some 19), .move (.t 1), none, 0, 0⟩,
  ⟨(some 20), .idxAddr 6 (.t 18) (.t 19), none, 0, 31⟩,
  ⟨(some 21), .fieldAddr 2 (.t 20), none, 0, 63⟩,
  ⟨(some 22), .load false 1 (.t 21), none, 0, 127⟩,
  ⟨(some 23), .bin .geq (.t 22) (.c (.int .i64 0)), none, 0, 255⟩,
  ⟨(some 4), .move (.t 23), none, 0, 511⟩]
def f28r8 : List AOper := [
  ⟨(some 25), .bin .eql (.t 9) (.c (.int .i64 15)), none, 0, 0⟩,
  ⟨(some 24), .move (.t 25), none, 0, 1⟩]
def f28r9 : List AOper := [
  ⟨(some 26), .bin .eql (.t 9) (.c (.int .i64 16)), none, 0, 0⟩,
  ⟨(some 24), .move (.t 26), none, 0, 1⟩]
def f28r10 : List AOper := [
  ⟨(some 27), .move (.t 0), none, 0, 0⟩,
  ⟨(some 28), .nilCheck (.t 27), none, 0, 1⟩,
  ⟨(some 29), .fieldAddr 0 (.t 28), none, 0, 3⟩,
  ⟨(some 30), .load false 1 (.t 29), none, 0, 7⟩,
  ⟨(some 31), .move (.t 1), none, 0, 0⟩,
  ⟨(some 32), .idxAddr 6 (.t 30) (.t 31), none, 0, 31⟩,
  ⟨(some 33), .fieldAddr 5 (.t 32), none, 0, 63⟩,
  ⟨(some 34), .load false 1 (.t 33), none, 0, 127⟩,
  ⟨(some 4), .move (.t 34), none, 0, 255⟩]
def f28r11 : List AOper := [
  ⟨(some 4), .move (.c (.bool true)), none, 0, 0⟩]
def f28c : ACode :=
  .seq (.region false f28r0 [0, 1] 0)
  (.seq (.seq (.region false f28r1 [0, 1, 5] 0)
  (.seq (.region false f28r2 [0, 1, 9] 0)
  (.block 0 (.seq (.seq (.region false f28r3 [0, 1, 9, 10] 0)
    (.cond (.t 10)
      (.skip)
      (.region false f28r4 [0, 1, 9, 10] 0)))
    (.cond (.t 10)
      (.seq (.region false f28r5 [4] 0)
      (.ret))
      (.seq (.region false f28r6 [0, 1, 9, 13] 0)
      (.cond (.t 13)
        (.seq (.region false f28r7 [4] 0)
        (.ret))
        (.seq (.seq (.region false f28r8 [0, 1, 9, 24] 0)
        (.cond (.t 24)
          (.skip)
          (.region false f28r9 [0, 1, 24] 0)))
        (.cond (.t 24)
          (.seq (.region false f28r10 [4] 0)
          (.ret))
          (.skip))))))))))
  (.seq (.region false f28r11 [4] 0)
  (.ret)))
def f28 : AFn := ⟨2, 35, [.tmp 4], f28c, 1, none⟩
def f28k : List (Nat × List Nat) := [(0, [0, 1]), (1, [0, 1, 5]), (2, [0, 1, 9]), (3, [0, 1, 9, 10]), (4, [0, 1, 9, 10]), (6, [0, 1, 9, 13]), (8, [0, 1, 9, 24]), (9, [0, 1, 24]), (10, [4]), (7, [4]), (5, [4]), (11, [4])]
def f28v : List Nat := []

/-! 29: (*mortise/ctype.Table).has, parameters [23, 3], results [4] -/
def f29r0 : List AOper := [
  ⟨(some 4), .move (.c (.bool false)), none, 0, 0⟩]
def f29r1 : List AOper := [
  ⟨(some 5), .move (.t 0), none, 0, 0⟩,
  ⟨(some 6), .call (.c (.fn 23 [] [])) [(.t 5)], none, 0, 1⟩,
  ⟨(some 7), .move (.t 6), none, 0, 3⟩,
  ⟨(some 8), .move (.t 1), (some (7, true)), 0, 7⟩,
  ⟨(some 9), .bin .geq (.t 8) (.c (.int .i64 0)), (some (7, true)), 0, 15⟩,
  ⟨(some 10), .pick (.t 7) (.t 9) (.c (.bool false)), none, 0, 31⟩,
  ⟨(some 11), .move (.t 10), none, 0, 63⟩,
  ⟨(some 12), .move (.t 1), (some (11, true)), 0, 127⟩,
  ⟨(some 13), .move (.t 0), (some (11, true)), 0, 127⟩,
  ⟨(some 14), .nilCheck (.t 13), (some (11, true)), 0, 383⟩,
  ⟨(some 15), .fieldAddr 0 (.t 14), (some (11, true)), 0, 895⟩,
  ⟨(some 16), .load false 1 (.t 15), (some (11, true)), 0, 1919⟩,
  ⟨(some 17), .len 1 (.t 16), (some (11, true)), 0, 3967⟩,
  ⟨(some 18), .bin .lss (.t 12) (.t 17), (some (11, true)), 0, 8191⟩,
  ⟨(some 19), .pick (.t 11) (.t 18) (.c (.bool false)), none, 0, 16383⟩,
  ⟨(some 4), .move (.t 19), none, 0, 32767⟩]
def f29c : ACode :=
  .seq (.region false f29r0 [0, 1] 0)
  (.seq (.region false f29r1 [4] 0)
  (.ret))
def f29 : AFn := ⟨2, 20, [.tmp 4], f29c, 1, none⟩
def f29k : List (Nat × List Nat) := [(0, [0, 1]), (1, [4])]
def f29v : List Nat := []

/-! 30: mortise/ctype.twin, parameters [62], results [62] -/
def f30r0 : List AOper := [
  ⟨(some 1), .box false (.t 0), none, 0, 0⟩,
  ⟨(some 2), .alloc false [(.int .i64 0), (.int .i64 0), (.int .i64 0), (.str []), (.is [] .nil), (.bool false)], none, 1, 0⟩]
def f30r1 : List AOper := [
  ⟨(some 3), .fieldAddr 4 (.t 1), none, 0, 0⟩,
  ⟨(some 4), .load false 1 (.t 3), none, 0, 1⟩,
  ⟨(some 5), .call (.c (.fn 26 [] [])) [(.t 4)], none, 0, 3⟩,
  ⟨(some 6), .fieldAddr 4 (.t 1), none, 0, 7⟩,
  ⟨none, .store 1 (.t 6) (.t 5), none, 0, 15⟩]
def f30r2 : List AOper := [
  ⟨(some 7), .load true 6 (.t 1), none, 0, 0⟩,
  ⟨none, .store 6 (.t 2) (.t 7), none, 0, 1⟩]
def f30c : ACode :=
  .seq (.region false f30r0 [1, 2] 2)
  (.seq (.region false f30r1 [1, 2] 0)
  (.seq (.region false f30r2 [2] 0)
  (.ret)))
def f30 : AFn := ⟨1, 8, [.cell 2 true 6], f30c, 1, none⟩
def f30k : List (Nat × List Nat) := [(0, [1, 2]), (1, [1, 2]), (2, [2])]
def f30v : List Nat := []

/-! 31: (*mortise/layout.looker).rows, parameters [54, 62], results [56] -/
def f31r0 : List AOper := [
  ⟨(some 3), .box true (.t 1), none, 0, 0⟩,
  ⟨(some 4), .alloc false [(.int .i64 0), (.int .i64 0), (.is [] .nil)], none, 0, 0⟩]
def f31r1 : List AOper := [
  ⟨(some 12), .build [(.int .i64 0), (.int .i64 0), (.is [] .nil)] [(1, 1, (.c (.int .i64 1)))], none, 0, 0⟩,
  ⟨(some 5), .alloc false [(.int .i64 0), (.int .i64 0), (.is [] .nil)], none, 0, 0⟩,
  ⟨none, .store 3 (.t 5) (.t 12), none, 1, 3⟩]
def f31r2 : List AOper := [
  ⟨(some 6), .move (.c (.int .i64 0)), none, 0, 0⟩]
def f31r3 : List AOper := [
  ⟨(some 13), .fn 39 [] [(.t 5)], none, 0, 0⟩,
  ⟨(some 7), .move (.t 13), none, 0, 1⟩]
def f31r4 : List AOper := [
  ⟨(some 14), .fieldAddr 4 (.t 3), none, 0, 0⟩,
  ⟨(some 15), .load false 1 (.t 14), none, 0, 1⟩,
  ⟨(some 16), .len 1 (.t 15), none, 0, 3⟩,
  ⟨(some 17), .move (.c (.int .i64 0)), none, 0, 0⟩]
def f31r5 : List AOper := [
  ⟨(some 18), .bin .lss (.t 17) (.t 16), none, 0, 0⟩]
def f31r6 : List AOper := [
  ⟨(some 19), .move (.t 17), none, 0, 0⟩,
  ⟨(some 20), .idxAddr 3 (.t 15) (.t 17), none, 0, 0⟩,
  ⟨(some 21), .load true 3 (.t 20), none, 0, 2⟩,
  ⟨(some 9), .alloc false [(.str []), (.int .i64 0), (.int .i64 0)], none, 0, 0⟩,
  ⟨(some 8), .move (.t 19), none, 1, 15⟩,
  ⟨none, .store 3 (.t 9) (.t 21), none, 1, 31⟩]
def f31r7 : List AOper := [
  ⟨(some 22), .move (.t 0), none, 0, 0⟩,
  ⟨(some 23), .fieldAddr 1 (.t 9), none, 0, 0⟩,
  ⟨(some 24), .load false 1 (.t 23), none, 0, 2⟩,
  ⟨(some 25), .call (.c (.fn 19 [] [])) [(.t 22), (.t 24)], none, 0, 7⟩,
  ⟨(some 10), .alloc false [(.int .i64 0), (.int .i64 0), (.is [] .nil)], none, 0, 0⟩,
  ⟨none, .store 3 (.t 10) (.t 25), none, 1, 31⟩]
def f31r8 : List AOper := [
  ⟨(some 26), .fieldAddr 0 (.t 10), none, 0, 0⟩,
  ⟨(some 27), .load false 1 (.t 26), none, 0, 1⟩,
  ⟨(some 28), .bin .mul (.c (.int .i64 8)) (.t 27), none, 0, 3⟩,
  ⟨(some 11), .move (.t 28), none, 0, 7⟩]
def f31r9 : List AOper := [
  ⟨(some 74), .fieldAddr 2 (.t 9), none, 0, 0⟩,
  ⟨(some 75), .load false 1 (.t 74), none, 0, 1⟩,
  ⟨(some 76), .bin .lss (.t 75) (.c (.int .i64 0)), none, 0, 3⟩,
  ⟨(some 73), .move (.t 76), none, 0, 7⟩]
def f31r10 : List AOper := [
  ⟨(some 77), .move (.t 6), none, 0, 0⟩,
  ⟨(some 78), .fieldAddr 1 (.t 10), none, 0, 0⟩,
  ⟨(some 79), .load false 1 (.t 78), none, 0, 2⟩,
  ⟨(some 80), .bin .mul (.c (.int .i64 8)) (.t 79), none, 0, 6⟩,
  ⟨(some 81), .call (.c (.fn 40 [] [])) [(.t 77), (.t 80)], none, 0, 15⟩,
  ⟨(some 6), .move (.t 81), none, 0, 31⟩]
def f31r11 : List AOper := [
  ⟨(some 82), .move (.t 7), none, 0, 0⟩,
  ⟨(some 83), .move (.t 8), none, 0, 0⟩,
  ⟨(some 84), .fieldAddr 1 (.t 9), none, 0, 0⟩,
  ⟨(some 85), .load false 1 (.t 84), none, 0, 4⟩,
  ⟨(some 86), .move (.t 6), none, 0, 0⟩,
  ⟨(some 87), .bin .quo (.t 86) (.c (.int .i64 8)), none, 0, 16⟩,
  ⟨(some 88), .build (List.replicate 5 (.int .i64 0)) [(0, 1, (.t 83)), (1, 1, (.t 85)), (2, 1, (.t 87))], none, 0, 62⟩,
  ⟨(some 89), .call (.t 82) [(.t 88)], none, 0, 127⟩]
def f31r12 : List AOper := [
  ⟨(some 90), .move (.t 6), none, 0, 0⟩,
  ⟨(some 91), .move (.t 11), none, 0, 0⟩,
  ⟨(some 92), .bin .add (.t 90) (.t 91), none, 0, 3⟩,
  ⟨(some 6), .move (.t 92), none, 0, 7⟩]
def f31r13 : List AOper := [
  ⟨(some 93), .fieldAddr 1 (.t 5), none, 0, 0⟩,
  ⟨(some 94), .load false 1 (.t 93), none, 0, 1⟩,
  ⟨(some 95), .fieldAddr 1 (.t 10), none, 0, 0⟩,
  ⟨(some 96), .load false 1 (.t 95), none, 0, 4⟩,
  ⟨(some 97), .max (.t 94) (.t 96), none, 0, 15⟩,
  ⟨(some 98), .fieldAddr 1 (.t 5), none, 0, 31⟩,
  ⟨none, .store 1 (.t 98) (.t 97), none, 0, 63⟩]
def f31r14 : List AOper := [
  ⟨(some 100), .fieldAddr 2 (.t 9), none, 0, 0⟩,
  ⟨(some 101), .load false 1 (.t 100), none, 0, 1⟩,
  ⟨(some 102), .bin .eql (.t 101) (.c (.int .i64 0)), none, 0, 3⟩,
  ⟨(some 99), .move (.t 102), none, 0, 7⟩]
def f31r15 : List AOper := [
  ⟨(some 103), .move (.t 6), none, 0, 0⟩,
  ⟨(some 104), .move (.t 11), none, 0, 0⟩,
  ⟨(some 105), .call (.c (.fn 40 [] [])) [(.t 103), (.t 104)], none, 0, 3⟩,
  ⟨(some 6), .move (.t 105), none, 0, 7⟩]
def f31q16 : List AOper := [
  ⟨(some 29), .move (.t 6), none, 0, 0⟩,
  ⟨(some 30), .move (.t 11), none, 0, 0⟩,
  ⟨(some 31), .bin .quo (.t 29) (.t 30), none, 0, 3⟩,
  ⟨(some 32), .move (.t 6), none, 0, 0⟩,
  ⟨(some 33), .fieldAddr 2 (.t 9), none, 0, 0⟩,
  ⟨(some 34), .load false 1 (.t 33), none, 0, 16⟩,
  ⟨(some 35), .bin .add (.t 32) (.t 34), none, 0, 56⟩,
  ⟨(some 36), .bin .sub (.t 35) (.c (.int .i64 1)), none, 0, 120⟩,
  ⟨(some 37), .move (.t 11), none, 0, 0⟩,
  ⟨(some 38), .bin .quo (.t 36) (.t 37), none, 0, 504⟩,
  ⟨(some 39), .bin .neq (.t 31) (.t 38), none, 0, 1023⟩]
def f31r16 : List AOper := f31q16
def f31r17 : List AOper := [
  ⟨(some 40), .move (.t 6), none, 0, 0⟩,
  ⟨(some 41), .move (.t 11), none, 0, 0⟩,
  ⟨(some 42), .call (.c (.fn 40 [] [])) [(.t 40), (.t 41)], none, 0, 3⟩,
  ⟨(some 6), .move (.t 42), none, 0, 7⟩]
def f31q18 : List AOper := [
  ⟨(some 43), .move (.t 7), none, 0, 0⟩,
  ⟨(some 44), .move (.t 8), none, 0, 0⟩,
  ⟨(some 45), .fieldAddr 1 (.t 9), none, 0, 0⟩,
  ⟨(some 46), .load false 1 (.t 45), none, 0, 4⟩,
  ⟨(some 47), .fieldAddr 0 (.t 10), none, 0, 0⟩,
  ⟨(some 48), .load false 1 (.t 47), none, 0, 16⟩,
  ⟨(some 49), .move (.t 6), none, 0, 0⟩,
  ⟨(some 50), .move (.t 11), none, 0, 0⟩,
  ⟨(some 51), .bin .quo (.t 49) (.t 50), none, 0, 192⟩,
  ⟨(some 52), .bin .mul (.t 48) (.t 51), none, 0, 496⟩,
  ⟨(some 53), .move (.t 6), none, 0, 0⟩,
  ⟨(some 54), .move (.t 11), none, 0, 0⟩,
  ⟨(some 55), .bin .rem (.t 53) (.t 54), none, 0, 3072⟩,
  ⟨(some 56), .fieldAddr 2 (.t 9), none, 0, 0⟩,
  ⟨(some 57), .load false 1 (.t 56), none, 0, 8192⟩,
  ⟨(some 58), .build (List.replicate 5 (.int .i64 0)) [(0, 1, (.t 44)), (1, 1, (.t 46)), (2, 1, (.t 52)), (3, 1, (.t 55)), (4, 1, (.t 57))], none, 0, 32766⟩,
  ⟨(some 59), .call (.t 43) [(.t 58)], none, 0, 65535⟩]
def f31r18 : List AOper := f31q18
def f31r19 : List AOper := [
  ⟨(some 60), .move (.t 6), none, 0, 0⟩,
  ⟨(some 61), .fieldAddr 2 (.t 9), none, 0, 0⟩,
  ⟨(some 62), .load false 1 (.t 61), none, 0, 2⟩,
  ⟨(some 63), .bin .add (.t 60) (.t 62), none, 0, 7⟩,
  ⟨(some 6), .move (.t 63), none, 0, 15⟩]
def f31r20 : List AOper := [
  ⟨(some 64), .fieldAddr 0 (.t 9), none, 0, 0⟩,
  ⟨(some 65), .load false 1 (.t 64), none, 0, 1⟩,
  ⟨(some 66), .bin .neq (.t 65) (.c (.str [])), none, 0, 3⟩]
def f31r21 : List AOper := [
  ⟨(some 67), .fieldAddr 1 (.t 5), none, 0, 0⟩,
  ⟨(some 68), .load false 1 (.t 67), none, 0, 1⟩,
  ⟨(some 69), .fieldAddr 0 (.t 10), none, 0, 0⟩,
  ⟨(some 70), .load false 1 (.t 69), none, 0, 4⟩,
  ⟨(some 71), .max (.t 68) (.t 70), none, 0, 15⟩,
  ⟨(some 72), .fieldAddr 1 (.t 5), none, 0, 31⟩,
  ⟨none, .store 1 (.t 72) (.t 71), none, 0, 63⟩]
def f31r22 : List AOper := [
  ⟨(some 106), .bin .add (.t 17) (.c (.int .i64 1)), none, 0, 0⟩,
  ⟨(some 17), .move (.t 106), none, 0, 1⟩]
def f31m5 : ACode :=
  .seq (.region false f31r5 [0, 4, 5, 6, 7, 15, 16, 17, 18] 0)
  (.seq (.cond (.t 18)
    (.skip)
    (.exit 0))
  (.seq (.block 1 (.seq (.region false f31r6 [0, 4, 5, 6, 7, 8, 9, 15, 16, 17] 1)
    (.seq (.region false f31r7 [0, 4, 5, 6, 7, 8, 9, 10, 15, 16, 17] 1)
    (.seq (.region false f31r8 [0, 4, 5, 6, 7, 8, 9, 10, 11, 15, 16, 17] 0)
    (.block 2 (.seq (.region false f31r9 [0, 4, 5, 6, 7, 8, 9, 10, 11, 15, 16, 17, 73] 0)
      (.cond (.t 73)
        (.seq (.region false f31r10 [0, 4, 5, 6, 7, 8, 9, 10, 11, 15, 16, 17] 0)
        (.seq (.region false f31r11 [0, 4, 5, 6, 7, 10, 11, 15, 16, 17] 0)
        (.seq (.region false f31r12 [0, 4, 5, 6, 7, 10, 15, 16, 17] 0)
        (.region false f31r13 [0, 4, 5, 6, 7, 15, 16, 17] 0))))
        (.seq (.region false f31r14 [0, 4, 5, 6, 7, 8, 9, 10, 11, 15, 16, 17, 99] 0)
        (.cond (.t 99)
          (.region false f31r15 [0, 4, 5, 6, 7, 15, 16, 17] 0)
          (.seq (.seq (.region true f31r16 [0, 4, 5, 6, 7, 8, 9, 10, 11, 15, 16, 17, 39] 0)
          (.cond (.t 39)
            (.region false f31r17 [0, 4, 5, 6, 7, 8, 9, 10, 11, 15, 16, 17] 0)
            (.skip)))
          (.seq (.region true f31r18 [0, 4, 5, 6, 7, 9, 10, 15, 16, 17] 0)
          (.seq (.region false f31r19 [0, 4, 5, 6, 7, 9, 10, 15, 16, 17] 0)
          (.seq (.region false f31r20 [0, 4, 5, 6, 7, 10, 15, 16, 17, 66] 0)
          (.cond (.t 66)
            (.region false f31r21 [0, 4, 5, 6, 7, 15, 16, 17] 0)
            (.skip)))))))))))))))
  (.region false f31r22 [0, 4, 5, 6, 7, 15, 16, 17] 0)))
def f31l5 : ACode := f31m5
theorem f31l5_b {A : Tab} {nt : Nat} {e : Env} {h : Heap} : Brun A nt f31l5 e h = Brun A nt f31m5 e h := rfl
def f31q23 : List AOper := [
  ⟨(some 107), .move (.t 6), none, 0, 0⟩,
  ⟨(some 108), .call (.c (.fn 40 [] [])) [(.t 107), (.c (.int .i64 8))], none, 0, 1⟩,
  ⟨(some 109), .bin .quo (.t 108) (.c (.int .i64 8)), none, 0, 3⟩,
  ⟨(some 110), .max (.c (.int .i64 1)) (.t 109), none, 0, 7⟩,
  ⟨(some 111), .fieldAddr 1 (.t 5), none, 0, 0⟩,
  ⟨(some 112), .load false 1 (.t 111), none, 0, 16⟩,
  ⟨(some 113), .call (.c (.fn 40 [] [])) [(.t 110), (.t 112)], none, 0, 63⟩,
  ⟨(some 114), .fieldAddr 0 (.t 5), none, 0, 127⟩,
  ⟨none, .store 1 (.t 114) (.t 113), none, 0, 255⟩]
def f31r23 : List AOper := f31q23
def f31r24 : List AOper := [
  ⟨(some 115), .load true 3 (.t 5), none, 0, 0⟩,
  ⟨none, .store 3 (.t 4) (.t 115), none, 0, 1⟩]
theorem f31r16_s : staticOK 0 f31r16 = true := by rfl
theorem f31r16_w {A : Tab} {nt : Nat} {keep : List Nat} {n : Nat} {e : Env} {h : Heap} (hr : (bkeep keep (stepsF nt (stepF A true) h.length f31r16 e (h ++ List.replicate n .free))).isSome = true) : Brun A nt (.region true f31r16 keep n) e h = bkeep keep (stepsF nt (stepF A true) h.length f31r16 e (h ++ List.replicate n .free)) := Brun_drawnS f31r16_s hr
theorem f31r16_u (nt base : Nat) (step : Nat → AOp → Env → Heap → Option (AV × Heap)) (e : Env) (h : Heap) : stepsF nt step base f31r16 e h = stepsF nt step base f31q16 e h := rfl
theorem f31r18_s : staticOK 0 f31r18 = true := by rfl
theorem f31r18_w {A : Tab} {nt : Nat} {keep : List Nat} {n : Nat} {e : Env} {h : Heap} (hr : (bkeep keep (stepsF nt (stepF A true) h.length f31r18 e (h ++ List.replicate n .free))).isSome = true) : Brun A nt (.region true f31r18 keep n) e h = bkeep keep (stepsF nt (stepF A true) h.length f31r18 e (h ++ List.replicate n .free)) := Brun_drawnS f31r18_s hr
theorem f31r18_u (nt base : Nat) (step : Nat → AOp → Env → Heap → Option (AV × Heap)) (e : Env) (h : Heap) : stepsF nt step base f31r18 e h = stepsF nt step base f31q18 e h := rfl
theorem f31r23_s : staticOK 0 f31r23 = true := by rfl
theorem f31r23_w {A : Tab} {nt : Nat} {keep : List Nat} {n : Nat} {e : Env} {h : Heap} (hr : (bkeep keep (stepsF nt (stepF A true) h.length f31r23 e (h ++ List.replicate n .free))).isSome = true) : Brun A nt (.region true f31r23 keep n) e h = bkeep keep (stepsF nt (stepF A true) h.length f31r23 e (h ++ List.replicate n .free)) := Brun_drawnS f31r23_s hr
theorem f31r23_u (nt base : Nat) (step : Nat → AOp → Env → Heap → Option (AV × Heap)) (e : Env) (h : Heap) : stepsF nt step base f31r23 e h = stepsF nt step base f31q23 e h := rfl
def f31c : ACode :=
  .seq (.region false f31r0 [0, 3, 4] 1)
  (.seq (.region false f31r1 [0, 3, 4, 5] 1)
  (.seq (.region false f31r2 [0, 3, 4, 5, 6] 0)
  (.seq (.region false f31r3 [0, 3, 4, 5, 6, 7] 0)
  (.seq (.seq (.region false f31r4 [0, 4, 5, 6, 7, 15, 16, 17] 0)
  (.block 0 (.loop f31l5)))
  (.seq (.region true f31r23 [4, 5] 0)
  (.seq (.region false f31r24 [4] 0)
  (.ret)))))))
def f31 : AFn := ⟨2, 116, [.cell 4 true 3], f31c, 1, none⟩
def f31k : List (Nat × List Nat) := [(0, [0, 3, 4]), (1, [0, 3, 4, 5]), (2, [0, 3, 4, 5, 6]), (3, [0, 3, 4, 5, 6, 7]), (4, [0, 4, 5, 6, 7, 15, 16, 17]), (5, [0, 4, 5, 6, 7, 15, 16, 17, 18]), (6, [0, 4, 5, 6, 7, 8, 9, 15, 16, 17]), (7, [0, 4, 5, 6, 7, 8, 9, 10, 15, 16, 17]), (8, [0, 4, 5, 6, 7, 8, 9, 10, 11, 15, 16, 17]), (15, [0, 4, 5, 6, 7, 8, 9, 10, 11, 15, 16, 17, 73]), (20, [0, 4, 5, 6, 7, 8, 9, 10, 11, 15, 16, 17, 99]), (9, [0, 4, 5, 6, 7, 8, 9, 10, 11, 15, 16, 17, 39]), (10, [0, 4, 5, 6, 7, 8, 9, 10, 11, 15, 16, 17]), (11, [0, 4, 5, 6, 7, 9, 10, 15, 16, 17]), (12, [0, 4, 5, 6, 7, 9, 10, 15, 16, 17]), (13, [0, 4, 5, 6, 7, 10, 15, 16, 17, 66]), (14, [0, 4, 5, 6, 7, 15, 16, 17]), (21, [0, 4, 5, 6, 7, 15, 16, 17]), (16, [0, 4, 5, 6, 7, 8, 9, 10, 11, 15, 16, 17]), (17, [0, 4, 5, 6, 7, 10, 11, 15, 16, 17]), (18, [0, 4, 5, 6, 7, 10, 15, 16, 17]), (19, [0, 4, 5, 6, 7, 15, 16, 17]), (22, [0, 4, 5, 6, 7, 15, 16, 17]), (23, [4, 5]), (24, [4])]
def f31v : List Nat := [3]

/-! 32: (*mortise/layout.looker).union, parameters [54, 62], results [56] -/
def f32r0 : List AOper := [
  ⟨(some 3), .box true (.t 1), none, 0, 0⟩,
  ⟨(some 4), .alloc false [(.int .i64 0), (.int .i64 0), (.is [] .nil)], none, 0, 0⟩]
def f32r1 : List AOper := [
  ⟨(some 9), .build [(.int .i64 0), (.int .i64 0), (.is [] .nil)] [(0, 1, (.c (.int .i64 1))), (1, 1, (.c (.int .i64 1)))], none, 0, 0⟩,
  ⟨(some 5), .alloc false [(.int .i64 0), (.int .i64 0), (.is [] .nil)], none, 0, 0⟩,
  ⟨none, .store 3 (.t 5) (.t 9), none, 1, 3⟩]
def f32r2 : List AOper := [
  ⟨(some 10), .fieldAddr 4 (.t 3), none, 0, 0⟩,
  ⟨(some 11), .load false 1 (.t 10), none, 0, 1⟩,
  ⟨(some 12), .len 1 (.t 11), none, 0, 3⟩,
  ⟨(some 13), .move (.c (.int .i64 0)), none, 0, 0⟩]
def f32r3 : List AOper := [
  ⟨(some 14), .bin .lss (.t 13) (.t 12), none, 0, 0⟩]
def f32r4 : List AOper := [
  ⟨(some 15), .move (.t 13), none, 0, 0⟩,
  ⟨(some 16), .idxAddr 3 (.t 11) (.t 13), none, 0, 0⟩,
  ⟨(some 17), .load true 3 (.t 16), none, 0, 2⟩,
  ⟨(some 7), .alloc false [(.str []), (.int .i64 0), (.int .i64 0)], none, 0, 0⟩,
  ⟨(some 6), .move (.t 15), none, 1, 15⟩,
  ⟨none, .store 3 (.t 7) (.t 17), none, 1, 31⟩]
def f32r5 : List AOper := [
  ⟨(some 18), .move (.t 0), none, 0, 0⟩,
  ⟨(some 19), .fieldAddr 1 (.t 7), none, 0, 0⟩,
  ⟨(some 20), .load false 1 (.t 19), none, 0, 2⟩,
  ⟨(some 21), .call (.c (.fn 19 [] [])) [(.t 18), (.t 20)], none, 0, 7⟩,
  ⟨(some 8), .alloc false [(.int .i64 0), (.int .i64 0), (.is [] .nil)], none, 0, 0⟩,
  ⟨none, .store 3 (.t 8) (.t 21), none, 1, 31⟩]
def f32r6 : List AOper := [
  ⟨(some 23), .fieldAddr 2 (.t 7), none, 0, 0⟩,
  ⟨(some 24), .load false 1 (.t 23), none, 0, 1⟩,
  ⟨(some 25), .bin .lss (.t 24) (.c (.int .i64 0)), none, 0, 3⟩,
  ⟨(some 22), .move (.t 25), none, 0, 7⟩]
def f32r7 : List AOper := [
  ⟨(some 26), .fieldAddr 2 (.t 5), none, 0, 0⟩,
  ⟨(some 27), .load false 1 (.t 26), none, 0, 1⟩,
  ⟨(some 28), .move (.t 6), none, 0, 0⟩,
  ⟨(some 29), .fieldAddr 1 (.t 7), none, 0, 0⟩,
  ⟨(some 30), .load false 1 (.t 29), none, 0, 8⟩,
  ⟨(some 31), .build (List.replicate 5 (.int .i64 0)) [(0, 1, (.t 28)), (1, 1, (.t 30))], none, 0, 28⟩,
  ⟨(some 32), .buildSlice true 5 1 (List.replicate 5 (.int .i64 0)) [(0, 5, (.t 31))], none, 0, 60⟩,
  ⟨(some 33), .append true 5 40 (.t 27) (.t 32), none, 0, 127⟩,
  ⟨(some 34), .fieldAddr 2 (.t 5), none, 1, 255⟩,
  ⟨none, .store 1 (.t 34) (.t 33), none, 1, 511⟩]
def f32r8 : List AOper := [
  ⟨(some 35), .fieldAddr 0 (.t 5), none, 0, 0⟩,
  ⟨(some 36), .load false 1 (.t 35), none, 0, 1⟩,
  ⟨(some 37), .fieldAddr 0 (.t 8), none, 0, 0⟩,
  ⟨(some 38), .load false 1 (.t 37), none, 0, 4⟩,
  ⟨(some 39), .max (.t 36) (.t 38), none, 0, 15⟩,
  ⟨(some 40), .fieldAddr 1 (.t 5), none, 0, 0⟩,
  ⟨(some 41), .load false 1 (.t 40), none, 0, 32⟩,
  ⟨(some 42), .fieldAddr 1 (.t 8), none, 0, 0⟩,
  ⟨(some 43), .load false 1 (.t 42), none, 0, 128⟩,
  ⟨(some 44), .max (.t 41) (.t 43), none, 0, 480⟩,
  ⟨(some 45), .fieldAddr 0 (.t 5), none, 0, 127⟩,
  ⟨none, .store 1 (.t 45) (.t 39), none, 0, 1151⟩,
  ⟨(some 46), .fieldAddr 1 (.t 5), none, 0, 4095⟩,
  ⟨none, .store 1 (.t 46) (.t 44), none, 0, 8191⟩]
def f32r9 : List AOper := [
  ⟨(some 48), .fieldAddr 2 (.t 7), none, 0, 0⟩,
  ⟨(some 49), .load false 1 (.t 48), none, 0, 1⟩,
  ⟨(some 50), .bin .gtr (.t 49) (.c (.int .i64 0)), none, 0, 3⟩,
  ⟨(some 47), .move (.t 50), none, 0, 7⟩]
def f32r10 : List AOper := [
  ⟨(some 51), .fieldAddr 2 (.t 5), none, 0, 0⟩,
  ⟨(some 52), .load false 1 (.t 51), none, 0, 1⟩,
  ⟨(some 53), .move (.t 6), none, 0, 0⟩,
  ⟨(some 54), .fieldAddr 1 (.t 7), none, 0, 0⟩,
  ⟨(some 55), .load false 1 (.t 54), none, 0, 8⟩,
  ⟨(some 56), .fieldAddr 2 (.t 7), none, 0, 0⟩,
  ⟨(some 57), .load false 1 (.t 56), none, 0, 32⟩,
  ⟨(some 58), .build (List.replicate 5 (.int .i64 0)) [(0, 1, (.t 53)), (1, 1, (.t 55)), (4, 1, (.t 57))], none, 0, 124⟩,
  ⟨(some 59), .buildSlice true 5 1 (List.replicate 5 (.int .i64 0)) [(0, 5, (.t 58))], none, 0, 252⟩,
  ⟨(some 60), .append true 5 40 (.t 52) (.t 59), none, 0, 511⟩,
  ⟨(some 61), .fieldAddr 2 (.t 5), none, 1, 1023⟩,
  ⟨none, .store 1 (.t 61) (.t 60), none, 1, 2047⟩]
def f32q11 : List AOper := [
  ⟨(some 62), .fieldAddr 0 (.t 5), none, 0, 0⟩,
  ⟨(some 63), .load false 1 (.t 62), none, 0, 1⟩,
  ⟨(some 64), .fieldAddr 2 (.t 7), none, 0, 0⟩,
  ⟨(some 65), .load false 1 (.t 64), none, 0, 4⟩,
  ⟨(some 66), .call (.c (.fn 40 [] [])) [(.t 65), (.c (.int .i64 8))], none, 0, 12⟩,
  ⟨(some 67), .bin .quo (.t 66) (.c (.int .i64 8)), none, 0, 28⟩,
  ⟨(some 68), .max (.t 63) (.t 67), none, 0, 63⟩,
  ⟨(some 69), .fieldAddr 0 (.t 5), none, 0, 127⟩,
  ⟨none, .store 1 (.t 69) (.t 68), none, 0, 255⟩]
def f32r11 : List AOper := f32q11
def f32r12 : List AOper := [
  ⟨(some 70), .fieldAddr 2 (.t 7), none, 0, 0⟩,
  ⟨(some 71), .load false 1 (.t 70), none, 0, 1⟩,
  ⟨(some 72), .bin .gtr (.t 71) (.c (.int .i64 0)), none, 0, 3⟩,
  ⟨(some 73), .move (.t 72), none, 0, 7⟩,
  ⟨(some 74), .fieldAddr 0 (.t 7), (some (73, true)), 0, 15⟩,
  ⟨(some 75), .load false 1 (.t 74), (some (73, true)), 0, 31⟩,
  ⟨(some 76), .bin .neq (.t 75) (.c (.str [])), (some (73, true)), 0, 63⟩,
  ⟨(some 77), .pick (.t 73) (.t 76) (.c (.bool false)), none, 0, 127⟩]
def f32r13 : List AOper := [
  ⟨(some 78), .fieldAddr 1 (.t 5), none, 0, 0⟩,
  ⟨(some 79), .load false 1 (.t 78), none, 0, 1⟩,
  ⟨(some 80), .fieldAddr 0 (.t 8), none, 0, 0⟩,
  ⟨(some 81), .load false 1 (.t 80), none, 0, 4⟩,
  ⟨(some 82), .max (.t 79) (.t 81), none, 0, 15⟩,
  ⟨(some 83), .fieldAddr 1 (.t 5), none, 0, 31⟩,
  ⟨none, .store 1 (.t 83) (.t 82), none, 0, 63⟩]
def f32r14 : List AOper := [
  ⟨(some 84), .bin .add (.t 13) (.c (.int .i64 1)), none, 0, 0⟩,
  ⟨(some 13), .move (.t 84), none, 0, 1⟩]
def f32m3 : ACode :=
  .seq (.region false f32r3 [0, 4, 5, 11, 12, 13, 14] 0)
  (.seq (.cond (.t 14)
    (.skip)
    (.exit 0))
  (.seq (.block 1 (.seq (.region false f32r4 [0, 4, 5, 6, 7, 11, 12, 13] 1)
    (.seq (.region false f32r5 [0, 4, 5, 6, 7, 8, 11, 12, 13] 1)
    (.seq (.block 2 (.seq (.region false f32r6 [0, 4, 5, 6, 7, 8, 11, 12, 13, 22] 0)
      (.cond (.t 22)
        (.seq (.region false f32r7 [0, 4, 5, 7, 8, 11, 12, 13] 1)
        (.region true f32r8 [0, 4, 5, 7, 8, 11, 12, 13] 0))
        (.seq (.region false f32r9 [0, 4, 5, 6, 7, 8, 11, 12, 13, 47] 0)
        (.cond (.t 47)
          (.seq (.region false f32r10 [0, 4, 5, 7, 8, 11, 12, 13] 1)
          (.region true f32r11 [0, 4, 5, 7, 8, 11, 12, 13] 0))
          (.skip))))))
    (.seq (.region false f32r12 [0, 4, 5, 8, 11, 12, 13, 77] 0)
    (.cond (.t 77)
      (.region false f32r13 [0, 4, 5, 11, 12, 13] 0)
      (.skip)))))))
  (.region false f32r14 [0, 4, 5, 11, 12, 13] 0)))
def f32l3 : ACode := f32m3
theorem f32l3_b {A : Tab} {nt : Nat} {e : Env} {h : Heap} : Brun A nt f32l3 e h = Brun A nt f32m3 e h := rfl
def f32r15 : List AOper := [
  ⟨(some 85), .fieldAddr 0 (.t 5), none, 0, 0⟩,
  ⟨(some 86), .load false 1 (.t 85), none, 0, 1⟩,
  ⟨(some 87), .fieldAddr 1 (.t 5), none, 0, 0⟩,
  ⟨(some 88), .load false 1 (.t 87), none, 0, 4⟩,
  ⟨(some 89), .call (.c (.fn 40 [] [])) [(.t 86), (.t 88)], none, 0, 15⟩,
  ⟨(some 90), .fieldAddr 0 (.t 5), none, 0, 31⟩,
  ⟨none, .store 1 (.t 90) (.t 89), none, 0, 63⟩]
def f32r16 : List AOper := [
  ⟨(some 91), .load true 3 (.t 5), none, 0, 0⟩,
  ⟨none, .store 3 (.t 4) (.t 91), none, 0, 1⟩]
theorem f32r11_s : staticOK 0 f32r11 = true := by rfl
theorem f32r11_w {A : Tab} {nt : Nat} {keep : List Nat} {n : Nat} {e : Env} {h : Heap} (hr : (bkeep keep (stepsF nt (stepF A true) h.length f32r11 e (h ++ List.replicate n .free))).isSome = true) : Brun A nt (.region true f32r11 keep n) e h = bkeep keep (stepsF nt (stepF A true) h.length f32r11 e (h ++ List.replicate n .free)) := Brun_drawnS f32r11_s hr
theorem f32r11_u (nt base : Nat) (step : Nat → AOp → Env → Heap → Option (AV × Heap)) (e : Env) (h : Heap) : stepsF nt step base f32r11 e h = stepsF nt step base f32q11 e h := rfl
def f32c : ACode :=
  .seq (.region false f32r0 [0, 3, 4] 1)
  (.seq (.region false f32r1 [0, 3, 4, 5] 1)
  (.seq (.seq (.region false f32r2 [0, 4, 5, 11, 12, 13] 0)
  (.block 0 (.loop f32l3)))
  (.seq (.region false f32r15 [4, 5] 0)
  (.seq (.region false f32r16 [4] 0)
  (.ret)))))
def f32 : AFn := ⟨2, 92, [.cell 4 true 3], f32c, 1, none⟩
def f32k : List (Nat × List Nat) := [(0, [0, 3, 4]), (1, [0, 3, 4, 5]), (2, [0, 4, 5, 11, 12, 13]), (3, [0, 4, 5, 11, 12, 13, 14]), (4, [0, 4, 5, 6, 7, 11, 12, 13]), (5, [0, 4, 5, 6, 7, 8, 11, 12, 13]), (6, [0, 4, 5, 6, 7, 8, 11, 12, 13, 22]), (9, [0, 4, 5, 6, 7, 8, 11, 12, 13, 47]), (10, [0, 4, 5, 7, 8, 11, 12, 13]), (11, [0, 4, 5, 7, 8, 11, 12, 13]), (7, [0, 4, 5, 7, 8, 11, 12, 13]), (8, [0, 4, 5, 7, 8, 11, 12, 13]), (12, [0, 4, 5, 8, 11, 12, 13, 77]), (13, [0, 4, 5, 11, 12, 13]), (14, [0, 4, 5, 11, 12, 13]), (15, [4, 5]), (16, [4])]
def f32v : List Nat := [3, 60, 59, 33, 32]

/-! 33: mortise/word.Width, parameters [60], results [3] -/
def f33r0 : List AOper := [
  ⟨(some 2), .move (.c (.int .i64 0)), none, 0, 0⟩]
def f33r1 : List AOper := [
  ⟨(some 3), .move (.t 0), none, 0, 0⟩]
def f33r2 : List AOper := [
  ⟨(some 5), .bin .eql (.t 3) (.c (.int .i64 2)), none, 0, 0⟩,
  ⟨(some 4), .move (.t 5), none, 0, 1⟩]
def f33r3 : List AOper := [
  ⟨(some 6), .bin .eql (.t 3) (.c (.int .i64 3)), none, 0, 0⟩,
  ⟨(some 4), .move (.t 6), none, 0, 1⟩]
def f33r4 : List AOper := [
  ⟨(some 7), .bin .eql (.t 3) (.c (.int .i64 4)), none, 0, 0⟩,
  ⟨(some 4), .move (.t 7), none, 0, 1⟩]
def f33r5 : List AOper := [
  ⟨(some 8), .bin .eql (.t 3) (.c (.int .i64 5)), none, 0, 0⟩,
  ⟨(some 4), .move (.t 8), none, 0, 1⟩]
def f33r6 : List AOper := [
  ⟨(some 2), .move (.c (.int .i64 1)), none, 0, 0⟩]
def f33r7 : List AOper := [
  ⟨(some 10), .bin .eql (.t 3) (.c (.int .i64 6)), none, 0, 0⟩,
  ⟨(some 9), .move (.t 10), none, 0, 1⟩]
def f33r8 : List AOper := [
  ⟨(some 11), .bin .eql (.t 3) (.c (.int .i64 7)), none, 0, 0⟩,
  ⟨(some 9), .move (.t 11), none, 0, 1⟩]
def f33r9 : List AOper := [
  ⟨(some 2), .move (.c (.int .i64 2)), none, 0, 0⟩]
def f33r10 : List AOper := [
  ⟨(some 13), .bin .eql (.t 3) (.c (.int .i64 8)), none, 0, 0⟩,
  ⟨(some 12), .move (.t 13), none, 0, 1⟩]
def f33r11 : List AOper := [
  ⟨(some 14), .bin .eql (.t 3) (.c (.int .i64 9)), none, 0, 0⟩,
  ⟨(some 12), .move (.t 14), none, 0, 1⟩]
def f33r12 : List AOper := [
  ⟨(some 15), .bin .eql (.t 3) (.c (.int .i64 10)), none, 0, 0⟩,
  ⟨(some 12), .move (.t 15), none, 0, 1⟩]
def f33r13 : List AOper := [
  ⟨(some 16), .bin .eql (.t 3) (.c (.int .i64 11)), none, 0, 0⟩,
  ⟨(some 12), .move (.t 16), none, 0, 1⟩]
def f33r14 : List AOper := [
  ⟨(some 17), .bin .eql (.t 3) (.c (.int .i64 12)), none, 0, 0⟩,
  ⟨(some 12), .move (.t 17), none, 0, 1⟩]
def f33r15 : List AOper := [
  ⟨(some 18), .bin .eql (.t 3) (.c (.int .i64 13)), none, 0, 0⟩,
  ⟨(some 12), .move (.t 18), none, 0, 1⟩]
def f33r16 : List AOper := [
  ⟨(some 2), .move (.c (.int .i64 4)), none, 0, 0⟩]
def f33r17 : List AOper := [
  ⟨(some 2), .move (.c (.int .i64 0)), none, 0, 0⟩]
def f33c : ACode :=
  .seq (.region false f33r0 [0] 0)
  (.seq (.seq (.region false f33r1 [3] 0)
  (.block 0 (.seq (.seq (.region false f33r2 [3, 4] 0)
    (.cond (.t 4)
      (.skip)
      (.seq (.region false f33r3 [3, 4] 0)
      (.cond (.t 4)
        (.skip)
        (.seq (.region false f33r4 [3, 4] 0)
        (.cond (.t 4)
          (.skip)
          (.region false f33r5 [3, 4] 0)))))))
    (.cond (.t 4)
      (.seq (.region false f33r6 [2] 0)
      (.ret))
      (.seq (.seq (.region false f33r7 [3, 9] 0)
      (.cond (.t 9)
        (.skip)
        (.region false f33r8 [3, 9] 0)))
      (.cond (.t 9)
        (.seq (.region false f33r9 [2] 0)
        (.ret))
        (.seq (.seq (.region false f33r10 [3, 12] 0)
        (.cond (.t 12)
          (.skip)
          (.seq (.region false f33r11 [3, 12] 0)
          (.cond (.t 12)
            (.skip)
            (.seq (.region false f33r12 [3, 12] 0)
            (.cond (.t 12)
              (.skip)
              (.seq (.region false f33r13 [3, 12] 0)
              (.cond (.t 12)
                (.skip)
                (.seq (.region false f33r14 [3, 12] 0)
                (.cond (.t 12)
                  (.skip)
                  (.region false f33r15 [12] 0)))))))))))
        (.cond (.t 12)
          (.seq (.region false f33r16 [2] 0)
          (.ret))
          (.skip)))))))))
  (.seq (.region false f33r17 [2] 0)
  (.ret)))
def f33 : AFn := ⟨1, 19, [.tmp 2], f33c, 1, none⟩
def f33k : List (Nat × List Nat) := [(0, [0]), (1, [3]), (2, [3, 4]), (3, [3, 4]), (4, [3, 4]), (5, [3, 4]), (7, [3, 9]), (8, [3, 9]), (10, [3, 12]), (11, [3, 12]), (12, [3, 12]), (13, [3, 12]), (14, [3, 12]), (15, [12]), (16, [2]), (9, [2]), (6, [2]), (17, [2])]
def f33v : List Nat := []

/-! 34: mortise/ctype.Tag, parameters [9], results [4] -/
def f34r0 : List AOper := [
  ⟨(some 2), .move (.c (.bool false)), none, 0, 0⟩]
def f34r1 : List AOper := [
  ⟨(some 6), .move (.t 0), none, 0, 0⟩,
  ⟨(some 7), .call (.c (.fn 41 [] [])) [(.t 6), (.c (.str [35]))], none, 0, 1⟩,
  ⟨(some 5), .move (.t 7), none, 0, 3⟩,
  ⟨(some 8), .extract (.t 5) 0, none, 0, 7⟩,
  ⟨(some 9), .extract (.t 5) 1, none, 0, 7⟩,
  ⟨(some 3), .move (.t 8), none, 0, 15⟩,
  ⟨(some 4), .move (.t 9), none, 0, 63⟩]
def f34r2 : List AOper := [
  ⟨(some 10), .move (.t 4), none, 0, 0⟩]
def f34r3 : List AOper := [
  ⟨(some 11), .move (.t 3), none, 0, 0⟩,
  ⟨(some 12), .bin .neq (.t 11) (.c (.str [])), none, 0, 1⟩,
  ⟨(some 13), .move (.t 12), none, 0, 3⟩,
  ⟨(some 14), .move (.t 3), (some (13, true)), 0, 7⟩,
  ⟨(some 15), .len 0 (.t 14), (some (13, true)), 0, 15⟩,
  ⟨(some 16), .bin .leq (.t 15) (.c (.int .i64 9)), (some (13, true)), 0, 31⟩,
  ⟨(some 17), .pick (.t 13) (.t 16) (.c (.bool false)), none, 0, 63⟩,
  ⟨(some 18), .move (.t 17), none, 0, 127⟩,
  ⟨(some 19), .move (.t 3), (some (18, true)), 0, 255⟩,
  ⟨(some 20), .call (.c (.fn 42 [] [])) [(.t 19), (.c (.str [48, 49, 50, 51, 52, 53, 54, 55, 56, 57]))], (some (18, true)), 0, 511⟩,
  ⟨(some 21), .bin .eql (.t 20) (.c (.str [])), (some (18, true)), 0, 1023⟩,
  ⟨(some 22), .pick (.t 18) (.t 21) (.c (.bool false)), none, 0, 2047⟩,
  ⟨(some 2), .move (.t 22), none, 0, 4095⟩]
def f34r4 : List AOper := [
  ⟨(some 23), .move (.t 0), none, 0, 0⟩,
  ⟨(some 24), .call (.c (.fn 38 [] [])) [(.t 23)], none, 0, 1⟩,
  ⟨(some 2), .move (.t 24), none, 0, 3⟩]
def f34c : ACode :=
  .seq (.region false f34r0 [0] 0)
  (.seq (.seq (.region false f34r1 [0, 3, 4] 0)
  (.seq (.region false f34r2 [0, 3, 10] 0)
  (.cond (.t 10)
    (.seq (.region false f34r3 [2] 0)
    (.ret))
    (.skip))))
  (.seq (.region false f34r4 [2] 0)
  (.ret)))
def f34 : AFn := ⟨1, 25, [.tmp 2], f34c, 1, none⟩
def f34k : List (Nat × List Nat) := [(0, [0]), (1, [0, 3, 4]), (2, [0, 3, 10]), (3, [2]), (4, [2])]
def f34v : List Nat := []

/-! 35: (*mortise/ctype.Table).add, parameters [23, 62], results [3, 31] -/
def f35r0 : List AOper := [
  ⟨(some 3), .box true (.t 1), none, 0, 0⟩,
  ⟨(some 4), .move (.c (.int .i64 0)), none, 0, 0⟩,
  ⟨(some 5), .move (.c (.int .i64 0)), none, 0, 2⟩]
def f35r1 : List AOper := [
  ⟨(some 6), .move (.t 0), none, 0, 0⟩,
  ⟨(some 7), .nilCheck (.t 6), none, 0, 1⟩,
  ⟨(some 8), .fieldAddr 0 (.t 7), none, 0, 3⟩,
  ⟨(some 9), .load false 1 (.t 8), none, 0, 7⟩,
  ⟨(some 10), .len 1 (.t 9), none, 0, 15⟩,
  ⟨(some 11), .bin .geq (.t 10) (.c (.int .i64 512)), none, 0, 31⟩]
def f35r2 : List AOper := [
  ⟨(some 4), .move (.c (.int .i64 0)), none, 0, 0⟩,
  ⟨(some 5), .move (.c (.int .i64 32)), none, 0, 1⟩]
def f35r3 : List AOper := [
  ⟨(some 12), .move (.t 0), none, 0, 0⟩,
  ⟨(some 13), .move (.t 0), none, 0, 0⟩,
  ⟨(some 14), .nilCheck (.t 13), none, 0, 2⟩,
  ⟨(some 15), .fieldAddr 0 (.t 14), none, 0, 6⟩,
  ⟨(some 16), .load false 1 (.t 15), none, 0, 14⟩,
  ⟨(some 17), .load true 6 (.t 3), none, 0, 0⟩,
  ⟨(some 18), .buildSlice false 6 1 [(.int .i64 0), (.int .i64 0), (.int .i64 0), (.str []), (.is [] .nil), (.bool false)] [(0, 6, (.t 17))], none, 0, 32⟩,
  ⟨(some 19), .append false 6 72 (.t 16) (.t 18), none, 1, 126⟩,
  ⟨(some 20), .nilCheck (.t 12), none, 2, 255⟩,
  ⟨(some 21), .fieldAddr 0 (.t 20), none, 2, 511⟩,
  ⟨none, .store 1 (.t 21) (.t 19), none, 2, 1023⟩]
def f35r4 : List AOper := [
  ⟨(some 22), .move (.t 0), none, 0, 0⟩,
  ⟨(some 23), .nilCheck (.t 22), none, 0, 1⟩,
  ⟨(some 24), .fieldAddr 0 (.t 23), none, 0, 3⟩,
  ⟨(some 25), .load false 1 (.t 24), none, 0, 7⟩,
  ⟨(some 26), .len 1 (.t 25), none, 0, 15⟩,
  ⟨(some 27), .bin .sub (.t 26) (.c (.int .i64 1)), none, 0, 31⟩,
  ⟨(some 4), .move (.t 27), none, 0, 63⟩,
  ⟨(some 5), .move (.c (.int .i64 0)), none, 0, 127⟩]
def f35c : ACode :=
  .seq (.region false f35r0 [0, 3] 0)
  (.seq (.seq (.region false f35r1 [0, 3, 11] 0)
  (.cond (.t 11)
    (.seq (.region false f35r2 [4, 5] 0)
    (.ret))
    (.skip)))
  (.seq (.region true f35r3 [0] 2)
  (.seq (.region false f35r4 [4, 5] 0)
  (.ret))))
def f35 : AFn := ⟨2, 28, [.tmp 4, .tmp 5], f35c, 1, none⟩
def f35k : List (Nat × List Nat) := [(0, [0, 3]), (1, [0, 3, 11]), (2, [4, 5]), (3, [0]), (4, [4, 5])]
def f35v : List Nat := [3]

/-! 36: (*mortise/ctype.Table).kind, parameters [23, 3], results [60] -/
def f36r0 : List AOper := [
  ⟨(some 4), .move (.c (.int .i64 0)), none, 0, 0⟩]
def f36r1 : List AOper := [
  ⟨(some 5), .move (.t 0), none, 0, 0⟩,
  ⟨(some 6), .move (.t 1), none, 0, 0⟩,
  ⟨(some 7), .call (.c (.fn 29 [] [])) [(.t 5), (.t 6)], none, 0, 3⟩,
  ⟨(some 8), .un .not (.t 7), none, 0, 7⟩]
def f36r2 : List AOper := [
  ⟨(some 4), .move (.c (.int .i64 0)), none, 0, 0⟩]
def f36r3 : List AOper := [
  ⟨(some 9), .move (.t 0), none, 0, 0⟩,
  ⟨(some 10), .nilCheck (.t 9), none, 0, 1⟩,
  ⟨(some 11), .fieldAddr 0 (.t 10), none, 0, 3⟩,
  ⟨(some 12), .load false 1 (.t 11), none, 0, 7⟩,
  ⟨(some 13), .move (.t 1), none, 0, 0⟩,
  ⟨(some 14), .idxAddr 6 (.t 12) (.t 13), none, 0, 31⟩,
  ⟨(some 15), .fieldAddr 0 (.t 14), none, 0, 63⟩,
  ⟨(some 16), .load false 1 (.t 15), none, 0, 127⟩,
  ⟨(some 4), .move (.t 16), none, 0, 255⟩]
def f36c : ACode :=
  .seq (.region false f36r0 [0, 1] 0)
  (.seq (.seq (.region false f36r1 [0, 1, 8] 0)
  (.cond (.t 8)
    (.seq (.region false f36r2 [4] 0)
    (.ret))
    (.skip)))
  (.seq (.region false f36r3 [4] 0)
  (.ret)))
def f36 : AFn := ⟨2, 17, [.tmp 4], f36c, 1, none⟩
def f36k : List (Nat × List Nat) := [(0, [0, 1]), (1, [0, 1, 8]), (2, [4]), (3, [4])]
def f36v : List Nat := []

/-! 37: (*mortise/ctype.Table).wide, parameters [23, 3, 3], results [4] -/
def f37r0 : List AOper := [
  ⟨(some 6), .move (.c (.bool false)), none, 0, 0⟩]
def f37r1 : List AOper := [
  ⟨(some 8), .move (.t 0), none, 0, 0⟩,
  ⟨(some 9), .move (.t 1), none, 0, 0⟩,
  ⟨(some 10), .call (.c (.fn 36 [] [])) [(.t 8), (.t 9)], none, 0, 3⟩,
  ⟨(some 7), .move (.t 10), none, 0, 7⟩]
def f37r2 : List AOper := [
  ⟨(some 11), .move (.t 7), none, 0, 0⟩,
  ⟨(some 12), .bin .lss (.t 11) (.c (.int .i64 2)), none, 0, 1⟩,
  ⟨(some 13), .move (.t 12), none, 0, 3⟩,
  ⟨(some 14), .move (.t 7), (some (13, false)), 0, 7⟩,
  ⟨(some 15), .bin .gtr (.t 14) (.c (.int .i64 12)), (some (13, false)), 0, 15⟩,
  ⟨(some 16), .pick (.t 13) (.c (.bool true)) (.t 15), none, 0, 31⟩,
  ⟨(some 17), .move (.t 16), none, 0, 63⟩,
  ⟨(some 18), .move (.t 2), (some (17, false)), 0, 127⟩,
  ⟨(some 19), .bin .lss (.t 18) (.c (.int .i64 0)), (some (17, false)), 0, 255⟩,
  ⟨(some 20), .pick (.t 17) (.c (.bool true)) (.t 19), none, 0, 511⟩]
def f37r3 : List AOper := [
  ⟨(some 6), .move (.c (.bool false)), none, 0, 0⟩]
def f37r4 : List AOper := [
  ⟨(some 21), .move (.t 7), none, 0, 0⟩,
  ⟨(some 22), .bin .eql (.t 21) (.c (.int .i64 2)), none, 0, 1⟩]
def f37r5 : List AOper := [
  ⟨(some 23), .move (.t 2), none, 0, 0⟩,
  ⟨(some 24), .bin .leq (.t 23) (.c (.int .i64 1)), none, 0, 1⟩,
  ⟨(some 6), .move (.t 24), none, 0, 3⟩]
def f37r6 : List AOper := [
  ⟨(some 25), .move (.t 2), none, 0, 0⟩,
  ⟨(some 26), .move (.t 7), none, 0, 0⟩,
  ⟨(some 27), .call (.c (.fn 33 [] [])) [(.t 26)], none, 0, 2⟩,
  ⟨(some 28), .bin .mul (.c (.int .i64 8)) (.t 27), none, 0, 6⟩,
  ⟨(some 29), .bin .leq (.t 25) (.t 28), none, 0, 15⟩,
  ⟨(some 6), .move (.t 29), none, 0, 31⟩]
def f37c : ACode :=
  .seq (.region false f37r0 [0, 1, 2] 0)
  (.seq (.region false f37r1 [2, 7] 0)
  (.seq (.seq (.region false f37r2 [2, 7, 20] 0)
  (.cond (.t 20)
    (.seq (.region false f37r3 [6] 0)
    (.ret))
    (.skip)))
  (.seq (.seq (.region false f37r4 [2, 7, 22] 0)
  (.cond (.t 22)
    (.seq (.region false f37r5 [6] 0)
    (.ret))
    (.skip)))
  (.seq (.region false f37r6 [6] 0)
  (.ret)))))
def f37 : AFn := ⟨3, 30, [.tmp 6], f37c, 1, none⟩
def f37k : List (Nat × List Nat) := [(0, [0, 1, 2]), (1, [2, 7]), (2, [2, 7, 20]), (3, [6]), (4, [2, 7, 22]), (5, [6]), (6, [6])]
def f37v : List Nat := []

/-! 38: mortise/ctype.letters, parameters [9], results [4] -/
def f38r0 : List AOper := [
  ⟨(some 2), .move (.c (.bool false)), none, 0, 0⟩]
def f38r1 : List AOper := [
  ⟨(some 5), .move (.t 0), none, 0, 0⟩,
  ⟨(some 6), .bin .eql (.t 5) (.c (.str [])), none, 0, 1⟩,
  ⟨(some 7), .move (.t 6), none, 0, 3⟩,
  ⟨(some 8), .move (.t 0), (some (7, false)), 0, 7⟩,
  ⟨(some 9), .len 0 (.t 8), (some (7, false)), 0, 15⟩,
  ⟨(some 10), .bin .gtr (.t 9) (.c (.int .i64 63)), (some (7, false)), 0, 31⟩,
  ⟨(some 11), .pick (.t 7) (.c (.bool true)) (.t 10), none, 0, 63⟩]
def f38r2 : List AOper := [
  ⟨(some 2), .move (.c (.bool false)), none, 0, 0⟩]
def f38r3 : List AOper := [
  ⟨(some 12), .move (.t 0), none, 0, 0⟩,
  ⟨(some 13), .len 0 (.t 12), none, 0, 1⟩,
  ⟨(some 14), .move (.c (.int .i64 0)), none, 0, 0⟩]
def f38r4 : List AOper := [
  ⟨(some 15), .bin .lss (.t 14) (.t 13), none, 0, 0⟩]
def f38r5 : List AOper := [
  ⟨(some 16), .move (.t 14), none, 0, 0⟩,
  ⟨(some 3), .move (.t 16), none, 0, 1⟩]
def f38r6 : List AOper := [
  ⟨(some 17), .move (.t 0), none, 0, 0⟩,
  ⟨(some 18), .move (.t 3), none, 0, 0⟩,
  ⟨(some 19), .strIndex (.t 17) (.t 18), none, 0, 3⟩,
  ⟨(some 4), .move (.t 19), none, 0, 7⟩]
def f38r7 : List AOper := [
  ⟨(some 20), .move (.t 4), none, 0, 0⟩,
  ⟨(some 21), .bin .neq (.t 20) (.c (.int .u8 95)), none, 0, 1⟩,
  ⟨(some 22), .move (.t 21), none, 0, 3⟩,
  ⟨(some 23), .move (.t 4), (some (22, true)), 0, 7⟩,
  ⟨(some 24), .bin .or (.t 23) (.c (.int .u8 32)), (some (22, true)), 0, 15⟩,
  ⟨(some 25), .bin .lss (.t 24) (.c (.int .u8 97)), (some (22, true)), 0, 31⟩,
  ⟨(some 26), .move (.t 25), (some (22, true)), 0, 63⟩,
  ⟨(some 27), .move (.t 4), (some (26, false)), 0, 127⟩,
  ⟨(some 28), .bin .or (.t 27) (.c (.int .u8 32)), (some (26, false)), 0, 255⟩,
  ⟨(some 29), .bin .gtr (.t 28) (.c (.int .u8 122)), (some (26, false)), 0, 511⟩,
  ⟨(some 30), .pick (.t 26) (.c (.bool true)) (.t 29), (some (22, true)), 0, 1023⟩,
  ⟨(some 31), .pick (.t 22) (.t 30) (.c (.bool false)), none, 0, 2047⟩,
  ⟨(some 32), .move (.t 31), none, 0, 4095⟩,
  ⟨(some 33), .move (.t 3), (some (32, true)), 0, 8191⟩,
  ⟨(some 34), .bin .eql (.t 33) (.c (.int .i64 0)), (some (32, true)), 0, 16383⟩,
  ⟨(some 35), .move (.t 34), (some (32, true)), 0, 32767⟩,
  ⟨(some 36), .move (.t 4), (some (35, false)), 0, 65535⟩,
  ⟨(some 37), .bin .lss (.t 36) (.c (.int .u8 48)), (some (35, false)), 0, 131071⟩,
  ⟨(some 38), .pick (.t 35) (.c (.bool true)) (.t 37), (some (32, true)), 0, 262143⟩,
  ⟨(some 39), .move (.t 38), (some (32, true)), 0, 524287⟩,
  ⟨(some 40), .move (.t 4), (some (39, false)), 0, 1048575⟩,
  ⟨(some 41), .bin .gtr (.t 40) (.c (.int .u8 57)), (some (39, false)), 0, 2097151⟩,
  ⟨(some 42), .pick (.t 39) (.c (.bool true)) (.t 41), (some (32, true)), 0, 4194303⟩,
  ⟨(some 43), .pick (.t 32) (.t 42) (.c (.bool false)), none, 0, 8388607⟩]
def f38r8 : List AOper := [
  ⟨(some 2), .move (.c (.bool false)), none, 0, 0⟩]
def f38r9 : List AOper := [
  ⟨(some 44), .bin .add (.t 14) (.c (.int .i64 1)), none, 0, 0⟩,
  ⟨(some 14), .move (.t 44), none, 0, 1⟩]
def f38m4 : ACode :=
  .seq (.region false f38r4 [0, 13, 14, 15] 0)
  (.seq (.cond (.t 15)
    (.skip)
    (.exit 0))
  (.seq (.block 1 (.seq (.region false f38r5 [0, 3, 13, 14] 0)
    (.seq (.region false f38r6 [0, 3, 4, 13, 14] 0)
    (.seq (.region false f38r7 [0, 13, 14, 43] 0)
    (.cond (.t 43)
      (.seq (.region false f38r8 [2] 0)
      (.ret))
      (.skip))))))
  (.region false f38r9 [0, 13, 14] 0)))
def f38l4 : ACode := f38m4
theorem f38l4_b {A : Tab} {nt : Nat} {e : Env} {h : Heap} : Brun A nt f38l4 e h = Brun A nt f38m4 e h := rfl
def f38r10 : List AOper := [
  ⟨(some 2), .move (.c (.bool true)), none, 0, 0⟩]
def f38c : ACode :=
  .seq (.region false f38r0 [0] 0)
  (.seq (.seq (.region false f38r1 [0, 11] 0)
  (.cond (.t 11)
    (.seq (.region false f38r2 [2] 0)
    (.ret))
    (.skip)))
  (.seq (.seq (.region false f38r3 [0, 13, 14] 0)
  (.block 0 (.loop f38l4)))
  (.seq (.region false f38r10 [2] 0)
  (.ret))))
def f38 : AFn := ⟨1, 45, [.tmp 2], f38c, 1, none⟩
def f38k : List (Nat × List Nat) := [(0, [0]), (1, [0, 11]), (2, [2]), (3, [0, 13, 14]), (4, [0, 13, 14, 15]), (5, [0, 3, 13, 14]), (6, [0, 3, 4, 13, 14]), (7, [0, 13, 14, 43]), (8, [2]), (9, [0, 13, 14]), (10, [2])]
def f38v : List Nat := []

/-! 39: (*mortise/layout.looker).rows$1, parameters [38], results [] -/
def f39r0 : List AOper := [
  ⟨(some 2), .box true (.t 0), none, 0, 0⟩]
def f39r1 : List AOper := [
  ⟨(some 3), .fieldAddr 2 (.t 1), none, 0, 0⟩,
  ⟨(some 4), .load false 1 (.t 3), none, 0, 1⟩,
  ⟨(some 5), .load true 5 (.t 2), none, 0, 0⟩,
  ⟨(some 6), .buildSlice true 5 1 (List.replicate 5 (.int .i64 0)) [(0, 5, (.t 5))], none, 0, 4⟩,
  ⟨(some 7), .append true 5 40 (.t 4) (.t 6), none, 0, 15⟩,
  ⟨(some 8), .fieldAddr 2 (.t 1), none, 1, 31⟩,
  ⟨none, .store 1 (.t 8) (.t 7), none, 1, 63⟩]
def f39c : ACode :=
  .seq (.region false f39r0 [1, 2] 0)
  (.region false f39r1 [] 1)
def f39 : AFn := ⟨2, 9, [], f39c, 1, none⟩
def f39k : List (Nat × List Nat) := [(0, [1, 2]), (1, [])]
def f39v : List Nat := [2, 7, 6]

/-! 40: mortise/layout.up[int], parameters [3, 3], results [3] -/
def f40r0 : List AOper := [
  ⟨(some 4), .move (.c (.int .i64 0)), none, 0, 0⟩]
def f40r1 : List AOper := [
  ⟨(some 5), .move (.t 0), none, 0, 0⟩,
  ⟨(some 6), .move (.t 1), none, 0, 0⟩,
  ⟨(some 7), .bin .add (.t 5) (.t 6), none, 0, 3⟩,
  ⟨(some 8), .bin .sub (.t 7) (.c (.int .i64 1)), none, 0, 7⟩,
  ⟨(some 9), .move (.t 1), none, 0, 0⟩,
  ⟨(some 10), .bin .quo (.t 8) (.t 9), none, 0, 31⟩,
  ⟨(some 11), .move (.t 1), none, 0, 0⟩,
  ⟨(some 12), .bin .mul (.t 10) (.t 11), none, 0, 127⟩,
  ⟨(some 4), .move (.t 12), none, 0, 255⟩]
def f40c : ACode :=
  .seq (.region false f40r0 [0, 1] 0)
  (.seq (.region false f40r1 [4] 0)
  (.ret))
def f40 : AFn := ⟨2, 13, [.tmp 4], f40c, 1, none⟩
def f40k : List (Nat × List Nat) := [(0, [0, 1]), (1, [4])]
def f40v : List Nat := []

/-! 41: strings.CutPrefix, parameters [9, 9], results [9, 4] -/
def f41r0 : List AOper := [
  ⟨(some 4), .move (.c (.str [])), none, 0, 0⟩,
  ⟨(some 5), .move (.c (.bool false)), none, 0, 1⟩]
def f41r1 : List AOper := [
  ⟨(some 6), .move (.t 0), none, 0, 0⟩,
  ⟨(some 7), .move (.t 1), none, 0, 0⟩,
  ⟨(some 8), .call (.c (.fn 43 [] [])) [(.t 6), (.t 7)], none, 0, 3⟩,
  ⟨(some 9), .extract (.t 8) 0, none, 0, 7⟩,
  ⟨(some 10), .extract (.t 8) 1, none, 0, 7⟩,
  ⟨(some 4), .move (.t 9), none, 0, 31⟩,
  ⟨(some 5), .move (.t 10), none, 0, 63⟩]
def f41c : ACode :=
  .seq (.region false f41r0 [0, 1] 0)
  (.seq (.region false f41r1 [4, 5] 0)
  (.ret))
def f41 : AFn := ⟨2, 11, [.tmp 4, .tmp 5], f41c, 1, none⟩
def f41k : List (Nat × List Nat) := [(0, [0, 1]), (1, [4, 5])]
def f41v : List Nat := []

/-! 42: strings.Trim, parameters [9, 9], results [9] -/
def f42r0 : List AOper := [
  ⟨(some 4), .move (.c (.str [])), none, 0, 0⟩]
def f42r1 : List AOper := [
  ⟨(some 7), .move (.t 0), none, 0, 0⟩,
  ⟨(some 8), .bin .eql (.t 7) (.c (.str [])), none, 0, 1⟩,
  ⟨(some 9), .move (.t 8), none, 0, 3⟩,
  ⟨(some 10), .move (.t 1), (some (9, false)), 0, 7⟩,
  ⟨(some 11), .bin .eql (.t 10) (.c (.str [])), (some (9, false)), 0, 15⟩,
  ⟨(some 12), .pick (.t 9) (.c (.bool true)) (.t 11), none, 0, 31⟩]
def f42r2 : List AOper := [
  ⟨(some 13), .move (.t 0), none, 0, 0⟩,
  ⟨(some 4), .move (.t 13), none, 0, 1⟩]
def f42r3 : List AOper := [
  ⟨(some 14), .move (.t 1), none, 0, 0⟩,
  ⟨(some 15), .len 0 (.t 14), none, 0, 1⟩,
  ⟨(some 16), .bin .eql (.t 15) (.c (.int .i64 1)), none, 0, 3⟩,
  ⟨(some 17), .move (.t 16), none, 0, 7⟩,
  ⟨(some 18), .move (.t 1), (some (17, true)), 0, 15⟩,
  ⟨(some 19), .strIndex (.t 18) (.c (.int .i64 0)), (some (17, true)), 0, 31⟩,
  ⟨(some 20), .bin .lss (.t 19) (.c (.int .u8 128)), (some (17, true)), 0, 63⟩,
  ⟨(some 21), .pick (.t 17) (.t 20) (.c (.bool false)), none, 0, 127⟩]
def f42q4 : List AOper := [
  ⟨(some 22), .move (.t 0), none, 0, 0⟩,
  ⟨(some 23), .move (.t 1), none, 0, 0⟩,
  ⟨(some 24), .strIndex (.t 23) (.c (.int .i64 0)), none, 0, 2⟩,
  ⟨(some 25), .call (.c (.fn 45 [] [])) [(.t 22), (.t 24)], none, 0, 7⟩,
  ⟨(some 26), .move (.t 1), none, 0, 0⟩,
  ⟨(some 27), .strIndex (.t 26) (.c (.int .i64 0)), none, 0, 16⟩,
  ⟨(some 28), .call (.c (.fn 44 [] [])) [(.t 25), (.t 27)], none, 0, 63⟩,
  ⟨(some 4), .move (.t 28), none, 0, 127⟩]
def f42r4 : List AOper := f42q4
def f42r5 : List AOper := [
  ⟨(some 30), .move (.t 1), none, 0, 0⟩,
  ⟨(some 31), .call (.c (.fn 46 [] [])) [(.t 30)], none, 0, 1⟩,
  ⟨(some 29), .move (.t 31), none, 0, 3⟩,
  ⟨(some 32), .extract (.t 29) 0, none, 0, 7⟩,
  ⟨(some 33), .extract (.t 29) 1, none, 0, 7⟩,
  ⟨(some 5), .alloc false (List.replicate 256 (.bool false)), none, 0, 0⟩,
  ⟨none, .store 256 (.t 5) (.t 32), none, 1, 47⟩,
  ⟨(some 6), .move (.t 33), none, 1, 127⟩]
def f42r6 : List AOper := [
  ⟨(some 34), .move (.t 6), none, 0, 0⟩]
def f42r7 : List AOper := [
  ⟨(some 35), .move (.t 0), none, 0, 0⟩,
  ⟨(some 36), .call (.c (.fn 48 [] [])) [(.t 35), (.t 5)], none, 0, 1⟩,
  ⟨(some 37), .call (.c (.fn 47 [] [])) [(.t 36), (.t 5)], none, 0, 3⟩,
  ⟨(some 4), .move (.t 37), none, 0, 7⟩]
def f42r8 : List AOper := [
  ⟨(some 38), .move (.t 0), none, 0, 0⟩,
  ⟨(some 39), .move (.t 1), none, 0, 0⟩,
  ⟨(some 40), .call (.c (.fn 50 [] [])) [(.t 38), (.t 39)], none, 0, 3⟩,
  ⟨(some 41), .move (.t 1), none, 0, 0⟩,
  ⟨(some 42), .call (.c (.fn 49 [] [])) [(.t 40), (.t 41)], none, 0, 15⟩,
  ⟨(some 4), .move (.t 42), none, 0, 31⟩]
theorem f42r4_s : staticOK 0 f42r4 = true := by rfl
theorem f42r4_w {A : Tab} {nt : Nat} {keep : List Nat} {n : Nat} {e : Env} {h : Heap} (hr : (bkeep keep (stepsF nt (stepF A true) h.length f42r4 e (h ++ List.replicate n .free))).isSome = true) : Brun A nt (.region true f42r4 keep n) e h = bkeep keep (stepsF nt (stepF A true) h.length f42r4 e (h ++ List.replicate n .free)) := Brun_drawnS f42r4_s hr
theorem f42r4_u (nt base : Nat) (step : Nat → AOp → Env → Heap → Option (AV × Heap)) (e : Env) (h : Heap) : stepsF nt step base f42r4 e h = stepsF nt step base f42q4 e h := rfl
def f42c : ACode :=
  .seq (.region false f42r0 [0, 1] 0)
  (.seq (.seq (.region false f42r1 [0, 1, 12] 0)
  (.cond (.t 12)
    (.seq (.region false f42r2 [4] 0)
    (.ret))
    (.skip)))
  (.seq (.seq (.region false f42r3 [0, 1, 21] 0)
  (.cond (.t 21)
    (.seq (.region true f42r4 [4] 0)
    (.ret))
    (.skip)))
  (.seq (.seq (.region false f42r5 [0, 1, 5, 6] 1)
  (.seq (.region false f42r6 [0, 1, 5, 34] 0)
  (.cond (.t 34)
    (.seq (.region false f42r7 [4] 0)
    (.ret))
    (.skip))))
  (.seq (.region false f42r8 [4] 0)
  (.ret)))))
def f42 : AFn := ⟨2, 43, [.tmp 4], f42c, 1, none⟩
def f42k : List (Nat × List Nat) := [(0, [0, 1]), (1, [0, 1, 12]), (2, [4]), (3, [0, 1, 21]), (4, [4]), (5, [0, 1, 5, 6]), (6, [0, 1, 5, 34]), (7, [4]), (8, [4])]
def f42v : List Nat := []

/-! 43: internal/stringslite.CutPrefix, parameters [9, 9], results [9, 4] -/
def f43r0 : List AOper := [
  ⟨(some 4), .move (.c (.str [])), none, 0, 0⟩,
  ⟨(some 5), .move (.c (.bool false)), none, 0, 1⟩]
def f43r1 : List AOper := [
  ⟨(some 6), .move (.t 0), none, 0, 0⟩,
  ⟨(some 7), .move (.t 1), none, 0, 0⟩,
  ⟨(some 8), .call (.c (.fn 51 [] [])) [(.t 6), (.t 7)], none, 0, 3⟩,
  ⟨(some 9), .un .not (.t 8), none, 0, 7⟩]
def f43r2 : List AOper := [
  ⟨(some 10), .move (.t 0), none, 0, 0⟩,
  ⟨(some 4), .move (.t 10), none, 0, 1⟩,
  ⟨(some 5), .move (.c (.bool false)), none, 0, 3⟩]
def f43r3 : List AOper := [
  ⟨(some 11), .move (.t 0), none, 0, 0⟩,
  ⟨(some 12), .move (.t 1), none, 0, 0⟩,
  ⟨(some 13), .len 0 (.t 12), none, 0, 2⟩,
  ⟨(some 14), .strSlice (.t 11) (some (.t 13)) none, none, 0, 7⟩,
  ⟨(some 4), .move (.t 14), none, 0, 15⟩,
  ⟨(some 5), .move (.c (.bool true)), none, 0, 31⟩]
def f43c : ACode :=
  .seq (.region false f43r0 [0, 1] 0)
  (.seq (.seq (.region false f43r1 [0, 1, 9] 0)
  (.cond (.t 9)
    (.seq (.region false f43r2 [4, 5] 0)
    (.ret))
    (.skip)))
  (.seq (.region false f43r3 [4, 5] 0)
  (.ret)))
def f43 : AFn := ⟨2, 15, [.tmp 4, .tmp 5], f43c, 1, none⟩
def f43k : List (Nat × List Nat) := [(0, [0, 1]), (1, [0, 1, 9]), (2, [4, 5]), (3, [4, 5])]
def f43v : List Nat := []

/-! 44: strings.trimLeftByte, parameters [9, 5], results [9] -/
def f44r0 : List AOper := [
  ⟨(some 4), .move (.c (.str [])), none, 0, 0⟩]
def f44r1 : List AOper := [
  ⟨(some 5), .move (.t 0), none, 0, 0⟩,
  ⟨(some 6), .len 0 (.t 5), none, 0, 1⟩,
  ⟨(some 7), .bin .gtr (.t 6) (.c (.int .i64 0)), none, 0, 3⟩,
  ⟨(some 8), .move (.t 7), none, 0, 7⟩,
  ⟨(some 9), .move (.t 0), (some (8, true)), 0, 15⟩,
  ⟨(some 10), .strIndex (.t 9) (.c (.int .i64 0)), (some (8, true)), 0, 31⟩,
  ⟨(some 11), .move (.t 1), (some (8, true)), 0, 15⟩,
  ⟨(some 12), .bin .eql (.t 10) (.t 11), (some (8, true)), 0, 127⟩,
  ⟨(some 13), .pick (.t 8) (.t 12) (.c (.bool false)), none, 0, 255⟩]
def f44r2 : List AOper := [
  ⟨(some 14), .move (.t 0), none, 0, 0⟩,
  ⟨(some 15), .strSlice (.t 14) (some (.c (.int .i64 1))) none, none, 0, 1⟩,
  ⟨(some 0), .move (.t 15), none, 0, 3⟩]
def f44m1 : ACode :=
  .seq (.seq (.region false f44r1 [0, 1, 13] 0)
  (.cond (.t 13)
    (.skip)
    (.exit 0)))
  (.block 1 (.region false f44r2 [0, 1] 0))
def f44l1 : ACode := f44m1
theorem f44l1_b {A : Tab} {nt : Nat} {e : Env} {h : Heap} : Brun A nt f44l1 e h = Brun A nt f44m1 e h := rfl
def f44r3 : List AOper := [
  ⟨(some 16), .move (.t 0), none, 0, 0⟩,
  ⟨(some 4), .move (.t 16), none, 0, 1⟩]
def f44c : ACode :=
  .seq (.region false f44r0 [0, 1] 0)
  (.seq (.block 0 (.loop f44l1))
  (.seq (.region false f44r3 [4] 0)
  (.ret)))
def f44 : AFn := ⟨2, 17, [.tmp 4], f44c, 1, none⟩
def f44k : List (Nat × List Nat) := [(0, [0, 1]), (1, [0, 1, 13]), (2, [0, 1]), (3, [4])]
def f44v : List Nat := []

/-! 45: strings.trimRightByte, parameters [9, 5], results [9] -/
def f45r0 : List AOper := [
  ⟨(some 4), .move (.c (.str [])), none, 0, 0⟩]
def f45r1 : List AOper := [
  ⟨(some 5), .move (.t 0), none, 0, 0⟩,
  ⟨(some 6), .len 0 (.t 5), none, 0, 1⟩,
  ⟨(some 7), .bin .gtr (.t 6) (.c (.int .i64 0)), none, 0, 3⟩,
  ⟨(some 8), .move (.t 7), none, 0, 7⟩,
  ⟨(some 9), .move (.t 0), (some (8, true)), 0, 15⟩,
  ⟨(some 10), .move (.t 0), (some (8, true)), 0, 15⟩,
  ⟨(some 11), .len 0 (.t 10), (some (8, true)), 0, 47⟩,
  ⟨(some 12), .bin .sub (.t 11) (.c (.int .i64 1)), (some (8, true)), 0, 111⟩,
  ⟨(some 13), .strIndex (.t 9) (.t 12), (some (8, true)), 0, 255⟩,
  ⟨(some 14), .move (.t 1), (some (8, true)), 0, 15⟩,
  ⟨(some 15), .bin .eql (.t 13) (.t 14), (some (8, true)), 0, 1023⟩,
  ⟨(some 16), .pick (.t 8) (.t 15) (.c (.bool false)), none, 0, 2047⟩]
def f45r2 : List AOper := [
  ⟨(some 17), .move (.t 0), none, 0, 0⟩,
  ⟨(some 18), .move (.t 0), none, 0, 0⟩,
  ⟨(some 19), .len 0 (.t 18), none, 0, 2⟩,
  ⟨(some 20), .bin .sub (.t 19) (.c (.int .i64 1)), none, 0, 6⟩,
  ⟨(some 21), .strSlice (.t 17) none (some (.t 20)), none, 0, 15⟩,
  ⟨(some 0), .move (.t 21), none, 0, 31⟩]
def f45m1 : ACode :=
  .seq (.seq (.region false f45r1 [0, 1, 16] 0)
  (.cond (.t 16)
    (.skip)
    (.exit 0)))
  (.block 1 (.region false f45r2 [0, 1] 0))
def f45l1 : ACode := f45m1
theorem f45l1_b {A : Tab} {nt : Nat} {e : Env} {h : Heap} : Brun A nt f45l1 e h = Brun A nt f45m1 e h := rfl
def f45r3 : List AOper := [
  ⟨(some 22), .move (.t 0), none, 0, 0⟩,
  ⟨(some 4), .move (.t 22), none, 0, 1⟩]
def f45c : ACode :=
  .seq (.region false f45r0 [0, 1] 0)
  (.seq (.block 0 (.loop f45l1))
  (.seq (.region false f45r3 [4] 0)
  (.ret)))
def f45 : AFn := ⟨2, 23, [.tmp 4], f45c, 1, none⟩
def f45k : List (Nat × List Nat) := [(0, [0, 1]), (1, [0, 1, 16]), (2, [0, 1]), (3, [4])]
def f45v : List Nat := []

/-! 46: strings.makeASCIISet, parameters [9], results [97, 4] -/
def f46r0 : List AOper := [
  ⟨(some 2), .alloc false (List.replicate 256 (.bool false)), none, 0, 0⟩,
  ⟨(some 3), .move (.c (.bool false)), none, 1, 0⟩]
def f46r1 : List AOper := [
  ⟨(some 4), .move (.c (.int .i64 0)), none, 0, 0⟩]
def f46r2 : List AOper := [
  ⟨(some 6), .move (.t 4), none, 0, 0⟩,
  ⟨(some 7), .move (.t 0), none, 0, 0⟩,
  ⟨(some 8), .len 0 (.t 7), none, 0, 2⟩,
  ⟨(some 9), .bin .lss (.t 6) (.t 8), none, 0, 7⟩]
def f46r3 : List AOper := [
  ⟨(some 12), .move (.t 0), none, 0, 0⟩,
  ⟨(some 13), .move (.t 4), none, 0, 0⟩,
  ⟨(some 14), .strIndex (.t 12) (.t 13), none, 0, 3⟩,
  ⟨(some 5), .move (.t 14), none, 0, 7⟩]
def f46r4 : List AOper := [
  ⟨(some 15), .move (.t 5), none, 0, 0⟩,
  ⟨(some 16), .bin .geq (.t 15) (.c (.int .u8 128)), none, 0, 1⟩]
def f46r5 : List AOper := [
  ⟨(some 17), .load true 256 (.t 2), none, 0, 0⟩,
  ⟨none, .store 256 (.t 2) (.t 17), none, 0, 1⟩,
  ⟨(some 3), .move (.c (.bool false)), none, 0, 3⟩]
def f46r6 : List AOper := [
  ⟨(some 18), .move (.t 5), none, 0, 0⟩,
  ⟨(some 19), .idxArr 256 1 (.t 2) (.t 18), none, 0, 1⟩,
  ⟨none, .store 1 (.t 19) (.c (.bool true)), none, 0, 3⟩]
def f46r7 : List AOper := [
  ⟨(some 10), .move (.t 4), none, 0, 0⟩,
  ⟨(some 11), .bin .add (.t 10) (.c (.int .i64 1)), none, 0, 1⟩,
  ⟨(some 4), .move (.t 11), none, 0, 3⟩]
def f46m2 : ACode :=
  .seq (.seq (.region false f46r2 [0, 2, 4, 9] 0)
  (.cond (.t 9)
    (.skip)
    (.exit 0)))
  (.seq (.block 1 (.seq (.region false f46r3 [0, 2, 4, 5] 0)
    (.seq (.seq (.region false f46r4 [0, 2, 4, 5, 16] 0)
    (.cond (.t 16)
      (.seq (.region false f46r5 [2, 3] 0)
      (.ret))
      (.skip)))
    (.region false f46r6 [0, 2, 4] 0))))
  (.region false f46r7 [0, 2, 4] 0))
def f46l2 : ACode := f46m2
theorem f46l2_b {A : Tab} {nt : Nat} {e : Env} {h : Heap} : Brun A nt f46l2 e h = Brun A nt f46m2 e h := rfl
def f46r8 : List AOper := [
  ⟨(some 20), .load true 256 (.t 2), none, 0, 0⟩,
  ⟨none, .store 256 (.t 2) (.t 20), none, 0, 1⟩,
  ⟨(some 3), .move (.c (.bool true)), none, 0, 3⟩]
def f46c : ACode :=
  .seq (.region false f46r0 [0, 2] 1)
  (.seq (.seq (.region false f46r1 [0, 2, 4] 0)
  (.block 0 (.loop f46l2)))
  (.seq (.region false f46r8 [2, 3] 0)
  (.ret)))
def f46 : AFn := ⟨1, 21, [.cell 2 true 256, .tmp 3], f46c, 1, none⟩
def f46k : List (Nat × List Nat) := [(0, [0, 2]), (1, [0, 2, 4]), (2, [0, 2, 4, 9]), (4, [0, 2, 4, 5]), (5, [0, 2, 4, 5, 16]), (6, [2, 3]), (7, [0, 2, 4]), (3, [0, 2, 4]), (8, [2, 3])]
def f46v : List Nat := []

/-! 47: strings.trimLeftASCII, parameters [9, 101], results [9] -/
def f47r0 : List AOper := [
  ⟨(some 4), .move (.c (.str [])), none, 0, 0⟩]
def f47r1 : List AOper := [
  ⟨(some 5), .move (.t 0), none, 0, 0⟩,
  ⟨(some 6), .len 0 (.t 5), none, 0, 1⟩,
  ⟨(some 7), .bin .gtr (.t 6) (.c (.int .i64 0)), none, 0, 3⟩]
def f47r2 : List AOper := [
  ⟨(some 8), .move (.t 1), none, 0, 0⟩,
  ⟨(some 9), .move (.t 0), none, 0, 0⟩,
  ⟨(some 10), .strIndex (.t 9) (.c (.int .i64 0)), none, 0, 2⟩,
  ⟨(some 11), .call (.c (.fn 52 [] [])) [(.t 8), (.t 10)], none, 0, 7⟩,
  ⟨(some 12), .un .not (.t 11), none, 0, 15⟩]
def f47r3 : List AOper := [
  ⟨(some 13), .move (.t 0), none, 0, 0⟩,
  ⟨(some 14), .strSlice (.t 13) (some (.c (.int .i64 1))) none, none, 0, 1⟩,
  ⟨(some 0), .move (.t 14), none, 0, 3⟩]
def f47m1 : ACode :=
  .seq (.seq (.region false f47r1 [0, 1, 7] 0)
  (.cond (.t 7)
    (.skip)
    (.exit 0)))
  (.block 1 (.seq (.seq (.region false f47r2 [0, 1, 12] 0)
    (.cond (.t 12)
      (.exit 0)
      (.skip)))
    (.region false f47r3 [0, 1] 0)))
def f47l1 : ACode := f47m1
theorem f47l1_b {A : Tab} {nt : Nat} {e : Env} {h : Heap} : Brun A nt f47l1 e h = Brun A nt f47m1 e h := rfl
def f47r4 : List AOper := [
  ⟨(some 15), .move (.t 0), none, 0, 0⟩,
  ⟨(some 4), .move (.t 15), none, 0, 1⟩]
def f47c : ACode :=
  .seq (.region false f47r0 [0, 1] 0)
  (.seq (.block 0 (.loop f47l1))
  (.seq (.region false f47r4 [4] 0)
  (.ret)))
def f47 : AFn := ⟨2, 16, [.tmp 4], f47c, 1, none⟩
def f47k : List (Nat × List Nat) := [(0, [0, 1]), (1, [0, 1, 7]), (2, [0, 1, 12]), (3, [0, 1]), (4, [4])]
def f47v : List Nat := []

/-! 48: strings.trimRightASCII, parameters [9, 101], results [9] -/
def f48r0 : List AOper := [
  ⟨(some 4), .move (.c (.str [])), none, 0, 0⟩]
def f48r1 : List AOper := [
  ⟨(some 5), .move (.t 0), none, 0, 0⟩,
  ⟨(some 6), .len 0 (.t 5), none, 0, 1⟩,
  ⟨(some 7), .bin .gtr (.t 6) (.c (.int .i64 0)), none, 0, 3⟩]
def f48r2 : List AOper := [
  ⟨(some 8), .move (.t 1), none, 0, 0⟩,
  ⟨(some 9), .move (.t 0), none, 0, 0⟩,
  ⟨(some 10), .move (.t 0), none, 0, 0⟩,
  ⟨(some 11), .len 0 (.t 10), none, 0, 4⟩,
  ⟨(some 12), .bin .sub (.t 11) (.c (.int .i64 1)), none, 0, 12⟩,
  ⟨(some 13), .strIndex (.t 9) (.t 12), none, 0, 30⟩,
  ⟨(some 14), .call (.c (.fn 52 [] [])) [(.t 8), (.t 13)], none, 0, 63⟩,
  ⟨(some 15), .un .not (.t 14), none, 0, 127⟩]
def f48r3 : List AOper := [
  ⟨(some 16), .move (.t 0), none, 0, 0⟩,
  ⟨(some 17), .move (.t 0), none, 0, 0⟩,
  ⟨(some 18), .len 0 (.t 17), none, 0, 2⟩,
  ⟨(some 19), .bin .sub (.t 18) (.c (.int .i64 1)), none, 0, 6⟩,
  ⟨(some 20), .strSlice (.t 16) none (some (.t 19)), none, 0, 15⟩,
  ⟨(some 0), .move (.t 20), none, 0, 31⟩]
def f48m1 : ACode :=
  .seq (.seq (.region false f48r1 [0, 1, 7] 0)
  (.cond (.t 7)
    (.skip)
    (.exit 0)))
  (.block 1 (.seq (.seq (.region false f48r2 [0, 1, 15] 0)
    (.cond (.t 15)
      (.exit 0)
      (.skip)))
    (.region false f48r3 [0, 1] 0)))
def f48l1 : ACode := f48m1
theorem f48l1_b {A : Tab} {nt : Nat} {e : Env} {h : Heap} : Brun A nt f48l1 e h = Brun A nt f48m1 e h := rfl
def f48r4 : List AOper := [
  ⟨(some 21), .move (.t 0), none, 0, 0⟩,
  ⟨(some 4), .move (.t 21), none, 0, 1⟩]
def f48c : ACode :=
  .seq (.region false f48r0 [0, 1] 0)
  (.seq (.block 0 (.loop f48l1))
  (.seq (.region false f48r4 [4] 0)
  (.ret)))
def f48 : AFn := ⟨2, 22, [.tmp 4], f48c, 1, none⟩
def f48k : List (Nat × List Nat) := [(0, [0, 1]), (1, [0, 1, 7]), (2, [0, 1, 15]), (3, [0, 1]), (4, [4])]
def f48v : List Nat := []

/-! 49: strings.trimLeftUnicode, parameters [9, 9], results [9] -/
def f49r0 : List AOper := [
  ⟨(some 4), .move (.c (.str [])), none, 0, 0⟩]
def f49r1 : List AOper := [
  ⟨(some 7), .move (.t 0), none, 0, 0⟩,
  ⟨(some 8), .len 0 (.t 7), none, 0, 1⟩,
  ⟨(some 9), .bin .gtr (.t 8) (.c (.int .i64 0)), none, 0, 3⟩]
def f49r2 : List AOper := [
  ⟨(some 11), .move (.t 0), none, 0, 0⟩,
  ⟨(some 12), .call (.c (.fn 53 [] [])) [(.t 11)], none, 0, 1⟩,
  ⟨(some 10), .move (.t 12), none, 0, 3⟩,
  ⟨(some 13), .extract (.t 10) 0, none, 0, 7⟩,
  ⟨(some 14), .extract (.t 10) 1, none, 0, 7⟩,
  ⟨(some 5), .move (.t 13), none, 0, 15⟩,
  ⟨(some 6), .move (.t 14), none, 0, 63⟩]
def f49r3 : List AOper := [
  ⟨(some 15), .move (.t 1), none, 0, 0⟩,
  ⟨(some 16), .move (.t 5), none, 0, 0⟩,
  ⟨(some 17), .call (.c (.fn 54 [] [])) [(.t 15), (.t 16)], none, 0, 3⟩,
  ⟨(some 18), .un .not (.t 17), none, 0, 7⟩]
def f49r4 : List AOper := [
  ⟨(some 19), .move (.t 0), none, 0, 0⟩,
  ⟨(some 20), .move (.t 6), none, 0, 0⟩,
  ⟨(some 21), .strSlice (.t 19) (some (.t 20)) none, none, 0, 3⟩,
  ⟨(some 0), .move (.t 21), none, 0, 7⟩]
def f49m1 : ACode :=
  .seq (.seq (.region false f49r1 [0, 1, 9] 0)
  (.cond (.t 9)
    (.skip)
    (.exit 0)))
  (.block 1 (.seq (.region false f49r2 [0, 1, 5, 6] 0)
    (.seq (.seq (.region false f49r3 [0, 1, 6, 18] 0)
    (.cond (.t 18)
      (.exit 0)
      (.skip)))
    (.region false f49r4 [0, 1] 0))))
def f49l1 : ACode := f49m1
theorem f49l1_b {A : Tab} {nt : Nat} {e : Env} {h : Heap} : Brun A nt f49l1 e h = Brun A nt f49m1 e h := rfl
def f49r5 : List AOper := [
  ⟨(some 22), .move (.t 0), none, 0, 0⟩,
  ⟨(some 4), .move (.t 22), none, 0, 1⟩]
def f49c : ACode :=
  .seq (.region false f49r0 [0, 1] 0)
  (.seq (.block 0 (.loop f49l1))
  (.seq (.region false f49r5 [4] 0)
  (.ret)))
def f49 : AFn := ⟨2, 23, [.tmp 4], f49c, 1, none⟩
def f49k : List (Nat × List Nat) := [(0, [0, 1]), (1, [0, 1, 9]), (2, [0, 1, 5, 6]), (3, [0, 1, 6, 18]), (4, [0, 1]), (5, [4])]
def f49v : List Nat := []

/-! 50: strings.trimRightUnicode, parameters [9, 9], results [9] -/
def f50r0 : List AOper := [
  ⟨(some 4), .move (.c (.str [])), none, 0, 0⟩]
def f50r1 : List AOper := [
  ⟨(some 7), .move (.t 0), none, 0, 0⟩,
  ⟨(some 8), .len 0 (.t 7), none, 0, 1⟩,
  ⟨(some 9), .bin .gtr (.t 8) (.c (.int .i64 0)), none, 0, 3⟩]
def f50r2 : List AOper := [
  ⟨(some 10), .move (.t 0), none, 0, 0⟩,
  ⟨(some 11), .move (.t 0), none, 0, 0⟩,
  ⟨(some 12), .len 0 (.t 11), none, 0, 2⟩,
  ⟨(some 13), .bin .sub (.t 12) (.c (.int .i64 1)), none, 0, 6⟩,
  ⟨(some 14), .strIndex (.t 10) (.t 13), none, 0, 15⟩,
  ⟨(some 15), .conv .i32 (.t 14), none, 0, 31⟩,
  ⟨(some 5), .move (.t 15), none, 0, 63⟩,
  ⟨(some 6), .move (.c (.int .i64 1)), none, 0, 127⟩]
def f50r3 : List AOper := [
  ⟨(some 16), .move (.t 5), none, 0, 0⟩,
  ⟨(some 17), .bin .geq (.t 16) (.c (.int .i32 128)), none, 0, 1⟩]
def f50r4 : List AOper := [
  ⟨(some 19), .move (.t 0), none, 0, 0⟩,
  ⟨(some 20), .call (.c (.fn 55 [] [])) [(.t 19)], none, 0, 1⟩,
  ⟨(some 18), .move (.t 20), none, 0, 3⟩,
  ⟨(some 21), .extract (.t 18) 0, none, 0, 7⟩,
  ⟨(some 22), .extract (.t 18) 1, none, 0, 7⟩,
  ⟨(some 5), .move (.t 21), none, 0, 15⟩,
  ⟨(some 6), .move (.t 22), none, 0, 63⟩]
def f50r5 : List AOper := [
  ⟨(some 23), .move (.t 1), none, 0, 0⟩,
  ⟨(some 24), .move (.t 5), none, 0, 0⟩,
  ⟨(some 25), .call (.c (.fn 54 [] [])) [(.t 23), (.t 24)], none, 0, 3⟩,
  ⟨(some 26), .un .not (.t 25), none, 0, 7⟩]
def f50r6 : List AOper := [
  ⟨(some 27), .move (.t 0), none, 0, 0⟩,
  ⟨(some 28), .move (.t 0), none, 0, 0⟩,
  ⟨(some 29), .len 0 (.t 28), none, 0, 2⟩,
  ⟨(some 30), .move (.t 6), none, 0, 0⟩,
  ⟨(some 31), .bin .sub (.t 29) (.t 30), none, 0, 14⟩,
  ⟨(some 32), .strSlice (.t 27) none (some (.t 31)), none, 0, 31⟩,
  ⟨(some 0), .move (.t 32), none, 0, 63⟩]
def f50m1 : ACode :=
  .seq (.seq (.region false f50r1 [0, 1, 9] 0)
  (.cond (.t 9)
    (.skip)
    (.exit 0)))
  (.block 1 (.seq (.region false f50r2 [0, 1, 5, 6] 0)
    (.seq (.seq (.region false f50r3 [0, 1, 5, 6, 17] 0)
    (.cond (.t 17)
      (.region false f50r4 [0, 1, 5, 6] 0)
      (.skip)))
    (.seq (.seq (.region false f50r5 [0, 1, 6, 26] 0)
    (.cond (.t 26)
      (.exit 0)
      (.skip)))
    (.region false f50r6 [0, 1] 0)))))
def f50l1 : ACode := f50m1
theorem f50l1_b {A : Tab} {nt : Nat} {e : Env} {h : Heap} : Brun A nt f50l1 e h = Brun A nt f50m1 e h := rfl
def f50r7 : List AOper := [
  ⟨(some 33), .move (.t 0), none, 0, 0⟩,
  ⟨(some 4), .move (.t 33), none, 0, 1⟩]
def f50c : ACode :=
  .seq (.region false f50r0 [0, 1] 0)
  (.seq (.block 0 (.loop f50l1))
  (.seq (.region false f50r7 [4] 0)
  (.ret)))
def f50 : AFn := ⟨2, 34, [.tmp 4], f50c, 1, none⟩
def f50k : List (Nat × List Nat) := [(0, [0, 1]), (1, [0, 1, 9]), (2, [0, 1, 5, 6]), (3, [0, 1, 5, 6, 17]), (4, [0, 1, 5, 6]), (5, [0, 1, 6, 26]), (6, [0, 1]), (7, [4])]
def f50v : List Nat := [15]

/-! 51: internal/stringslite.HasPrefix, parameters [9, 9], results [4] -/
def f51r0 : List AOper := [
  ⟨(some 4), .move (.c (.bool false)), none, 0, 0⟩]
def f51r1 : List AOper := [
  ⟨(some 5), .move (.t 0), none, 0, 0⟩,
  ⟨(some 6), .len 0 (.t 5), none, 0, 1⟩,
  ⟨(some 7), .move (.t 1), none, 0, 0⟩,
  ⟨(some 8), .len 0 (.t 7), none, 0, 4⟩,
  ⟨(some 9), .bin .geq (.t 6) (.t 8), none, 0, 15⟩,
  ⟨(some 10), .move (.t 9), none, 0, 31⟩,
  ⟨(some 11), .move (.t 0), (some (10, true)), 0, 63⟩,
  ⟨(some 12), .move (.t 1), (some (10, true)), 0, 63⟩,
  ⟨(some 13), .len 0 (.t 12), (some (10, true)), 0, 191⟩,
  ⟨(some 14), .strSlice (.t 11) none (some (.t 13)), (some (10, true)), 0, 511⟩,
  ⟨(some 15), .move (.t 1), (some (10, true)), 0, 63⟩,
  ⟨(some 16), .bin .eql (.t 14) (.t 15), (some (10, true)), 0, 2047⟩,
  ⟨(some 17), .pick (.t 10) (.t 16) (.c (.bool false)), none, 0, 4095⟩,
  ⟨(some 4), .move (.t 17), none, 0, 8191⟩]
def f51c : ACode :=
  .seq (.region false f51r0 [0, 1] 0)
  (.seq (.region false f51r1 [4] 0)
  (.ret))
def f51 : AFn := ⟨2, 18, [.tmp 4], f51c, 1, none⟩
def f51k : List (Nat × List Nat) := [(0, [0, 1]), (1, [4])]
def f51v : List Nat := []

/-! 52: (*strings.asciiSet).contains, parameters [101, 5], results [4] -/
def f52r0 : List AOper := [
  ⟨(some 4), .move (.c (.bool false)), none, 0, 0⟩]
def f52r1 : List AOper := [
  ⟨(some 5), .move (.t 0), none, 0, 0⟩,
  ⟨(some 6), .move (.t 1), none, 0, 0⟩,
  ⟨(some 7), .nilCheck (.t 5), none, 0, 1⟩,
  ⟨(some 8), .idxArr 256 1 (.t 7) (.t 6), none, 0, 7⟩,
  ⟨(some 9), .load false 1 (.t 8), none, 0, 15⟩,
  ⟨(some 4), .move (.t 9), none, 0, 31⟩]
def f52c : ACode :=
  .seq (.region false f52r0 [0, 1] 0)
  (.seq (.region false f52r1 [4] 0)
  (.ret))
def f52 : AFn := ⟨2, 10, [.tmp 4], f52c, 1, none⟩
def f52k : List (Nat × List Nat) := [(0, [0, 1]), (1, [4])]
def f52v : List Nat := []

/-! 53: unicode/utf8.DecodeRuneInString, parameters [9], results [21, 3] -/
def f53r0 : List AOper := [
  ⟨(some 2), .move (.c (.int .i32 0)), none, 0, 0⟩,
  ⟨(some 3), .move (.c (.int .i64 0)), none, 0, 1⟩]
def f53r1 : List AOper := [
  ⟨(some 4), .move (.t 0), none, 0, 0⟩,
  ⟨(some 5), .bin .neq (.t 4) (.c (.str [])), none, 0, 1⟩,
  ⟨(some 6), .move (.t 5), none, 0, 3⟩,
  ⟨(some 7), .move (.t 0), (some (6, true)), 0, 7⟩,
  ⟨(some 8), .strIndex (.t 7) (.c (.int .i64 0)), (some (6, true)), 0, 15⟩,
  ⟨(some 9), .bin .lss (.t 8) (.c (.int .u8 128)), (some (6, true)), 0, 31⟩,
  ⟨(some 10), .pick (.t 6) (.t 9) (.c (.bool false)), none, 0, 63⟩]
def f53r2 : List AOper := [
  ⟨(some 11), .move (.t 0), none, 0, 0⟩,
  ⟨(some 12), .strIndex (.t 11) (.c (.int .i64 0)), none, 0, 1⟩,
  ⟨(some 13), .conv .i32 (.t 12), none, 0, 3⟩,
  ⟨(some 2), .move (.t 13), none, 0, 7⟩,
  ⟨(some 3), .move (.c (.int .i64 1)), none, 0, 15⟩]
def f53r3 : List AOper := [
  ⟨(some 15), .move (.t 0), none, 0, 0⟩,
  ⟨(some 16), .call (.c (.fn 56 [] [])) [(.t 15)], none, 0, 1⟩,
  ⟨(some 14), .move (.t 16), none, 0, 3⟩,
  ⟨(some 17), .extract (.t 14) 0, none, 0, 7⟩,
  ⟨(some 18), .extract (.t 14) 1, none, 0, 7⟩,
  ⟨(some 2), .move (.t 17), none, 0, 15⟩,
  ⟨(some 3), .move (.t 18), none, 0, 63⟩]
def f53c : ACode :=
  .seq (.region false f53r0 [0] 0)
  (.seq (.seq (.region false f53r1 [0, 10] 0)
  (.cond (.t 10)
    (.seq (.region false f53r2 [2, 3] 0)
    (.ret))
    (.region false f53r3 [2, 3] 0)))
  (.ret))
def f53 : AFn := ⟨1, 19, [.tmp 2, .tmp 3], f53c, 1, none⟩
def f53k : List (Nat × List Nat) := [(0, [0]), (1, [0, 10]), (3, [2, 3]), (2, [2, 3])]
def f53v : List Nat := [13]

/-! 54: strings.ContainsRune, parameters [9, 21], results [4] -/
def f54r0 : List AOper := [
  ⟨(some 4), .move (.c (.bool false)), none, 0, 0⟩]
def f54r1 : List AOper := [
  ⟨(some 5), .move (.t 0), none, 0, 0⟩,
  ⟨(some 6), .move (.t 1), none, 0, 0⟩,
  ⟨(some 7), .call (.c (.fn 57 [] [])) [(.t 5), (.t 6)], none, 0, 3⟩,
  ⟨(some 8), .bin .geq (.t 7) (.c (.int .i64 0)), none, 0, 7⟩,
  ⟨(some 4), .move (.t 8), none, 0, 15⟩]
def f54c : ACode :=
  .seq (.region false f54r0 [0, 1] 0)
  (.seq (.region false f54r1 [4] 0)
  (.ret))
def f54 : AFn := ⟨2, 9, [.tmp 4], f54c, 1, none⟩
def f54k : List (Nat × List Nat) := [(0, [0, 1]), (1, [4])]
def f54v : List Nat := []

/-! 55: unicode/utf8.DecodeLastRuneInString, parameters [9], results [21, 3] -/
def f55r0 : List AOper := [
  ⟨(some 2), .move (.c (.int .i32 0)), none, 0, 0⟩,
  ⟨(some 3), .move (.c (.int .i64 0)), none, 0, 1⟩]
def f55r1 : List AOper := [
  ⟨(some 7), .move (.t 0), none, 0, 0⟩,
  ⟨(some 8), .len 0 (.t 7), none, 0, 1⟩,
  ⟨(some 4), .move (.t 8), none, 0, 3⟩]
def f55r2 : List AOper := [
  ⟨(some 9), .move (.t 4), none, 0, 0⟩,
  ⟨(some 10), .bin .eql (.t 9) (.c (.int .i64 0)), none, 0, 1⟩]
def f55r3 : List AOper := [
  ⟨(some 2), .move (.c (.int .i32 65533)), none, 0, 0⟩,
  ⟨(some 3), .move (.c (.int .i64 0)), none, 0, 1⟩]
def f55r4 : List AOper := [
  ⟨(some 11), .move (.t 4), none, 0, 0⟩,
  ⟨(some 12), .bin .sub (.t 11) (.c (.int .i64 1)), none, 0, 1⟩,
  ⟨(some 5), .move (.t 12), none, 0, 3⟩]
def f55r5 : List AOper := [
  ⟨(some 13), .move (.t 0), none, 0, 0⟩,
  ⟨(some 14), .move (.t 5), none, 0, 0⟩,
  ⟨(some 15), .strIndex (.t 13) (.t 14), none, 0, 3⟩,
  ⟨(some 16), .conv .i32 (.t 15), none, 0, 7⟩,
  ⟨(some 2), .move (.t 16), none, 0, 15⟩]
def f55r6 : List AOper := [
  ⟨(some 17), .move (.t 2), none, 0, 0⟩,
  ⟨(some 18), .bin .lss (.t 17) (.c (.int .i32 128)), none, 0, 1⟩]
def f55r7 : List AOper := [
  ⟨(some 19), .move (.t 2), none, 0, 0⟩,
  ⟨(some 2), .move (.t 19), none, 0, 1⟩,
  ⟨(some 3), .move (.c (.int .i64 1)), none, 0, 3⟩]
def f55r8 : List AOper := [
  ⟨(some 20), .move (.t 4), none, 0, 0⟩,
  ⟨(some 21), .bin .sub (.t 20) (.c (.int .i64 4)), none, 0, 1⟩,
  ⟨(some 22), .max (.t 21) (.c (.int .i64 0)), none, 0, 3⟩,
  ⟨(some 6), .move (.t 22), none, 0, 7⟩]
def f55r9 : List AOper := [
  ⟨(some 23), .move (.t 5), none, 0, 0⟩,
  ⟨(some 24), .bin .sub (.t 23) (.c (.int .i64 1)), none, 0, 1⟩,
  ⟨(some 5), .move (.t 24), none, 0, 3⟩]
def f55r10 : List AOper := [
  ⟨(some 25), .move (.t 5), none, 0, 0⟩,
  ⟨(some 26), .move (.t 6), none, 0, 0⟩,
  ⟨(some 27), .bin .geq (.t 25) (.t 26), none, 0, 3⟩]
def f55r11 : List AOper := [
  ⟨(some 30), .move (.t 0), none, 0, 0⟩,
  ⟨(some 31), .move (.t 5), none, 0, 0⟩,
  ⟨(some 32), .strIndex (.t 30) (.t 31), none, 0, 3⟩,
  ⟨(some 33), .call (.c (.fn 58 [] [])) [(.t 32)], none, 0, 7⟩]
def f55r12 : List AOper := [
  ⟨(some 28), .move (.t 5), none, 0, 0⟩,
  ⟨(some 29), .bin .sub (.t 28) (.c (.int .i64 1)), none, 0, 1⟩,
  ⟨(some 5), .move (.t 29), none, 0, 3⟩]
def f55m10 : ACode :=
  .seq (.seq (.region false f55r10 [0, 4, 5, 6, 27] 0)
  (.cond (.t 27)
    (.skip)
    (.exit 0)))
  (.seq (.block 1 (.seq (.region false f55r11 [0, 4, 5, 6, 33] 0)
    (.cond (.t 33)
      (.exit 0)
      (.skip))))
  (.region false f55r12 [0, 4, 5, 6] 0))
def f55l10 : ACode := f55m10
theorem f55l10_b {A : Tab} {nt : Nat} {e : Env} {h : Heap} : Brun A nt f55l10 e h = Brun A nt f55m10 e h := rfl
def f55r13 : List AOper := [
  ⟨(some 34), .move (.t 5), none, 0, 0⟩,
  ⟨(some 35), .bin .lss (.t 34) (.c (.int .i64 0)), none, 0, 1⟩]
def f55r14 : List AOper := [
  ⟨(some 5), .move (.c (.int .i64 0)), none, 0, 0⟩]
def f55r15 : List AOper := [
  ⟨(some 37), .move (.t 0), none, 0, 0⟩,
  ⟨(some 38), .move (.t 5), none, 0, 0⟩,
  ⟨(some 39), .move (.t 4), none, 0, 0⟩,
  ⟨(some 40), .strSlice (.t 37) (some (.t 38)) (some (.t 39)), none, 0, 7⟩,
  ⟨(some 41), .call (.c (.fn 53 [] [])) [(.t 40)], none, 0, 15⟩,
  ⟨(some 36), .move (.t 41), none, 0, 31⟩,
  ⟨(some 42), .extract (.t 36) 0, none, 0, 63⟩,
  ⟨(some 43), .extract (.t 36) 1, none, 0, 63⟩,
  ⟨(some 2), .move (.t 42), none, 0, 127⟩,
  ⟨(some 3), .move (.t 43), none, 0, 511⟩]
def f55r16 : List AOper := [
  ⟨(some 44), .move (.t 5), none, 0, 0⟩,
  ⟨(some 45), .move (.t 3), none, 0, 0⟩,
  ⟨(some 46), .bin .add (.t 44) (.t 45), none, 0, 3⟩,
  ⟨(some 47), .move (.t 4), none, 0, 0⟩,
  ⟨(some 48), .bin .neq (.t 46) (.t 47), none, 0, 15⟩]
def f55r17 : List AOper := [
  ⟨(some 2), .move (.c (.int .i32 65533)), none, 0, 0⟩,
  ⟨(some 3), .move (.c (.int .i64 1)), none, 0, 1⟩]
def f55r18 : List AOper := [
  ⟨(some 49), .move (.t 2), none, 0, 0⟩,
  ⟨(some 50), .move (.t 3), none, 0, 0⟩,
  ⟨(some 2), .move (.t 49), none, 0, 1⟩,
  ⟨(some 3), .move (.t 50), none, 0, 7⟩]
def f55c : ACode :=
  .seq (.region false f55r0 [0] 0)
  (.seq (.region false f55r1 [0, 4] 0)
  (.seq (.seq (.region false f55r2 [0, 4, 10] 0)
  (.cond (.t 10)
    (.seq (.region false f55r3 [2, 3] 0)
    (.ret))
    (.skip)))
  (.seq (.region false f55r4 [0, 4, 5] 0)
  (.seq (.region false f55r5 [0, 2, 4, 5] 0)
  (.seq (.seq (.region false f55r6 [0, 2, 4, 5, 18] 0)
  (.cond (.t 18)
    (.seq (.region false f55r7 [2, 3] 0)
    (.ret))
    (.skip)))
  (.seq (.region false f55r8 [0, 4, 5, 6] 0)
  (.seq (.seq (.region false f55r9 [0, 4, 5, 6] 0)
  (.block 0 (.loop f55l10)))
  (.seq (.seq (.region false f55r13 [0, 4, 5, 35] 0)
  (.cond (.t 35)
    (.region false f55r14 [0, 4, 5] 0)
    (.skip)))
  (.seq (.region false f55r15 [2, 3, 4, 5] 0)
  (.seq (.seq (.region false f55r16 [2, 3, 48] 0)
  (.cond (.t 48)
    (.seq (.region false f55r17 [2, 3] 0)
    (.ret))
    (.skip)))
  (.seq (.region false f55r18 [2, 3] 0)
  (.ret))))))))))))
def f55 : AFn := ⟨1, 51, [.tmp 2, .tmp 3], f55c, 1, none⟩
def f55k : List (Nat × List Nat) := [(0, [0]), (1, [0, 4]), (2, [0, 4, 10]), (3, [2, 3]), (4, [0, 4, 5]), (5, [0, 2, 4, 5]), (6, [0, 2, 4, 5, 18]), (7, [2, 3]), (8, [0, 4, 5, 6]), (9, [0, 4, 5, 6]), (10, [0, 4, 5, 6, 27]), (12, [0, 4, 5, 6, 33]), (11, [0, 4, 5, 6]), (13, [0, 4, 5, 35]), (14, [0, 4, 5]), (15, [2, 3, 4, 5]), (16, [2, 3, 48]), (17, [2, 3]), (18, [2, 3])]
def f55v : List Nat := [16]

/-! 56: unicode/utf8.decodeRuneInStringSlow, parameters [9], results [21, 3] -/
def f56r0 : List AOper := [
  ⟨(some 2), .move (.c (.int .i32 0)), none, 0, 0⟩,
  ⟨(some 3), .move (.c (.int .i64 0)), none, 0, 1⟩]
def f56r1 : List AOper := [
  ⟨(some 13), .move (.t 0), none, 0, 0⟩,
  ⟨(some 14), .len 0 (.t 13), none, 0, 1⟩,
  ⟨(some 4), .move (.t 14), none, 0, 3⟩]
def f56r2 : List AOper := [
  ⟨(some 15), .move (.t 4), none, 0, 0⟩,
  ⟨(some 16), .bin .lss (.t 15) (.c (.int .i64 1)), none, 0, 1⟩]
def f56r3 : List AOper := [
  ⟨(some 2), .move (.c (.int .i32 65533)), none, 0, 0⟩,
  ⟨(some 3), .move (.c (.int .i64 0)), none, 0, 1⟩]
def f56r4 : List AOper := [
  ⟨(some 17), .move (.t 0), none, 0, 0⟩,
  ⟨(some 18), .strIndex (.t 17) (.c (.int .i64 0)), none, 0, 1⟩,
  ⟨(some 5), .move (.t 18), none, 0, 3⟩]
def f56r5 : List AOper := [
  ⟨(some 19), .move (.t 5), none, 0, 0⟩,
  ⟨(some 20), .idxArr 256 1 (.c (.ip gl0 0)) (.t 19), none, 0, 1⟩,
  ⟨(some 21), .load false 1 (.t 20), none, 0, 3⟩,
  ⟨(some 6), .move (.t 21), none, 0, 7⟩]
def f56r6 : List AOper := [
  ⟨(some 22), .move (.t 6), none, 0, 0⟩,
  ⟨(some 23), .bin .geq (.t 22) (.c (.int .u8 240)), none, 0, 1⟩]
def f56r7 : List AOper := [
  ⟨(some 24), .move (.t 6), none, 0, 0⟩,
  ⟨(some 25), .conv .i32 (.t 24), none, 0, 1⟩,
  ⟨(some 26), .bin .shl (.t 25) (.c (.int .u64 31)), none, 0, 3⟩,
  ⟨(some 27), .bin .shr (.t 26) (.c (.int .u64 31)), none, 0, 7⟩,
  ⟨(some 7), .move (.t 27), none, 0, 15⟩]
def f56r8 : List AOper := [
  ⟨(some 28), .move (.t 0), none, 0, 0⟩,
  ⟨(some 29), .strIndex (.t 28) (.c (.int .i64 0)), none, 0, 1⟩,
  ⟨(some 30), .conv .i32 (.t 29), none, 0, 3⟩,
  ⟨(some 31), .move (.t 7), none, 0, 0⟩,
  ⟨(some 32), .bin .andNot (.t 30) (.t 31), none, 0, 15⟩,
  ⟨(some 33), .move (.t 7), none, 0, 0⟩,
  ⟨(some 34), .bin .and (.c (.int .i32 65533)) (.t 33), none, 0, 32⟩,
  ⟨(some 35), .bin .or (.t 32) (.t 34), none, 0, 127⟩,
  ⟨(some 2), .move (.t 35), none, 0, 255⟩,
  ⟨(some 3), .move (.c (.int .i64 1)), none, 0, 511⟩]
def f56r9 : List AOper := [
  ⟨(some 36), .move (.t 6), none, 0, 0⟩,
  ⟨(some 37), .bin .and (.t 36) (.c (.int .u8 7)), none, 0, 1⟩,
  ⟨(some 38), .conv .i64 (.t 37), none, 0, 3⟩,
  ⟨(some 8), .move (.t 38), none, 0, 7⟩]
def f56r10 : List AOper := [
  ⟨(some 39), .move (.t 6), none, 0, 0⟩,
  ⟨(some 40), .bin .shr (.t 39) (.c (.int .u64 4)), none, 0, 1⟩,
  ⟨(some 41), .idxArr 16 2 (.c (.ip gl1 0)) (.t 40), none, 0, 3⟩,
  ⟨(some 42), .load true 2 (.t 41), none, 0, 7⟩,
  ⟨(some 9), .alloc false [(.int .u8 0), (.int .u8 0)], none, 0, 0⟩,
  ⟨none, .store 2 (.t 9) (.t 42), none, 1, 31⟩]
def f56r11 : List AOper := [
  ⟨(some 43), .move (.t 4), none, 0, 0⟩,
  ⟨(some 44), .move (.t 8), none, 0, 0⟩,
  ⟨(some 45), .bin .lss (.t 43) (.t 44), none, 0, 3⟩]
def f56r12 : List AOper := [
  ⟨(some 2), .move (.c (.int .i32 65533)), none, 0, 0⟩,
  ⟨(some 3), .move (.c (.int .i64 1)), none, 0, 1⟩]
def f56r13 : List AOper := [
  ⟨(some 46), .move (.t 0), none, 0, 0⟩,
  ⟨(some 47), .strIndex (.t 46) (.c (.int .i64 1)), none, 0, 1⟩,
  ⟨(some 10), .move (.t 47), none, 0, 3⟩]
def f56r14 : List AOper := [
  ⟨(some 48), .move (.t 10), none, 0, 0⟩,
  ⟨(some 49), .fieldAddr 0 (.t 9), none, 0, 0⟩,
  ⟨(some 50), .load false 1 (.t 49), none, 0, 2⟩,
  ⟨(some 51), .bin .lss (.t 48) (.t 50), none, 0, 7⟩,
  ⟨(some 52), .move (.t 51), none, 0, 15⟩,
  ⟨(some 53), .fieldAddr 1 (.t 9), (some (52, false)), 0, 31⟩,
  ⟨(some 54), .load false 1 (.t 53), (some (52, false)), 0, 63⟩,
  ⟨(some 55), .move (.t 10), (some (52, false)), 0, 31⟩,
  ⟨(some 56), .bin .lss (.t 54) (.t 55), (some (52, false)), 0, 255⟩,
  ⟨(some 57), .pick (.t 52) (.c (.bool true)) (.t 56), none, 0, 511⟩]
def f56r15 : List AOper := [
  ⟨(some 2), .move (.c (.int .i32 65533)), none, 0, 0⟩,
  ⟨(some 3), .move (.c (.int .i64 1)), none, 0, 1⟩]
def f56r16 : List AOper := [
  ⟨(some 58), .move (.t 8), none, 0, 0⟩,
  ⟨(some 59), .bin .leq (.t 58) (.c (.int .i64 2)), none, 0, 1⟩]
def f56r17 : List AOper := [
  ⟨(some 60), .move (.t 5), none, 0, 0⟩,
  ⟨(some 61), .bin .and (.t 60) (.c (.int .u8 31)), none, 0, 1⟩,
  ⟨(some 62), .conv .i32 (.t 61), none, 0, 3⟩,
  ⟨(some 63), .bin .shl (.t 62) (.c (.int .u64 6)), none, 0, 7⟩,
  ⟨(some 64), .move (.t 10), none, 0, 0⟩,
  ⟨(some 65), .bin .and (.t 64) (.c (.int .u8 63)), none, 0, 16⟩,
  ⟨(some 66), .conv .i32 (.t 65), none, 0, 48⟩,
  ⟨(some 67), .bin .or (.t 63) (.t 66), none, 0, 127⟩,
  ⟨(some 2), .move (.t 67), none, 0, 255⟩,
  ⟨(some 3), .move (.c (.int .i64 2)), none, 0, 511⟩]
def f56r18 : List AOper := [
  ⟨(some 68), .move (.t 0), none, 0, 0⟩,
  ⟨(some 69), .strIndex (.t 68) (.c (.int .i64 2)), none, 0, 1⟩,
  ⟨(some 11), .move (.t 69), none, 0, 3⟩]
def f56r19 : List AOper := [
  ⟨(some 70), .move (.t 11), none, 0, 0⟩,
  ⟨(some 71), .bin .lss (.t 70) (.c (.int .u8 128)), none, 0, 1⟩,
  ⟨(some 72), .move (.t 71), none, 0, 3⟩,
  ⟨(some 73), .move (.t 11), (some (72, false)), 0, 7⟩,
  ⟨(some 74), .bin .lss (.c (.int .u8 191)) (.t 73), (some (72, false)), 0, 15⟩,
  ⟨(some 75), .pick (.t 72) (.c (.bool true)) (.t 74), none, 0, 31⟩]
def f56r20 : List AOper := [
  ⟨(some 2), .move (.c (.int .i32 65533)), none, 0, 0⟩,
  ⟨(some 3), .move (.c (.int .i64 1)), none, 0, 1⟩]
def f56r21 : List AOper := [
  ⟨(some 76), .move (.t 8), none, 0, 0⟩,
  ⟨(some 77), .bin .leq (.t 76) (.c (.int .i64 3)), none, 0, 1⟩]
def f56r22 : List AOper := [
  ⟨(some 78), .move (.t 5), none, 0, 0⟩,
  ⟨(some 79), .bin .and (.t 78) (.c (.int .u8 15)), none, 0, 1⟩,
  ⟨(some 80), .conv .i32 (.t 79), none, 0, 3⟩,
  ⟨(some 81), .bin .shl (.t 80) (.c (.int .u64 12)), none, 0, 7⟩,
  ⟨(some 82), .move (.t 10), none, 0, 0⟩,
  ⟨(some 83), .bin .and (.t 82) (.c (.int .u8 63)), none, 0, 16⟩,
  ⟨(some 84), .conv .i32 (.t 83), none, 0, 48⟩,
  ⟨(some 85), .bin .shl (.t 84) (.c (.int .u64 6)), none, 0, 112⟩,
  ⟨(some 86), .bin .or (.t 81) (.t 85), none, 0, 255⟩,
  ⟨(some 87), .move (.t 11), none, 0, 0⟩,
  ⟨(some 88), .bin .and (.t 87) (.c (.int .u8 63)), none, 0, 512⟩,
  ⟨(some 89), .conv .i32 (.t 88), none, 0, 1536⟩,
  ⟨(some 90), .bin .or (.t 86) (.t 89), none, 0, 4095⟩,
  ⟨(some 2), .move (.t 90), none, 0, 8191⟩,
  ⟨(some 3), .move (.c (.int .i64 3)), none, 0, 16383⟩]
def f56r23 : List AOper := [
  ⟨(some 91), .move (.t 0), none, 0, 0⟩,
  ⟨(some 92), .strIndex (.t 91) (.c (.int .i64 3)), none, 0, 1⟩,
  ⟨(some 12), .move (.t 92), none, 0, 3⟩]
def f56r24 : List AOper := [
  ⟨(some 93), .move (.t 12), none, 0, 0⟩,
  ⟨(some 94), .bin .lss (.t 93) (.c (.int .u8 128)), none, 0, 1⟩,
  ⟨(some 95), .move (.t 94), none, 0, 3⟩,
  ⟨(some 96), .move (.t 12), (some (95, false)), 0, 7⟩,
  ⟨(some 97), .bin .lss (.c (.int .u8 191)) (.t 96), (some (95, false)), 0, 15⟩,
  ⟨(some 98), .pick (.t 95) (.c (.bool true)) (.t 97), none, 0, 31⟩]
def f56r25 : List AOper := [
  ⟨(some 2), .move (.c (.int .i32 65533)), none, 0, 0⟩,
  ⟨(some 3), .move (.c (.int .i64 1)), none, 0, 1⟩]
def f56r26 : List AOper := [
  ⟨(some 99), .move (.t 5), none, 0, 0⟩,
  ⟨(some 100), .bin .and (.t 99) (.c (.int .u8 7)), none, 0, 1⟩,
  ⟨(some 101), .conv .i32 (.t 100), none, 0, 3⟩,
  ⟨(some 102), .bin .shl (.t 101) (.c (.int .u64 18)), none, 0, 7⟩,
  ⟨(some 103), .move (.t 10), none, 0, 0⟩,
  ⟨(some 104), .bin .and (.t 103) (.c (.int .u8 63)), none, 0, 16⟩,
  ⟨(some 105), .conv .i32 (.t 104), none, 0, 48⟩,
  ⟨(some 106), .bin .shl (.t 105) (.c (.int .u64 12)), none, 0, 112⟩,
  ⟨(some 107), .bin .or (.t 102) (.t 106), none, 0, 255⟩,
  ⟨(some 108), .move (.t 11), none, 0, 0⟩,
  ⟨(some 109), .bin .and (.t 108) (.c (.int .u8 63)), none, 0, 512⟩,
  ⟨(some 110), .conv .i32 (.t 109), none, 0, 1536⟩,
  ⟨(some 111), .bin .shl (.t 110) (.c (.int .u64 6)), none, 0, 3584⟩,
  ⟨(some 112), .bin .or (.t 107) (.t 111), none, 0, 8191⟩,
  ⟨(some 113), .move (.t 12), none, 0, 0⟩,
  ⟨(some 114), .bin .and (.t 113) (.c (.int .u8 63)), none, 0, 16384⟩,
  ⟨(some 115), .conv .i32 (.t 114), none, 0, 49152⟩,
  ⟨(some 116), .bin .or (.t 112) (.t 115), none, 0, 131071⟩,
  ⟨(some 2), .move (.t 116), none, 0, 262143⟩,
  ⟨(some 3), .move (.c (.int .i64 4)), none, 0, 524287⟩]
def f56c : ACode :=
  .seq (.region false f56r0 [0] 0)
  (.seq (.region false f56r1 [0, 4] 0)
  (.seq (.seq (.region false f56r2 [0, 4, 16] 0)
  (.cond (.t 16)
    (.seq (.region false f56r3 [2, 3] 0)
    (.ret))
    (.skip)))
  (.seq (.region false f56r4 [0, 4, 5] 0)
  (.seq (.region false f56r5 [0, 4, 5, 6] 0)
  (.seq (.seq (.region false f56r6 [0, 4, 5, 6, 23] 0)
  (.cond (.t 23)
    (.seq (.region false f56r7 [0, 7] 0)
    (.seq (.region false f56r8 [2, 3] 0)
    (.ret)))
    (.skip)))
  (.seq (.region false f56r9 [0, 4, 5, 6, 8] 0)
  (.seq (.region false f56r10 [0, 4, 5, 8, 9] 1)
  (.seq (.seq (.region false f56r11 [0, 5, 8, 9, 45] 0)
  (.cond (.t 45)
    (.seq (.region false f56r12 [2, 3] 0)
    (.ret))
    (.skip)))
  (.seq (.region false f56r13 [0, 5, 8, 9, 10] 0)
  (.seq (.seq (.region false f56r14 [0, 5, 8, 10, 57] 0)
  (.cond (.t 57)
    (.seq (.region false f56r15 [2, 3] 0)
    (.ret))
    (.skip)))
  (.seq (.seq (.region false f56r16 [0, 5, 8, 10, 59] 0)
  (.cond (.t 59)
    (.seq (.region false f56r17 [2, 3] 0)
    (.ret))
    (.skip)))
  (.seq (.region false f56r18 [0, 5, 8, 10, 11] 0)
  (.seq (.seq (.region false f56r19 [0, 5, 8, 10, 11, 75] 0)
  (.cond (.t 75)
    (.seq (.region false f56r20 [2, 3] 0)
    (.ret))
    (.skip)))
  (.seq (.seq (.region false f56r21 [0, 5, 10, 11, 77] 0)
  (.cond (.t 77)
    (.seq (.region false f56r22 [2, 3] 0)
    (.ret))
    (.skip)))
  (.seq (.region false f56r23 [5, 10, 11, 12] 0)
  (.seq (.seq (.region false f56r24 [5, 10, 11, 12, 98] 0)
  (.cond (.t 98)
    (.seq (.region false f56r25 [2, 3] 0)
    (.ret))
    (.skip)))
  (.seq (.region false f56r26 [2, 3] 0)
  (.ret))))))))))))))))))
def f56 : AFn := ⟨1, 117, [.tmp 2, .tmp 3], f56c, 1, none⟩
def f56k : List (Nat × List Nat) := [(0, [0]), (1, [0, 4]), (2, [0, 4, 16]), (3, [2, 3]), (4, [0, 4, 5]), (5, [0, 4, 5, 6]), (6, [0, 4, 5, 6, 23]), (7, [0, 7]), (8, [2, 3]), (9, [0, 4, 5, 6, 8]), (10, [0, 4, 5, 8, 9]), (11, [0, 5, 8, 9, 45]), (12, [2, 3]), (13, [0, 5, 8, 9, 10]), (14, [0, 5, 8, 10, 57]), (15, [2, 3]), (16, [0, 5, 8, 10, 59]), (17, [2, 3]), (18, [0, 5, 8, 10, 11]), (19, [0, 5, 8, 10, 11, 75]), (20, [2, 3]), (21, [0, 5, 10, 11, 77]), (22, [2, 3]), (23, [5, 10, 11, 12]), (24, [5, 10, 11, 12, 98]), (25, [2, 3]), (26, [2, 3])]
def f56v : List Nat := [115, 110, 105, 101, 89, 84, 80, 66, 62, 38, 30, 25]

/-! 57: strings.IndexRune, parameters [9, 21], results [3] -/
def f57r0 : List AOper := [
  ⟨(some 4), .move (.c (.int .i64 0)), none, 0, 0⟩]
def f57r1 : List AOper := [
  ⟨(some 161), .move (.t 1), none, 0, 0⟩,
  ⟨(some 162), .bin .leq (.c (.int .i32 0)) (.t 161), none, 0, 1⟩,
  ⟨(some 163), .move (.t 162), none, 0, 3⟩,
  ⟨(some 164), .move (.t 1), (some (163, true)), 0, 7⟩,
  ⟨(some 165), .bin .lss (.t 164) (.c (.int .i32 128)), (some (163, true)), 0, 15⟩,
  ⟨(some 166), .pick (.t 163) (.t 165) (.c (.bool false)), none, 0, 31⟩,
  ⟨(some 160), .move (.t 166), none, 0, 63⟩]
def f57r2 : List AOper := [
  ⟨(some 167), .move (.t 0), none, 0, 0⟩,
  ⟨(some 168), .move (.t 1), none, 0, 0⟩,
  ⟨(some 169), .conv .u8 (.t 168), none, 0, 2⟩,
  ⟨(some 170), .call (.c (.fn 59 [] [])) [(.t 167), (.t 169)], none, 0, 7⟩,
  ⟨(some 4), .move (.t 170), none, 0, 15⟩]
def f57r3 : List AOper := [
  ⟨(some 172), .move (.t 1), none, 0, 0⟩,
  ⟨(some 173), .bin .eql (.t 172) (.c (.int .i32 65533)), none, 0, 1⟩,
  ⟨(some 171), .move (.t 173), none, 0, 3⟩]
def f57r4 : List AOper := [
  ⟨(some 174), .move (.t 0), none, 0, 0⟩,
  ⟨(some 175), .stuck, none, 0, 1⟩]
def f57r5 : List AOper := [
  ⟨(some 176), .stuck, none, 0, 0⟩,
  ⟨(some 177), .extract (.t 176) 0, none, 0, 1⟩]
def f57r6 : List AOper := [
  ⟨(some 178), .extract (.t 176) 1, none, 0, 0⟩,
  ⟨(some 179), .extract (.t 176) 2, none, 0, 0⟩,
  ⟨(some 5), .move (.t 178), none, 0, 1⟩,
  ⟨(some 6), .move (.t 179), none, 0, 7⟩]
def f57r7 : List AOper := [
  ⟨(some 180), .move (.t 6), none, 0, 0⟩,
  ⟨(some 181), .bin .eql (.t 180) (.c (.int .i32 65533)), none, 0, 1⟩]
def f57r8 : List AOper := [
  ⟨(some 182), .move (.t 5), none, 0, 0⟩,
  ⟨(some 4), .move (.t 182), none, 0, 1⟩]
def f57m5 : ACode :=
  .seq (.region false f57r5 [176, 177] 0)
  (.seq (.cond (.t 177)
    (.skip)
    (.exit 9))
  (.block 10 (.seq (.region false f57r6 [5, 6] 0)
    (.seq (.region false f57r7 [5, 181] 0)
    (.cond (.t 181)
      (.seq (.region false f57r8 [4] 0)
      (.ret))
      (.skip))))))
def f57l5 : ACode := f57m5
theorem f57l5_b {A : Tab} {nt : Nat} {e : Env} {h : Heap} : Brun A nt f57l5 e h = Brun A nt f57m5 e h := rfl
def f57r9 : List AOper := [
  ⟨(some 4), .move (.c (.int .i64 (-1))), none, 0, 0⟩]
def f57r10 : List AOper := [
  ⟨(some 184), .move (.t 1), none, 0, 0⟩,
  ⟨(some 185), .call (.c (.fn 60 [] [])) [(.t 184)], none, 0, 1⟩,
  ⟨(some 186), .un .not (.t 185), none, 0, 3⟩,
  ⟨(some 183), .move (.t 186), none, 0, 7⟩]
def f57r11 : List AOper := [
  ⟨(some 4), .move (.c (.int .i64 (-1))), none, 0, 0⟩]
def f57r12 : List AOper := [
  ⟨(some 17), .move (.t 1), none, 0, 0⟩,
  ⟨(some 18), .stuck, none, 0, 1⟩,
  ⟨(some 7), .move (.t 18), none, 0, 3⟩]
def f57r13 : List AOper := [
  ⟨(some 19), .move (.t 7), none, 0, 0⟩,
  ⟨(some 20), .len 0 (.t 19), none, 0, 1⟩,
  ⟨(some 21), .bin .sub (.t 20) (.c (.int .i64 1)), none, 0, 3⟩,
  ⟨(some 8), .move (.t 21), none, 0, 7⟩]
def f57r14 : List AOper := [
  ⟨(some 22), .move (.t 8), none, 0, 0⟩,
  ⟨(some 9), .move (.t 22), none, 0, 1⟩]
def f57r15 : List AOper := [
  ⟨(some 10), .move (.c (.int .i64 0)), none, 0, 0⟩]
def f57r16 : List AOper := [
  ⟨(some 23), .move (.t 9), none, 0, 0⟩,
  ⟨(some 24), .move (.t 0), none, 0, 0⟩,
  ⟨(some 25), .len 0 (.t 24), none, 0, 2⟩,
  ⟨(some 26), .bin .lss (.t 23) (.t 25), none, 0, 7⟩]
def f57q17 : List AOper := [
  ⟨(some 27), .move (.t 0), none, 0, 0⟩,
  ⟨(some 28), .move (.t 9), none, 0, 0⟩,
  ⟨(some 29), .strIndex (.t 27) (.t 28), none, 0, 3⟩,
  ⟨(some 30), .move (.t 7), none, 0, 0⟩,
  ⟨(some 31), .move (.t 8), none, 0, 0⟩,
  ⟨(some 32), .strIndex (.t 30) (.t 31), none, 0, 24⟩,
  ⟨(some 33), .bin .neq (.t 29) (.t 32), none, 0, 63⟩]
def f57r17 : List AOper := f57q17
def f57q18 : List AOper := [
  ⟨(some 34), .move (.t 0), none, 0, 0⟩,
  ⟨(some 35), .move (.t 9), none, 0, 0⟩,
  ⟨(some 36), .bin .add (.t 35) (.c (.int .i64 1)), none, 0, 2⟩,
  ⟨(some 37), .strSlice (.t 34) (some (.t 36)) none, none, 0, 7⟩,
  ⟨(some 38), .move (.t 7), none, 0, 0⟩,
  ⟨(some 39), .move (.t 8), none, 0, 0⟩,
  ⟨(some 40), .strIndex (.t 38) (.t 39), none, 0, 48⟩,
  ⟨(some 41), .call (.c (.fn 59 [] [])) [(.t 37), (.t 40)], none, 0, 127⟩,
  ⟨(some 11), .move (.t 41), none, 0, 255⟩]
def f57r18 : List AOper := f57q18
def f57r19 : List AOper := [
  ⟨(some 42), .move (.t 11), none, 0, 0⟩,
  ⟨(some 43), .bin .lss (.t 42) (.c (.int .i64 0)), none, 0, 1⟩]
def f57r20 : List AOper := [
  ⟨(some 4), .move (.c (.int .i64 (-1))), none, 0, 0⟩]
def f57r21 : List AOper := [
  ⟨(some 44), .move (.t 9), none, 0, 0⟩,
  ⟨(some 45), .move (.t 11), none, 0, 0⟩,
  ⟨(some 46), .bin .add (.t 45) (.c (.int .i64 1)), none, 0, 2⟩,
  ⟨(some 47), .bin .add (.t 44) (.t 46), none, 0, 7⟩,
  ⟨(some 9), .move (.t 47), none, 0, 15⟩]
def f57r22 : List AOper := [
  ⟨(some 12), .move (.c (.int .i64 1)), none, 0, 0⟩]
def f57r23 : List AOper := [
  ⟨(some 48), .move (.t 12), none, 0, 0⟩,
  ⟨(some 49), .move (.t 7), none, 0, 0⟩,
  ⟨(some 50), .len 0 (.t 49), none, 0, 2⟩,
  ⟨(some 51), .bin .lss (.t 48) (.t 50), none, 0, 7⟩]
def f57q24 : List AOper := [
  ⟨(some 54), .move (.t 0), none, 0, 0⟩,
  ⟨(some 55), .move (.t 9), none, 0, 0⟩,
  ⟨(some 56), .move (.t 12), none, 0, 0⟩,
  ⟨(some 57), .bin .sub (.t 55) (.t 56), none, 0, 6⟩,
  ⟨(some 58), .strIndex (.t 54) (.t 57), none, 0, 15⟩,
  ⟨(some 59), .move (.t 7), none, 0, 0⟩,
  ⟨(some 60), .move (.t 8), none, 0, 0⟩,
  ⟨(some 61), .move (.t 12), none, 0, 0⟩,
  ⟨(some 62), .bin .sub (.t 60) (.t 61), none, 0, 192⟩,
  ⟨(some 63), .strIndex (.t 59) (.t 62), none, 0, 480⟩,
  ⟨(some 64), .bin .neq (.t 58) (.t 63), none, 0, 1023⟩]
def f57r24 : List AOper := f57q24
def f57r25 : List AOper := [
  ⟨(some 52), .move (.t 12), none, 0, 0⟩,
  ⟨(some 53), .bin .add (.t 52) (.c (.int .i64 1)), none, 0, 1⟩,
  ⟨(some 12), .move (.t 53), none, 0, 3⟩]
def f57m23 : ACode :=
  .seq (.seq (.region false f57r23 [0, 7, 8, 9, 12, 51] 0)
  (.cond (.t 51)
    (.skip)
    (.exit 3)))
  (.seq (.block 4 (.seq (.region true f57r24 [0, 7, 8, 9, 12, 64] 0)
    (.cond (.t 64)
      (.stuck)
      (.skip))))
  (.region false f57r25 [0, 7, 8, 9, 12] 0))
def f57l23 : ACode := f57m23
theorem f57l23_b {A : Tab} {nt : Nat} {e : Env} {h : Heap} : Brun A nt f57l23 e h = Brun A nt f57m23 e h := rfl
def f57r26 : List AOper := [
  ⟨(some 65), .move (.t 9), none, 0, 0⟩,
  ⟨(some 66), .move (.t 8), none, 0, 0⟩,
  ⟨(some 67), .bin .sub (.t 65) (.t 66), none, 0, 3⟩,
  ⟨(some 4), .move (.t 67), none, 0, 7⟩]
def f57r27 : List AOper := [
  ⟨(some 68), .move (.t 10), none, 0, 0⟩,
  ⟨(some 69), .bin .add (.t 68) (.c (.int .i64 1)), none, 0, 1⟩,
  ⟨(some 10), .move (.t 69), none, 0, 3⟩]
def f57r28 : List AOper := [
  ⟨(some 70), .move (.t 9), none, 0, 0⟩,
  ⟨(some 71), .bin .add (.t 70) (.c (.int .i64 1)), none, 0, 1⟩,
  ⟨(some 9), .move (.t 71), none, 0, 3⟩]
def f57r29 : List AOper := [
  ⟨(some 72), .move (.c (.bool true)), none, 0, 0⟩,
  ⟨(some 73), .move (.t 10), (some (72, true)), 0, 1⟩,
  ⟨(some 74), .move (.t 9), (some (72, true)), 0, 1⟩,
  ⟨(some 75), .call (.c (.fn 61 [] [])) [(.t 74)], (some (72, true)), 0, 5⟩,
  ⟨(some 76), .bin .gtr (.t 73) (.t 75), (some (72, true)), 0, 15⟩,
  ⟨(some 77), .pick (.t 72) (.t 76) (.c (.bool false)), none, 0, 31⟩,
  ⟨(some 78), .move (.t 77), none, 0, 63⟩,
  ⟨(some 79), .move (.t 9), (some (78, true)), 0, 127⟩,
  ⟨(some 80), .move (.t 0), (some (78, true)), 0, 127⟩,
  ⟨(some 81), .len 0 (.t 80), (some (78, true)), 0, 383⟩,
  ⟨(some 82), .bin .lss (.t 79) (.t 81), (some (78, true)), 0, 1023⟩,
  ⟨(some 83), .pick (.t 78) (.t 82) (.c (.bool false)), none, 0, 2047⟩,
  ⟨(some 84), .move (.t 83), none, 0, 4095⟩,
  ⟨(some 85), .move (.c (.bool false)), (some (84, false)), 0, 8191⟩,
  ⟨(some 86), .move (.t 10), (some (85, true)), 0, 16383⟩,
  ⟨(some 87), .move (.t 9), (some (85, true)), 0, 16383⟩,
  ⟨(some 88), .bin .shr (.t 87) (.c (.int .u64 4)), (some (85, true)), 0, 49151⟩,
  ⟨(some 89), .bin .add (.c (.int .i64 4)) (.t 88), (some (85, true)), 0, 114687⟩,
  ⟨(some 90), .bin .geq (.t 86) (.t 89), (some (85, true)), 0, 262143⟩,
  ⟨(some 91), .pick (.t 85) (.t 90) (.c (.bool false)), (some (84, false)), 0, 524287⟩,
  ⟨(some 92), .move (.t 91), (some (84, false)), 0, 1048575⟩,
  ⟨(some 93), .move (.t 9), (some (92, true)), 0, 2097151⟩,
  ⟨(some 94), .move (.t 0), (some (92, true)), 0, 2097151⟩,
  ⟨(some 95), .len 0 (.t 94), (some (92, true)), 0, 6291455⟩,
  ⟨(some 96), .bin .lss (.t 93) (.t 95), (some (92, true)), 0, 16777215⟩,
  ⟨(some 97), .pick (.t 92) (.t 96) (.c (.bool false)), (some (84, false)), 0, 33554431⟩,
  ⟨(some 98), .pick (.t 84) (.c (.bool true)) (.t 97), none, 0, 67108863⟩]
def f57m16 : ACode :=
  .seq (.seq (.region false f57r16 [0, 7, 8, 9, 26] 0)
  (.cond (.t 26)
    (.skip)
    (.exit 1)))
  (.block 2 (.seq (.seq (.region true f57r17 [0, 7, 8, 9, 33] 0)
    (.cond (.t 33)
      (.seq (.region true f57r18 [0, 7, 8, 9, 11] 0)
      (.seq (.seq (.region false f57r19 [0, 7, 8, 9, 11, 43] 0)
      (.cond (.t 43)
        (.seq (.region false f57r20 [4] 0)
        (.ret))
        (.skip)))
      (.region false f57r21 [0, 7, 8, 9] 0)))
      (.skip)))
    (.seq (.seq (.region false f57r22 [0, 7, 8, 9, 12] 0)
    (.block 3 (.loop f57l23)))
    (.seq (.seq (.region false f57r26 [4] 0)
    (.ret))
    (.seq (.skip)
    (.seq (.region false f57r27 [0, 7, 8, 9, 10] 0)
    (.seq (.region false f57r28 [0, 7, 8, 9, 10] 0)
    (.seq (.region false f57r29 [0, 7, 8, 9, 98] 0)
    (.cond (.t 98)
      (.stuck)
      (.skip))))))))))
def f57l16 : ACode := f57m16
theorem f57l16_b {A : Tab} {nt : Nat} {e : Env} {h : Heap} : Brun A nt f57l16 e h = Brun A nt f57m16 e h := rfl
def f57r30 : List AOper := [
  ⟨(some 4), .move (.c (.int .i64 (-1))), none, 0, 0⟩]
def f57r31 : List AOper := [
  ⟨(some 99), .move (.t 0), none, 0, 0⟩,
  ⟨(some 100), .move (.t 9), none, 0, 0⟩,
  ⟨(some 101), .move (.t 8), none, 0, 0⟩,
  ⟨(some 102), .bin .sub (.t 100) (.t 101), none, 0, 6⟩,
  ⟨(some 103), .strSlice (.t 99) (some (.t 102)) none, none, 0, 15⟩,
  ⟨(some 104), .move (.t 1), none, 0, 0⟩,
  ⟨(some 105), .stuck, none, 0, 32⟩,
  ⟨(some 106), .call (.c (.fn 62 [] [])) [(.t 103), (.t 105)], none, 0, 127⟩,
  ⟨(some 13), .move (.t 106), none, 0, 255⟩]
def f57r32 : List AOper := [
  ⟨(some 107), .move (.t 13), none, 0, 0⟩,
  ⟨(some 108), .bin .geq (.t 107) (.c (.int .i64 0)), none, 0, 1⟩]
def f57r33 : List AOper := [
  ⟨(some 109), .move (.t 9), none, 0, 0⟩,
  ⟨(some 110), .move (.t 13), none, 0, 0⟩,
  ⟨(some 111), .bin .add (.t 109) (.t 110), none, 0, 3⟩,
  ⟨(some 112), .move (.t 8), none, 0, 0⟩,
  ⟨(some 113), .bin .sub (.t 111) (.t 112), none, 0, 15⟩,
  ⟨(some 4), .move (.t 113), none, 0, 31⟩]
def f57r34 : List AOper := [
  ⟨(some 114), .move (.t 7), none, 0, 0⟩,
  ⟨(some 115), .move (.t 8), none, 0, 0⟩,
  ⟨(some 116), .strIndex (.t 114) (.t 115), none, 0, 3⟩,
  ⟨(some 14), .move (.t 116), none, 0, 7⟩]
def f57r35 : List AOper := [
  ⟨(some 117), .move (.t 7), none, 0, 0⟩,
  ⟨(some 118), .move (.t 8), none, 0, 0⟩,
  ⟨(some 119), .bin .sub (.t 118) (.c (.int .i64 1)), none, 0, 2⟩,
  ⟨(some 120), .strIndex (.t 117) (.t 119), none, 0, 7⟩,
  ⟨(some 15), .move (.t 120), none, 0, 15⟩]
def f57r36 : List AOper := [
  ⟨(some 121), .move (.t 9), none, 0, 0⟩,
  ⟨(some 122), .move (.t 0), none, 0, 0⟩,
  ⟨(some 123), .len 0 (.t 122), none, 0, 2⟩,
  ⟨(some 124), .bin .lss (.t 121) (.t 123), none, 0, 7⟩]
def f57r37 : List AOper := [
  ⟨(some 127), .move (.t 0), none, 0, 0⟩,
  ⟨(some 128), .move (.t 9), none, 0, 0⟩,
  ⟨(some 129), .strIndex (.t 127) (.t 128), none, 0, 3⟩,
  ⟨(some 130), .move (.t 14), none, 0, 0⟩,
  ⟨(some 131), .bin .eql (.t 129) (.t 130), none, 0, 15⟩,
  ⟨(some 132), .move (.t 131), none, 0, 31⟩,
  ⟨(some 133), .move (.t 0), (some (132, true)), 0, 63⟩,
  ⟨(some 134), .move (.t 9), (some (132, true)), 0, 63⟩,
  ⟨(some 135), .bin .sub (.t 134) (.c (.int .i64 1)), (some (132, true)), 0, 191⟩,
  ⟨(some 136), .strIndex (.t 133) (.t 135), (some (132, true)), 0, 511⟩,
  ⟨(some 137), .move (.t 15), (some (132, true)), 0, 63⟩,
  ⟨(some 138), .bin .eql (.t 136) (.t 137), (some (132, true)), 0, 2047⟩,
  ⟨(some 139), .pick (.t 132) (.t 138) (.c (.bool false)), none, 0, 4095⟩]
def f57r38 : List AOper := [
  ⟨(some 16), .move (.c (.int .i64 2)), none, 0, 0⟩]
def f57r39 : List AOper := [
  ⟨(some 140), .move (.t 16), none, 0, 0⟩,
  ⟨(some 141), .move (.t 7), none, 0, 0⟩,
  ⟨(some 142), .len 0 (.t 141), none, 0, 2⟩,
  ⟨(some 143), .bin .lss (.t 140) (.t 142), none, 0, 7⟩]
def f57q40 : List AOper := [
  ⟨(some 146), .move (.t 0), none, 0, 0⟩,
  ⟨(some 147), .move (.t 9), none, 0, 0⟩,
  ⟨(some 148), .move (.t 16), none, 0, 0⟩,
  ⟨(some 149), .bin .sub (.t 147) (.t 148), none, 0, 6⟩,
  ⟨(some 150), .strIndex (.t 146) (.t 149), none, 0, 15⟩,
  ⟨(some 151), .move (.t 7), none, 0, 0⟩,
  ⟨(some 152), .move (.t 8), none, 0, 0⟩,
  ⟨(some 153), .move (.t 16), none, 0, 0⟩,
  ⟨(some 154), .bin .sub (.t 152) (.t 153), none, 0, 192⟩,
  ⟨(some 155), .strIndex (.t 151) (.t 154), none, 0, 480⟩,
  ⟨(some 156), .bin .neq (.t 150) (.t 155), none, 0, 1023⟩]
def f57r40 : List AOper := f57q40
def f57r41 : List AOper := [
  ⟨(some 144), .move (.t 16), none, 0, 0⟩,
  ⟨(some 145), .bin .add (.t 144) (.c (.int .i64 1)), none, 0, 1⟩,
  ⟨(some 16), .move (.t 145), none, 0, 3⟩]
def f57m39 : ACode :=
  .seq (.seq (.region false f57r39 [0, 7, 8, 9, 14, 15, 16, 143] 0)
  (.cond (.t 143)
    (.skip)
    (.exit 7)))
  (.seq (.block 8 (.seq (.region true f57r40 [0, 7, 8, 9, 14, 15, 16, 156] 0)
    (.cond (.t 156)
      (.exit 6)
      (.skip))))
  (.region false f57r41 [0, 7, 8, 9, 14, 15, 16] 0))
def f57l39 : ACode := f57m39
theorem f57l39_b {A : Tab} {nt : Nat} {e : Env} {h : Heap} : Brun A nt f57l39 e h = Brun A nt f57m39 e h := rfl
def f57r42 : List AOper := [
  ⟨(some 157), .move (.t 9), none, 0, 0⟩,
  ⟨(some 158), .move (.t 8), none, 0, 0⟩,
  ⟨(some 159), .bin .sub (.t 157) (.t 158), none, 0, 3⟩,
  ⟨(some 4), .move (.t 159), none, 0, 7⟩]
def f57r43 : List AOper := [
  ⟨(some 125), .move (.t 9), none, 0, 0⟩,
  ⟨(some 126), .bin .add (.t 125) (.c (.int .i64 1)), none, 0, 1⟩,
  ⟨(some 9), .move (.t 126), none, 0, 3⟩]
def f57m36 : ACode :=
  .seq (.seq (.region false f57r36 [0, 7, 8, 9, 14, 15, 124] 0)
  (.cond (.t 124)
    (.skip)
    (.exit 5)))
  (.seq (.block 6 (.seq (.region false f57r37 [0, 7, 8, 9, 14, 15, 139] 0)
    (.cond (.t 139)
      (.seq (.seq (.region false f57r38 [0, 7, 8, 9, 14, 15, 16] 0)
      (.block 7 (.loop f57l39)))
      (.seq (.region false f57r42 [4] 0)
      (.ret)))
      (.skip))))
  (.region false f57r43 [0, 7, 8, 9, 14, 15] 0))
def f57l36 : ACode := f57m36
theorem f57l36_b {A : Tab} {nt : Nat} {e : Env} {h : Heap} : Brun A nt f57l36 e h = Brun A nt f57m36 e h := rfl
def f57r44 : List AOper := [
  ⟨(some 4), .move (.c (.int .i64 (-1))), none, 0, 0⟩]
theorem f57r17_s : staticOK 0 f57r17 = true := by rfl
theorem f57r17_w {A : Tab} {nt : Nat} {keep : List Nat} {n : Nat} {e : Env} {h : Heap} (hr : (bkeep keep (stepsF nt (stepF A true) h.length f57r17 e (h ++ List.replicate n .free))).isSome = true) : Brun A nt (.region true f57r17 keep n) e h = bkeep keep (stepsF nt (stepF A true) h.length f57r17 e (h ++ List.replicate n .free)) := Brun_drawnS f57r17_s hr
theorem f57r17_u (nt base : Nat) (step : Nat → AOp → Env → Heap → Option (AV × Heap)) (e : Env) (h : Heap) : stepsF nt step base f57r17 e h = stepsF nt step base f57q17 e h := rfl
theorem f57r18_s : staticOK 0 f57r18 = true := by rfl
theorem f57r18_w {A : Tab} {nt : Nat} {keep : List Nat} {n : Nat} {e : Env} {h : Heap} (hr : (bkeep keep (stepsF nt (stepF A true) h.length f57r18 e (h ++ List.replicate n .free))).isSome = true) : Brun A nt (.region true f57r18 keep n) e h = bkeep keep (stepsF nt (stepF A true) h.length f57r18 e (h ++ List.replicate n .free)) := Brun_drawnS f57r18_s hr
theorem f57r18_u (nt base : Nat) (step : Nat → AOp → Env → Heap → Option (AV × Heap)) (e : Env) (h : Heap) : stepsF nt step base f57r18 e h = stepsF nt step base f57q18 e h := rfl
theorem f57r24_s : staticOK 0 f57r24 = true := by rfl
theorem f57r24_w {A : Tab} {nt : Nat} {keep : List Nat} {n : Nat} {e : Env} {h : Heap} (hr : (bkeep keep (stepsF nt (stepF A true) h.length f57r24 e (h ++ List.replicate n .free))).isSome = true) : Brun A nt (.region true f57r24 keep n) e h = bkeep keep (stepsF nt (stepF A true) h.length f57r24 e (h ++ List.replicate n .free)) := Brun_drawnS f57r24_s hr
theorem f57r24_u (nt base : Nat) (step : Nat → AOp → Env → Heap → Option (AV × Heap)) (e : Env) (h : Heap) : stepsF nt step base f57r24 e h = stepsF nt step base f57q24 e h := rfl
theorem f57r40_s : staticOK 0 f57r40 = true := by rfl
theorem f57r40_w {A : Tab} {nt : Nat} {keep : List Nat} {n : Nat} {e : Env} {h : Heap} (hr : (bkeep keep (stepsF nt (stepF A true) h.length f57r40 e (h ++ List.replicate n .free))).isSome = true) : Brun A nt (.region true f57r40 keep n) e h = bkeep keep (stepsF nt (stepF A true) h.length f57r40 e (h ++ List.replicate n .free)) := Brun_drawnS f57r40_s hr
theorem f57r40_u (nt base : Nat) (step : Nat → AOp → Env → Heap → Option (AV × Heap)) (e : Env) (h : Heap) : stepsF nt step base f57r40 e h = stepsF nt step base f57q40 e h := rfl
def f57c : ACode :=
  .seq (.region false f57r0 [0, 1] 0)
  (.block 0 (.seq (.region false f57r1 [0, 1, 160] 0)
    (.cond (.t 160)
      (.seq (.region false f57r2 [4] 0)
      (.ret))
      (.seq (.region false f57r3 [0, 1, 171] 0)
      (.cond (.t 171)
        (.seq (.seq (.region false f57r4 [] 0)
        (.block 9 (.loop f57l5)))
        (.seq (.region false f57r9 [4] 0)
        (.ret)))
        (.seq (.region false f57r10 [0, 1, 183] 0)
        (.cond (.t 183)
          (.seq (.region false f57r11 [4] 0)
          (.ret))
          (.seq (.region false f57r12 [0, 7] 0)
          (.seq (.region false f57r13 [0, 7, 8] 0)
          (.seq (.region false f57r14 [0, 7, 8, 9] 0)
          (.seq (.region false f57r15 [0, 7, 8, 9] 0)
          (.seq (.block 1 (.loop f57l16))
          (.seq (.seq (.region false f57r30 [4] 0)
          (.ret))
          (.seq (.skip)
          (.seq (.cond (.c (.bool true))
            (.seq (.region false f57r31 [8, 9, 13] 0)
            (.seq (.region false f57r32 [8, 9, 13, 108] 0)
            (.cond (.t 108)
              (.seq (.region false f57r33 [4] 0)
              (.ret))
              (.skip))))
            (.seq (.region false f57r34 [0, 7, 8, 9, 14] 0)
            (.seq (.region false f57r35 [0, 7, 8, 9, 14, 15] 0)
            (.seq (.skip)
            (.block 5 (.loop f57l36))))))
          (.seq (.region false f57r44 [4] 0)
          (.ret)))))))))))))))))
def f57 : AFn := ⟨2, 187, [.tmp 4], f57c, 1, none⟩
def f57k : List (Nat × List Nat) := [(0, [0, 1]), (34, [0, 1, 160]), (36, [0, 1, 171]), (43, [0, 1, 183]), (1, [0, 7]), (2, [0, 7, 8]), (3, [0, 7, 8, 9]), (4, [0, 7, 8, 9]), (5, [0, 7, 8, 9, 26]), (6, [0, 7, 8, 9, 33]), (7, [0, 7, 8, 9, 11]), (8, [0, 7, 8, 9, 11, 43]), (9, [4]), (10, [0, 7, 8, 9]), (11, [0, 7, 8, 9, 12]), (12, [0, 7, 8, 9, 12, 51]), (14, [0, 7, 8, 9, 12, 64]), (13, [0, 7, 8, 9, 12]), (15, [4]), (16, [0, 7, 8, 9, 10]), (17, [0, 7, 8, 9, 10]), (18, [0, 7, 8, 9, 98]), (19, [4]), (23, [0, 7, 8, 9, 14]), (24, [0, 7, 8, 9, 14, 15]), (25, [0, 7, 8, 9, 14, 15, 124]), (27, [0, 7, 8, 9, 14, 15, 139]), (28, [0, 7, 8, 9, 14, 15, 16]), (29, [0, 7, 8, 9, 14, 15, 16, 143]), (31, [0, 7, 8, 9, 14, 15, 16, 156]), (30, [0, 7, 8, 9, 14, 15, 16]), (32, [4]), (26, [0, 7, 8, 9, 14, 15]), (20, [8, 9, 13]), (21, [8, 9, 13, 108]), (22, [4]), (33, [4]), (44, [4]), (37, []), (38, [176, 177]), (39, [5, 6]), (40, [5, 181]), (41, [4]), (42, [4]), (35, [4])]
def f57v : List Nat := [105, 18, 169]

end Go.Proofs.YtjggeonachlebaaDoor
