/- The seat's functions as the machine's, part 1. Printed by a program. -/
import Derived.Test.YtmpdpjkblcdfkaaGreatDoorFns0
namespace Go.Proofs.YtmpdpjkblcdfkaaGreatDoor
open Go.AM
set_option maxRecDepth 100000
/-! 62: mortise/token.value, parameters [9], results [3, 4, 4] -/
def f62r0 : List AOper := [
  ⟨(some 2), .move (.c (.int .i64 0)), none, 0, 0⟩,
  ⟨(some 3), .move (.c (.bool false)), none, 0, 1⟩,
  ⟨(some 4), .move (.c (.bool false)), none, 0, 3⟩]
def f62r1 : List AOper := [
  ⟨(some 5), .move (.c (.int .i64 10)), none, 0, 0⟩,
  ⟨(some 6), .move (.c (.bool true)), none, 0, 1⟩]
def f62r2 : List AOper := [
  ⟨(some 12), .move (.t 0), none, 0, 0⟩,
  ⟨(some 13), .len 0 (.t 12), none, 0, 1⟩,
  ⟨(some 14), .bin .gtr (.t 13) (.c (.int .i64 1)), none, 0, 3⟩,
  ⟨(some 15), .move (.t 14), none, 0, 7⟩,
  ⟨(some 16), .move (.t 0), (some (15, true)), 0, 15⟩,
  ⟨(some 17), .strIndex (.t 16) (.c (.int .i64 0)), (some (15, true)), 0, 31⟩,
  ⟨(some 18), .bin .eql (.t 17) (.c (.int .u8 48)), (some (15, true)), 0, 63⟩,
  ⟨(some 19), .pick (.t 15) (.t 18) (.c (.bool false)), none, 0, 127⟩,
  ⟨(some 20), .move (.t 19), none, 0, 255⟩,
  ⟨(some 21), .move (.t 0), (some (20, true)), 0, 511⟩,
  ⟨(some 22), .strIndex (.t 21) (.c (.int .i64 1)), (some (20, true)), 0, 1023⟩,
  ⟨(some 23), .bin .or (.t 22) (.c (.int .u8 32)), (some (20, true)), 0, 2047⟩,
  ⟨(some 24), .bin .eql (.t 23) (.c (.int .u8 120)), (some (20, true)), 0, 4095⟩,
  ⟨(some 25), .pick (.t 20) (.t 24) (.c (.bool false)), none, 0, 8191⟩,
  ⟨(some 11), .move (.t 25), none, 0, 16383⟩]
def f62r3 : List AOper := [
  ⟨(some 26), .move (.t 0), none, 0, 0⟩,
  ⟨(some 27), .strSlice (.t 26) (some (.c (.int .i64 2))) none, none, 0, 1⟩,
  ⟨(some 0), .move (.t 27), none, 0, 3⟩,
  ⟨(some 5), .move (.c (.int .i64 16)), none, 0, 7⟩,
  ⟨(some 6), .move (.c (.bool false)), none, 0, 15⟩]
def f62r4 : List AOper := [
  ⟨(some 29), .move (.t 0), none, 0, 0⟩,
  ⟨(some 30), .bin .neq (.t 29) (.c (.str [])), none, 0, 1⟩,
  ⟨(some 31), .move (.t 30), none, 0, 3⟩,
  ⟨(some 32), .move (.t 0), (some (31, true)), 0, 7⟩,
  ⟨(some 33), .strIndex (.t 32) (.c (.int .i64 0)), (some (31, true)), 0, 15⟩,
  ⟨(some 34), .bin .eql (.t 33) (.c (.int .u8 48)), (some (31, true)), 0, 31⟩,
  ⟨(some 35), .pick (.t 31) (.t 34) (.c (.bool false)), none, 0, 63⟩,
  ⟨(some 28), .move (.t 35), none, 0, 127⟩]
def f62r5 : List AOper := [
  ⟨(some 5), .move (.c (.int .i64 8)), none, 0, 0⟩,
  ⟨(some 6), .move (.c (.bool false)), none, 0, 1⟩]
def f62r6 : List AOper := [
  ⟨(some 36), .move (.t 0), none, 0, 0⟩,
  ⟨(some 37), .bin .eql (.t 36) (.c (.str [])), none, 0, 1⟩]
def f62r7 : List AOper := [
  ⟨(some 2), .move (.c (.int .i64 0)), none, 0, 0⟩,
  ⟨(some 3), .move (.c (.bool false)), none, 0, 1⟩,
  ⟨(some 4), .move (.c (.bool false)), none, 0, 3⟩]
def f62r8 : List AOper := [
  ⟨(some 7), .move (.c (.int .i64 0)), none, 0, 0⟩]
def f62r9 : List AOper := [
  ⟨(some 38), .move (.t 0), none, 0, 0⟩,
  ⟨(some 39), .len 0 (.t 38), none, 0, 1⟩,
  ⟨(some 40), .move (.c (.int .i64 0)), none, 0, 0⟩]
def f62r10 : List AOper := [
  ⟨(some 41), .bin .lss (.t 40) (.t 39), none, 0, 0⟩]
def f62r11 : List AOper := [
  ⟨(some 42), .move (.t 40), none, 0, 0⟩,
  ⟨(some 8), .move (.t 42), none, 0, 1⟩]
def f62r12 : List AOper := [
  ⟨(some 44), .move (.t 0), none, 0, 0⟩,
  ⟨(some 45), .move (.t 8), none, 0, 0⟩,
  ⟨(some 46), .strIndex (.t 44) (.t 45), none, 0, 3⟩,
  ⟨(some 47), .call (.c (.fn 61 [] [])) [(.t 46)], none, 0, 7⟩,
  ⟨(some 43), .move (.t 47), none, 0, 15⟩,
  ⟨(some 48), .extract (.t 43) 0, none, 0, 31⟩,
  ⟨(some 49), .extract (.t 43) 1, none, 0, 31⟩,
  ⟨(some 9), .move (.t 48), none, 0, 63⟩,
  ⟨(some 10), .move (.t 49), none, 0, 255⟩]
def f62r13 : List AOper := [
  ⟨(some 50), .move (.t 10), none, 0, 0⟩,
  ⟨(some 51), .un .not (.t 50), none, 0, 1⟩,
  ⟨(some 52), .move (.t 51), none, 0, 3⟩,
  ⟨(some 53), .move (.t 9), (some (52, false)), 0, 7⟩,
  ⟨(some 54), .move (.t 5), (some (52, false)), 0, 7⟩,
  ⟨(some 55), .bin .geq (.t 53) (.t 54), (some (52, false)), 0, 31⟩,
  ⟨(some 56), .pick (.t 52) (.c (.bool true)) (.t 55), none, 0, 63⟩]
def f62r14 : List AOper := [
  ⟨(some 2), .move (.c (.int .i64 0)), none, 0, 0⟩,
  ⟨(some 3), .move (.c (.bool false)), none, 0, 1⟩,
  ⟨(some 4), .move (.c (.bool false)), none, 0, 3⟩]
def f62r15 : List AOper := [
  ⟨(some 57), .move (.t 7), none, 0, 0⟩,
  ⟨(some 58), .move (.t 5), none, 0, 0⟩,
  ⟨(some 59), .bin .mul (.t 57) (.t 58), none, 0, 3⟩,
  ⟨(some 60), .move (.t 9), none, 0, 0⟩,
  ⟨(some 61), .bin .add (.t 59) (.t 60), none, 0, 15⟩,
  ⟨(some 62), .min (.c (.int .i64 8589934592)) (.t 61), none, 0, 31⟩,
  ⟨(some 7), .move (.t 62), none, 0, 63⟩]
def f62r16 : List AOper := [
  ⟨(some 63), .bin .add (.t 40) (.c (.int .i64 1)), none, 0, 0⟩,
  ⟨(some 40), .move (.t 63), none, 0, 1⟩]
def f62m10 : ACode :=
  .seq (.region false f62r10 [0, 5, 6, 7, 39, 40, 41] 0)
  (.seq (.cond (.t 41)
    (.skip)
    (.exit 1))
  (.seq (.block 2 (.seq (.region false f62r11 [0, 5, 6, 7, 8, 39, 40] 0)
    (.seq (.region false f62r12 [0, 5, 6, 7, 9, 10, 39, 40] 0)
    (.seq (.seq (.region false f62r13 [0, 5, 6, 7, 9, 39, 40, 56] 0)
    (.cond (.t 56)
      (.seq (.region false f62r14 [2, 3, 4] 0)
      (.ret))
      (.skip)))
    (.region false f62r15 [0, 5, 6, 7, 39, 40] 0)))))
  (.region false f62r16 [0, 5, 6, 7, 39, 40] 0)))
def f62l10 : ACode := f62m10
theorem f62l10_b {A : Tab} {nt : Nat} {e : Env} {h : Heap} : Brun A nt f62l10 e h = Brun A nt f62m10 e h := rfl
def f62r17 : List AOper := [
  ⟨(some 64), .move (.t 7), none, 0, 0⟩,
  ⟨(some 65), .move (.t 6), none, 0, 0⟩,
  ⟨(some 2), .move (.t 64), none, 0, 1⟩,
  ⟨(some 3), .move (.t 65), none, 0, 7⟩,
  ⟨(some 4), .move (.c (.bool true)), none, 0, 15⟩]
def f62c : ACode :=
  .seq (.region false f62r0 [0] 0)
  (.seq (.region false f62r1 [0, 5, 6] 0)
  (.seq (.block 0 (.seq (.region false f62r2 [0, 5, 6, 11] 0)
    (.cond (.t 11)
      (.region false f62r3 [0, 5, 6] 0)
      (.seq (.region false f62r4 [0, 5, 6, 28] 0)
      (.cond (.t 28)
        (.region false f62r5 [0, 5, 6] 0)
        (.skip))))))
  (.seq (.seq (.region false f62r6 [0, 5, 6, 37] 0)
  (.cond (.t 37)
    (.seq (.region false f62r7 [2, 3, 4] 0)
    (.ret))
    (.skip)))
  (.seq (.region false f62r8 [0, 5, 6, 7] 0)
  (.seq (.seq (.region false f62r9 [0, 5, 6, 7, 39, 40] 0)
  (.block 1 (.loop f62l10)))
  (.seq (.region false f62r17 [2, 3, 4] 0)
  (.ret)))))))
def f62 : AFn := ⟨1, 66, [.tmp 2, .tmp 3, .tmp 4], f62c, 1, none⟩
def f62k : List (Nat × List Nat) := [(0, [0]), (1, [0, 5, 6]), (2, [0, 5, 6, 11]), (4, [0, 5, 6, 28]), (5, [0, 5, 6]), (3, [0, 5, 6]), (6, [0, 5, 6, 37]), (7, [2, 3, 4]), (8, [0, 5, 6, 7]), (9, [0, 5, 6, 7, 39, 40]), (10, [0, 5, 6, 7, 39, 40, 41]), (11, [0, 5, 6, 7, 8, 39, 40]), (12, [0, 5, 6, 7, 9, 10, 39, 40]), (13, [0, 5, 6, 7, 9, 39, 40, 56]), (14, [2, 3, 4]), (15, [0, 5, 6, 7, 39, 40]), (16, [0, 5, 6, 7, 39, 40]), (17, [2, 3, 4])]
def f62v : List Nat := []

/-! 63: mortise/token.escaped, parameters [9], results [5, 3, 4] -/
def f63r0 : List AOper := [
  ⟨(some 2), .move (.c (.int .u8 0)), none, 0, 0⟩,
  ⟨(some 3), .move (.c (.int .i64 0)), none, 0, 1⟩,
  ⟨(some 4), .move (.c (.bool false)), none, 0, 3⟩]
def f63r1 : List AOper := [
  ⟨(some 14), .move (.t 0), none, 0, 0⟩,
  ⟨(some 15), .bin .eql (.t 14) (.c (.str [])), none, 0, 1⟩]
def f63r2 : List AOper := [
  ⟨(some 2), .move (.c (.int .u8 0)), none, 0, 0⟩,
  ⟨(some 3), .move (.c (.int .i64 0)), none, 0, 1⟩,
  ⟨(some 4), .move (.c (.bool false)), none, 0, 3⟩]
def f63r3 : List AOper := [
  ⟨(some 16), .move (.t 0), none, 0, 0⟩,
  ⟨(some 17), .strIndex (.t 16) (.c (.int .i64 0)), none, 0, 1⟩,
  ⟨(some 18), .call (.c (.fn 29 [] [])) [(.c (.str [97, 98, 102, 110, 114, 116, 118, 92, 39, 34, 63])), (.t 17)], none, 0, 3⟩,
  ⟨(some 5), .move (.t 18), none, 0, 7⟩]
def f63r4 : List AOper := [
  ⟨(some 19), .move (.t 5), none, 0, 0⟩,
  ⟨(some 20), .bin .geq (.t 19) (.c (.int .i64 0)), none, 0, 1⟩]
def f63r5 : List AOper := [
  ⟨(some 21), .move (.t 5), none, 0, 0⟩,
  ⟨(some 22), .strIndex (.c (.str [7, 8, 12, 10, 13, 9, 11, 92, 39, 34, 63])) (.t 21), none, 0, 1⟩,
  ⟨(some 2), .move (.t 22), none, 0, 3⟩,
  ⟨(some 3), .move (.c (.int .i64 1)), none, 0, 7⟩,
  ⟨(some 4), .move (.c (.bool true)), none, 0, 15⟩]
def f63r6 : List AOper := [
  ⟨(some 23), .move (.t 0), none, 0, 0⟩,
  ⟨(some 24), .strIndex (.t 23) (.c (.int .i64 0)), none, 0, 1⟩,
  ⟨(some 25), .bin .eql (.t 24) (.c (.int .u8 120)), none, 0, 3⟩]
def f63r7 : List AOper := [
  ⟨(some 26), .move (.t 0), none, 0, 0⟩,
  ⟨(some 27), .strSlice (.t 26) (some (.c (.int .i64 1))) none, none, 0, 1⟩,
  ⟨(some 28), .call (.c (.fn 32 [] [])) [(.t 27), (.c (.fn 83 [] []))], none, 0, 3⟩,
  ⟨(some 6), .move (.t 28), none, 0, 7⟩]
def f63r8 : List AOper := [
  ⟨(some 7), .move (.c (.int .i64 0)), none, 0, 0⟩]
def f63r9 : List AOper := [
  ⟨(some 29), .move (.t 6), none, 0, 0⟩,
  ⟨(some 30), .move (.c (.int .i64 0)), none, 0, 0⟩]
def f63r10 : List AOper := [
  ⟨(some 31), .bin .lss (.t 30) (.t 29), none, 0, 0⟩]
def f63r11 : List AOper := [
  ⟨(some 32), .move (.t 30), none, 0, 0⟩,
  ⟨(some 8), .move (.t 32), none, 0, 1⟩]
def f63r12 : List AOper := [
  ⟨(some 34), .move (.t 0), none, 0, 0⟩,
  ⟨(some 35), .move (.t 8), none, 0, 0⟩,
  ⟨(some 36), .bin .add (.c (.int .i64 1)) (.t 35), none, 0, 2⟩,
  ⟨(some 37), .strIndex (.t 34) (.t 36), none, 0, 7⟩,
  ⟨(some 38), .call (.c (.fn 61 [] [])) [(.t 37)], none, 0, 15⟩,
  ⟨(some 33), .move (.t 38), none, 0, 31⟩,
  ⟨(some 39), .extract (.t 33) 0, none, 0, 63⟩,
  ⟨(some 40), .extract (.t 33) 1, none, 0, 63⟩,
  ⟨(some 9), .move (.t 39), none, 0, 127⟩,
  ⟨(some 10), .move (.t 40), none, 0, 511⟩]
def f63r13 : List AOper := [
  ⟨(some 41), .move (.t 7), none, 0, 0⟩,
  ⟨(some 42), .bin .mul (.c (.int .i64 16)) (.t 41), none, 0, 1⟩,
  ⟨(some 43), .move (.t 9), none, 0, 0⟩,
  ⟨(some 44), .bin .add (.t 42) (.t 43), none, 0, 7⟩,
  ⟨(some 45), .min (.c (.int .i64 1048576)) (.t 44), none, 0, 15⟩,
  ⟨(some 7), .move (.t 45), none, 0, 31⟩]
def f63r14 : List AOper := [
  ⟨(some 46), .bin .add (.t 30) (.c (.int .i64 1)), none, 0, 0⟩,
  ⟨(some 30), .move (.t 46), none, 0, 1⟩]
def f63m10 : ACode :=
  .seq (.region false f63r10 [0, 6, 7, 29, 30, 31] 0)
  (.seq (.cond (.t 31)
    (.skip)
    (.exit 0))
  (.seq (.block 1 (.seq (.region false f63r11 [0, 6, 7, 8, 29, 30] 0)
    (.seq (.region false f63r12 [0, 6, 7, 9, 29, 30] 0)
    (.region false f63r13 [0, 6, 7, 29, 30] 0))))
  (.region false f63r14 [0, 6, 7, 29, 30] 0)))
def f63l10 : ACode := f63m10
theorem f63l10_b {A : Tab} {nt : Nat} {e : Env} {h : Heap} : Brun A nt f63l10 e h = Brun A nt f63m10 e h := rfl
def f63r15 : List AOper := [
  ⟨(some 47), .move (.t 7), none, 0, 0⟩,
  ⟨(some 48), .conv .u8 (.t 47), none, 0, 1⟩,
  ⟨(some 49), .move (.t 6), none, 0, 0⟩,
  ⟨(some 50), .bin .add (.t 49) (.c (.int .i64 1)), none, 0, 4⟩,
  ⟨(some 51), .move (.t 6), none, 0, 0⟩,
  ⟨(some 52), .bin .gtr (.t 51) (.c (.int .i64 0)), none, 0, 16⟩,
  ⟨(some 53), .move (.t 52), none, 0, 48⟩,
  ⟨(some 54), .move (.t 7), (some (53, true)), 0, 112⟩,
  ⟨(some 55), .bin .leq (.t 54) (.c (.int .i64 255)), (some (53, true)), 0, 240⟩,
  ⟨(some 56), .pick (.t 53) (.t 55) (.c (.bool false)), none, 0, 496⟩,
  ⟨(some 2), .move (.t 48), none, 0, 115⟩,
  ⟨(some 3), .move (.t 50), none, 0, 1151⟩,
  ⟨(some 4), .move (.t 56), none, 0, 4095⟩]
def f63r16 : List AOper := [
  ⟨(some 57), .move (.t 0), none, 0, 0⟩,
  ⟨(some 58), .call (.c (.fn 32 [] [])) [(.t 57), (.c (.fn 84 [] []))], none, 0, 1⟩,
  ⟨(some 59), .min (.c (.int .i64 3)) (.t 58), none, 0, 3⟩,
  ⟨(some 11), .move (.t 59), none, 0, 7⟩]
def f63r17 : List AOper := [
  ⟨(some 12), .move (.c (.int .i64 0)), none, 0, 0⟩]
def f63r18 : List AOper := [
  ⟨(some 60), .move (.t 11), none, 0, 0⟩,
  ⟨(some 61), .move (.c (.int .i64 0)), none, 0, 0⟩]
def f63r19 : List AOper := [
  ⟨(some 62), .bin .lss (.t 61) (.t 60), none, 0, 0⟩]
def f63r20 : List AOper := [
  ⟨(some 63), .move (.t 61), none, 0, 0⟩,
  ⟨(some 13), .move (.t 63), none, 0, 1⟩]
def f63r21 : List AOper := [
  ⟨(some 64), .move (.t 12), none, 0, 0⟩,
  ⟨(some 65), .bin .mul (.c (.int .i64 8)) (.t 64), none, 0, 1⟩,
  ⟨(some 66), .move (.t 0), none, 0, 0⟩,
  ⟨(some 67), .move (.t 13), none, 0, 0⟩,
  ⟨(some 68), .strIndex (.t 66) (.t 67), none, 0, 12⟩,
  ⟨(some 69), .bin .sub (.t 68) (.c (.int .u8 48)), none, 0, 28⟩,
  ⟨(some 70), .conv .i64 (.t 69), none, 0, 60⟩,
  ⟨(some 71), .bin .add (.t 65) (.t 70), none, 0, 127⟩,
  ⟨(some 12), .move (.t 71), none, 0, 255⟩]
def f63r22 : List AOper := [
  ⟨(some 72), .bin .add (.t 61) (.c (.int .i64 1)), none, 0, 0⟩,
  ⟨(some 61), .move (.t 72), none, 0, 1⟩]
def f63m19 : ACode :=
  .seq (.region false f63r19 [0, 11, 12, 60, 61, 62] 0)
  (.seq (.cond (.t 62)
    (.skip)
    (.exit 2))
  (.seq (.block 3 (.seq (.region false f63r20 [0, 11, 12, 13, 60, 61] 0)
    (.region false f63r21 [0, 11, 12, 60, 61] 0)))
  (.region false f63r22 [0, 11, 12, 60, 61] 0)))
def f63l19 : ACode := f63m19
theorem f63l19_b {A : Tab} {nt : Nat} {e : Env} {h : Heap} : Brun A nt f63l19 e h = Brun A nt f63m19 e h := rfl
def f63r23 : List AOper := [
  ⟨(some 73), .move (.t 12), none, 0, 0⟩,
  ⟨(some 74), .conv .u8 (.t 73), none, 0, 1⟩,
  ⟨(some 75), .move (.t 11), none, 0, 0⟩,
  ⟨(some 76), .move (.t 11), none, 0, 0⟩,
  ⟨(some 77), .bin .gtr (.t 76) (.c (.int .i64 0)), none, 0, 8⟩,
  ⟨(some 78), .move (.t 77), none, 0, 24⟩,
  ⟨(some 79), .move (.t 12), (some (78, true)), 0, 56⟩,
  ⟨(some 80), .bin .leq (.t 79) (.c (.int .i64 255)), (some (78, true)), 0, 120⟩,
  ⟨(some 81), .pick (.t 78) (.t 80) (.c (.bool false)), none, 0, 248⟩,
  ⟨(some 2), .move (.t 74), none, 0, 59⟩,
  ⟨(some 3), .move (.t 75), none, 0, 575⟩,
  ⟨(some 4), .move (.t 81), none, 0, 2047⟩]
def f63c : ACode :=
  .seq (.region false f63r0 [0] 0)
  (.seq (.seq (.region false f63r1 [0, 15] 0)
  (.cond (.t 15)
    (.seq (.region false f63r2 [2, 3, 4] 0)
    (.ret))
    (.skip)))
  (.seq (.seq (.region false f63r3 [0, 5] 0)
  (.seq (.region false f63r4 [0, 5, 20] 0)
  (.cond (.t 20)
    (.seq (.region false f63r5 [2, 3, 4] 0)
    (.ret))
    (.skip))))
  (.seq (.seq (.region false f63r6 [0, 25] 0)
  (.cond (.t 25)
    (.seq (.region false f63r7 [0, 6] 0)
    (.seq (.region false f63r8 [0, 6, 7] 0)
    (.seq (.seq (.region false f63r9 [0, 6, 7, 29, 30] 0)
    (.block 0 (.loop f63l10)))
    (.seq (.region false f63r15 [2, 3, 4] 0)
    (.ret)))))
    (.skip)))
  (.seq (.region false f63r16 [0, 11] 0)
  (.seq (.region false f63r17 [0, 11, 12] 0)
  (.seq (.seq (.region false f63r18 [0, 11, 12, 60, 61] 0)
  (.block 2 (.loop f63l19)))
  (.seq (.region false f63r23 [2, 3, 4] 0)
  (.ret))))))))
def f63 : AFn := ⟨1, 82, [.tmp 2, .tmp 3, .tmp 4], f63c, 1, none⟩
def f63k : List (Nat × List Nat) := [(0, [0]), (1, [0, 15]), (2, [2, 3, 4]), (3, [0, 5]), (4, [0, 5, 20]), (5, [2, 3, 4]), (6, [0, 25]), (7, [0, 6]), (8, [0, 6, 7]), (9, [0, 6, 7, 29, 30]), (10, [0, 6, 7, 29, 30, 31]), (11, [0, 6, 7, 8, 29, 30]), (12, [0, 6, 7, 9, 29, 30]), (13, [0, 6, 7, 29, 30]), (14, [0, 6, 7, 29, 30]), (15, [2, 3, 4]), (16, [0, 11]), (17, [0, 11, 12]), (18, [0, 11, 12, 60, 61]), (19, [0, 11, 12, 60, 61, 62]), (20, [0, 11, 12, 13, 60, 61]), (21, [0, 11, 12, 60, 61]), (22, [0, 11, 12, 60, 61]), (23, [2, 3, 4])]
def f63v : List Nat := [74, 70, 48]

/-! 64: mortise/mortiseref02.value, parameters [5], results [3] -/
def f64r0 : List AOper := [
  ⟨(some 2), .move (.c (.int .i64 0)), none, 0, 0⟩]
def f64r1 : List AOper := [
  ⟨(some 4), .move (.t 0), none, 0, 0⟩,
  ⟨(some 5), .bin .geq (.t 4) (.c (.int .u8 48)), none, 0, 1⟩,
  ⟨(some 6), .move (.t 5), none, 0, 3⟩,
  ⟨(some 7), .move (.t 0), (some (6, true)), 0, 7⟩,
  ⟨(some 8), .bin .leq (.t 7) (.c (.int .u8 57)), (some (6, true)), 0, 15⟩,
  ⟨(some 9), .pick (.t 6) (.t 8) (.c (.bool false)), none, 0, 31⟩,
  ⟨(some 3), .move (.t 9), none, 0, 63⟩]
def f64r2 : List AOper := [
  ⟨(some 10), .move (.t 0), none, 0, 0⟩,
  ⟨(some 11), .bin .sub (.t 10) (.c (.int .u8 48)), none, 0, 1⟩,
  ⟨(some 12), .conv .i64 (.t 11), none, 0, 3⟩,
  ⟨(some 2), .move (.t 12), none, 0, 7⟩]
def f64r3 : List AOper := [
  ⟨(some 14), .move (.t 0), none, 0, 0⟩,
  ⟨(some 15), .bin .geq (.t 14) (.c (.int .u8 97)), none, 0, 1⟩,
  ⟨(some 16), .move (.t 15), none, 0, 3⟩,
  ⟨(some 17), .move (.t 0), (some (16, true)), 0, 7⟩,
  ⟨(some 18), .bin .leq (.t 17) (.c (.int .u8 102)), (some (16, true)), 0, 15⟩,
  ⟨(some 19), .pick (.t 16) (.t 18) (.c (.bool false)), none, 0, 31⟩,
  ⟨(some 13), .move (.t 19), none, 0, 63⟩]
def f64r4 : List AOper := [
  ⟨(some 20), .move (.t 0), none, 0, 0⟩,
  ⟨(some 21), .bin .sub (.t 20) (.c (.int .u8 97)), none, 0, 1⟩,
  ⟨(some 22), .conv .i64 (.t 21), none, 0, 3⟩,
  ⟨(some 23), .bin .add (.t 22) (.c (.int .i64 10)), none, 0, 7⟩,
  ⟨(some 2), .move (.t 23), none, 0, 15⟩]
def f64r5 : List AOper := [
  ⟨(some 25), .move (.t 0), none, 0, 0⟩,
  ⟨(some 26), .bin .geq (.t 25) (.c (.int .u8 65)), none, 0, 1⟩,
  ⟨(some 27), .move (.t 26), none, 0, 3⟩,
  ⟨(some 28), .move (.t 0), (some (27, true)), 0, 7⟩,
  ⟨(some 29), .bin .leq (.t 28) (.c (.int .u8 70)), (some (27, true)), 0, 15⟩,
  ⟨(some 30), .pick (.t 27) (.t 29) (.c (.bool false)), none, 0, 31⟩,
  ⟨(some 24), .move (.t 30), none, 0, 63⟩]
def f64r6 : List AOper := [
  ⟨(some 31), .move (.t 0), none, 0, 0⟩,
  ⟨(some 32), .bin .sub (.t 31) (.c (.int .u8 65)), none, 0, 1⟩,
  ⟨(some 33), .conv .i64 (.t 32), none, 0, 3⟩,
  ⟨(some 34), .bin .add (.t 33) (.c (.int .i64 10)), none, 0, 7⟩,
  ⟨(some 2), .move (.t 34), none, 0, 15⟩]
def f64r7 : List AOper := [
  ⟨(some 2), .move (.c (.int .i64 99)), none, 0, 0⟩]
def f64c : ACode :=
  .seq (.region false f64r0 [0] 0)
  (.seq (.block 0 (.seq (.region false f64r1 [0, 3] 0)
    (.cond (.t 3)
      (.seq (.region false f64r2 [2] 0)
      (.ret))
      (.seq (.region false f64r3 [0, 13] 0)
      (.cond (.t 13)
        (.seq (.region false f64r4 [2] 0)
        (.ret))
        (.seq (.region false f64r5 [0, 24] 0)
        (.cond (.t 24)
          (.seq (.region false f64r6 [2] 0)
          (.ret))
          (.skip))))))))
  (.seq (.region false f64r7 [2] 0)
  (.ret)))
def f64 : AFn := ⟨1, 35, [.tmp 2], f64c, 1, none⟩
def f64k : List (Nat × List Nat) := [(0, [0]), (1, [0, 3]), (3, [0, 13]), (5, [0, 24]), (6, [2]), (4, [2]), (2, [2]), (7, [2])]
def f64v : List Nat := [33, 22, 12]

/-! 65: mortise/mortiseref02.Type, parameters [4, 4], results [9] -/
def f65r0 : List AOper := [
  ⟨(some 4), .move (.c (.str [])), none, 0, 0⟩]
def f65r1 : List AOper := [
  ⟨(some 5), .move (.c (.str [105, 110, 116])), none, 0, 0⟩]
def f65r2 : List AOper := [
  ⟨(some 6), .move (.t 1), none, 0, 0⟩]
def f65r3 : List AOper := [
  ⟨(some 5), .move (.c (.str [108, 111, 110, 103])), none, 0, 0⟩]
def f65r4 : List AOper := [
  ⟨(some 7), .move (.t 0), none, 0, 0⟩]
def f65r5 : List AOper := [
  ⟨(some 8), .move (.t 5), none, 0, 0⟩,
  ⟨(some 9), .bin .add (.c (.str [117, 110, 115, 105, 103, 110, 101, 100, 32])) (.t 8), none, 0, 1⟩,
  ⟨(some 5), .move (.t 9), none, 0, 3⟩]
def f65r6 : List AOper := [
  ⟨(some 10), .move (.t 5), none, 0, 0⟩,
  ⟨(some 4), .move (.t 10), none, 0, 1⟩]
def f65c : ACode :=
  .seq (.region false f65r0 [0, 1] 0)
  (.seq (.region false f65r1 [0, 1, 5] 0)
  (.seq (.seq (.region false f65r2 [0, 5, 6] 0)
  (.cond (.t 6)
    (.region false f65r3 [0, 5] 0)
    (.skip)))
  (.seq (.seq (.region false f65r4 [5, 7] 0)
  (.cond (.t 7)
    (.region false f65r5 [5] 0)
    (.skip)))
  (.seq (.region false f65r6 [4] 0)
  (.ret)))))
def f65 : AFn := ⟨2, 11, [.tmp 4], f65c, 1, none⟩
def f65k : List (Nat × List Nat) := [(0, [0, 1]), (1, [0, 1, 5]), (2, [0, 5, 6]), (3, [0, 5]), (4, [5, 7]), (5, [5]), (6, [4])]
def f65v : List Nat := []

/-! 66: mortise/mortiseref02.Keywords, parameters [], results [63] -/
def f66r0 : List AOper := [
  ⟨(some 0), .move (.c (.is [] .nil)), none, 0, 0⟩]
def f66r1 : List AOper := [
  ⟨(some 1), .buildSlice true 1 23 (List.replicate 23 (.str [])) [(0, 1, (.c (.str [95, 66, 111, 111, 108]))), (1, 1, (.c (.str [98, 114, 101, 97, 107]))), (2, 1, (.c (.str [99, 104, 97, 114]))), (3, 1, (.c (.str [99, 111, 110, 116, 105, 110, 117, 101]))), (4, 1, (.c (.str [100, 111]))), (5, 1, (.c (.str [101, 108, 115, 101]))), (6, 1, (.c (.str [101, 110, 117, 109]))), (7, 1, (.c (.str [102, 111, 114]))), (8, 1, (.c (.str [105, 102]))), (9, 1, (.c (.str [105, 110, 116]))), (10, 1, (.c (.str [108, 111, 110, 103]))), (11, 1, (.c (.str [111, 102, 102, 115, 101, 116, 111, 102]))), (12, 1, (.c (.str [114, 101, 116, 117, 114, 110]))), (13, 1, (.c (.str [115, 104, 111, 114, 116]))), (14, 1, (.c (.str [115, 105, 103, 110, 101, 100]))), (15, 1, (.c (.str [115, 105, 122, 101, 111, 102]))), (16, 1, (.c (.str [115, 116, 97, 116, 105, 99]))), (17, 1, (.c (.str [115, 116, 114, 117, 99, 116]))), (18, 1, (.c (.str [116, 121, 112, 101, 100, 101, 102]))), (19, 1, (.c (.str [117, 110, 105, 111, 110]))), (20, 1, (.c (.str [117, 110, 115, 105, 103, 110, 101, 100]))), (21, 1, (.c (.str [118, 111, 105, 100]))), (22, 1, (.c (.str [119, 104, 105, 108, 101])))], none, 0, 0⟩,
  ⟨(some 0), .move (.t 1), none, 0, 1⟩]
def f66c : ACode :=
  .seq (.region false f66r0 [] 0)
  (.seq (.region false f66r1 [0] 0)
  (.ret))
def f66 : AFn := ⟨0, 2, [.tmp 0], f66c, 1, none⟩
def f66k : List (Nat × List Nat) := [(0, []), (1, [0])]
def f66v : List Nat := [1]

/-! 67: mortise/mortiseref02.escape, parameters [9, 3, 5], results [5, 3, 4] -/
def f67r0 : List AOper := [
  ⟨(some 6), .move (.c (.int .u8 0)), none, 0, 0⟩,
  ⟨(some 7), .move (.c (.int .i64 0)), none, 0, 1⟩,
  ⟨(some 8), .move (.c (.bool false)), none, 0, 3⟩]
def f67r1 : List AOper := [
  ⟨(some 16), .move (.t 1), none, 0, 0⟩,
  ⟨(some 17), .move (.t 0), none, 0, 0⟩,
  ⟨(some 18), .len 0 (.t 17), none, 0, 2⟩,
  ⟨(some 19), .bin .geq (.t 16) (.t 18), none, 0, 7⟩,
  ⟨(some 20), .move (.t 19), none, 0, 15⟩,
  ⟨(some 21), .move (.t 0), (some (20, false)), 0, 31⟩,
  ⟨(some 22), .move (.t 1), (some (20, false)), 0, 31⟩,
  ⟨(some 23), .strIndex (.t 21) (.t 22), (some (20, false)), 0, 127⟩,
  ⟨(some 24), .bin .eql (.t 23) (.c (.int .u8 10)), (some (20, false)), 0, 255⟩,
  ⟨(some 25), .pick (.t 20) (.c (.bool true)) (.t 24), none, 0, 511⟩,
  ⟨(some 26), .move (.t 25), none, 0, 1023⟩,
  ⟨(some 27), .move (.t 0), (some (26, false)), 0, 2047⟩,
  ⟨(some 28), .move (.t 1), (some (26, false)), 0, 2047⟩,
  ⟨(some 29), .strIndex (.t 27) (.t 28), (some (26, false)), 0, 8191⟩,
  ⟨(some 30), .move (.t 2), (some (26, false)), 0, 2047⟩,
  ⟨(some 31), .bin .eql (.t 29) (.t 30), (some (26, false)), 0, 32767⟩,
  ⟨(some 32), .pick (.t 26) (.c (.bool true)) (.t 31), none, 0, 65535⟩]
def f67r2 : List AOper := [
  ⟨(some 33), .move (.t 1), none, 0, 0⟩,
  ⟨(some 6), .move (.c (.int .u8 0)), none, 0, 0⟩,
  ⟨(some 7), .move (.t 33), none, 0, 3⟩,
  ⟨(some 8), .move (.c (.bool false)), none, 0, 7⟩]
def f67r3 : List AOper := [
  ⟨(some 34), .move (.t 0), none, 0, 0⟩,
  ⟨(some 35), .move (.t 1), none, 0, 0⟩,
  ⟨(some 36), .strIndex (.t 34) (.t 35), none, 0, 3⟩,
  ⟨(some 37), .bin .neq (.t 36) (.c (.int .u8 92)), none, 0, 7⟩]
def f67r4 : List AOper := [
  ⟨(some 38), .move (.t 0), none, 0, 0⟩,
  ⟨(some 39), .move (.t 1), none, 0, 0⟩,
  ⟨(some 40), .strIndex (.t 38) (.t 39), none, 0, 3⟩,
  ⟨(some 41), .move (.t 1), none, 0, 0⟩,
  ⟨(some 42), .bin .add (.t 41) (.c (.int .i64 1)), none, 0, 8⟩,
  ⟨(some 6), .move (.t 40), none, 0, 7⟩,
  ⟨(some 7), .move (.t 42), none, 0, 63⟩,
  ⟨(some 8), .move (.c (.bool true)), none, 0, 127⟩]
def f67r5 : List AOper := [
  ⟨(some 43), .move (.t 1), none, 0, 0⟩,
  ⟨(some 44), .bin .add (.t 43) (.c (.int .i64 1)), none, 0, 1⟩,
  ⟨(some 1), .move (.t 44), none, 0, 3⟩]
def f67r6 : List AOper := [
  ⟨(some 45), .move (.t 1), none, 0, 0⟩,
  ⟨(some 46), .move (.t 0), none, 0, 0⟩,
  ⟨(some 47), .len 0 (.t 46), none, 0, 2⟩,
  ⟨(some 48), .bin .geq (.t 45) (.t 47), none, 0, 7⟩]
def f67r7 : List AOper := [
  ⟨(some 49), .move (.t 1), none, 0, 0⟩,
  ⟨(some 6), .move (.c (.int .u8 0)), none, 0, 0⟩,
  ⟨(some 7), .move (.t 49), none, 0, 3⟩,
  ⟨(some 8), .move (.c (.bool false)), none, 0, 7⟩]
def f67r8 : List AOper := [
  ⟨(some 9), .move (.c (.str [97, 98, 102, 110, 114, 116, 118, 92, 39, 34, 63])), none, 0, 0⟩]
def f67r9 : List AOper := [
  ⟨(some 50), .buildSlice true 1 11 (List.replicate 11 (.int .u8 0)) [(0, 1, (.c (.int .u8 7))), (1, 1, (.c (.int .u8 8))), (2, 1, (.c (.int .u8 12))), (3, 1, (.c (.int .u8 10))), (4, 1, (.c (.int .u8 13))), (5, 1, (.c (.int .u8 9))), (6, 1, (.c (.int .u8 11))), (7, 1, (.c (.int .u8 92))), (8, 1, (.c (.int .u8 39))), (9, 1, (.c (.int .u8 34))), (10, 1, (.c (.int .u8 63)))], none, 0, 0⟩,
  ⟨(some 10), .move (.t 50), none, 0, 1⟩]
def f67r10 : List AOper := [
  ⟨(some 11), .move (.c (.int .i64 0)), none, 0, 0⟩]
def f67r11 : List AOper := [
  ⟨(some 51), .move (.t 11), none, 0, 0⟩,
  ⟨(some 52), .move (.t 9), none, 0, 0⟩,
  ⟨(some 53), .len 0 (.t 52), none, 0, 2⟩,
  ⟨(some 54), .bin .lss (.t 51) (.t 53), none, 0, 7⟩]
def f67q12 : List AOper := [
  ⟨(some 57), .move (.t 9), none, 0, 0⟩,
  ⟨(some 58), .move (.t 11), none, 0, 0⟩,
  ⟨(some 59), .strIndex (.t 57) (.t 58), none, 0, 3⟩,
  ⟨(some 60), .move (.t 0), none, 0, 0⟩,
  ⟨(some 61), .move (.t 1), none, 0, 0⟩,
  ⟨(some 62), .strIndex (.t 60) (.t 61), none, 0, 24⟩,
  ⟨(some 63), .bin .eql (.t 59) (.t 62), none, 0, 63⟩]
def f67r12 : List AOper := f67q12
def f67r13 : List AOper := [
  ⟨(some 64), .move (.t 10), none, 0, 0⟩,
  ⟨(some 65), .move (.t 11), none, 0, 0⟩,
  ⟨(some 66), .idxAddr 1 (.t 64) (.t 65), none, 0, 3⟩,
  ⟨(some 67), .load false 1 (.t 66), none, 0, 7⟩,
  ⟨(some 68), .move (.t 1), none, 0, 0⟩,
  ⟨(some 69), .bin .add (.t 68) (.c (.int .i64 1)), none, 0, 16⟩,
  ⟨(some 6), .move (.t 67), none, 0, 15⟩,
  ⟨(some 7), .move (.t 69), none, 0, 127⟩,
  ⟨(some 8), .move (.c (.bool true)), none, 0, 255⟩]
def f67r14 : List AOper := [
  ⟨(some 55), .move (.t 11), none, 0, 0⟩,
  ⟨(some 56), .bin .add (.t 55) (.c (.int .i64 1)), none, 0, 1⟩,
  ⟨(some 11), .move (.t 56), none, 0, 3⟩]
def f67m11 : ACode :=
  .seq (.seq (.region false f67r11 [0, 1, 9, 10, 11, 54] 0)
  (.cond (.t 54)
    (.skip)
    (.exit 0)))
  (.seq (.block 1 (.seq (.region true f67r12 [0, 1, 9, 10, 11, 63] 0)
    (.cond (.t 63)
      (.seq (.region false f67r13 [6, 7, 8] 0)
      (.ret))
      (.skip))))
  (.region false f67r14 [0, 1, 9, 10, 11] 0))
def f67l11 : ACode := f67m11
theorem f67l11_b {A : Tab} {nt : Nat} {e : Env} {h : Heap} : Brun A nt f67l11 e h = Brun A nt f67m11 e h := rfl
def f67r15 : List AOper := [
  ⟨(some 12), .move (.c (.int .i64 0)), none, 0, 0⟩,
  ⟨(some 13), .move (.c (.int .i64 8)), none, 0, 1⟩,
  ⟨(some 14), .move (.c (.int .i64 3)), none, 0, 3⟩]
def f67r16 : List AOper := [
  ⟨(some 70), .move (.t 0), none, 0, 0⟩,
  ⟨(some 71), .move (.t 1), none, 0, 0⟩,
  ⟨(some 72), .strIndex (.t 70) (.t 71), none, 0, 3⟩,
  ⟨(some 73), .bin .eql (.t 72) (.c (.int .u8 120)), none, 0, 7⟩]
def f67r17 : List AOper := [
  ⟨(some 74), .move (.t 1), none, 0, 0⟩,
  ⟨(some 75), .bin .add (.t 74) (.c (.int .i64 1)), none, 0, 1⟩,
  ⟨(some 1), .move (.t 75), none, 0, 3⟩]
def f67r18 : List AOper := [
  ⟨(some 76), .move (.t 0), none, 0, 0⟩,
  ⟨(some 77), .len 0 (.t 76), none, 0, 1⟩,
  ⟨(some 13), .move (.c (.int .i64 16)), none, 0, 0⟩,
  ⟨(some 14), .move (.t 77), none, 0, 7⟩]
def f67r19 : List AOper := [
  ⟨(some 78), .move (.t 1), none, 0, 0⟩,
  ⟨(some 15), .move (.t 78), none, 0, 1⟩]
def f67r20 : List AOper := [
  ⟨(some 79), .move (.t 15), none, 0, 0⟩,
  ⟨(some 80), .move (.t 0), none, 0, 0⟩,
  ⟨(some 81), .len 0 (.t 80), none, 0, 2⟩,
  ⟨(some 82), .bin .lss (.t 79) (.t 81), none, 0, 7⟩,
  ⟨(some 83), .move (.t 82), none, 0, 15⟩,
  ⟨(some 84), .move (.t 15), (some (83, true)), 0, 31⟩,
  ⟨(some 85), .move (.t 1), (some (83, true)), 0, 31⟩,
  ⟨(some 86), .bin .sub (.t 84) (.t 85), (some (83, true)), 0, 127⟩,
  ⟨(some 87), .move (.t 14), (some (83, true)), 0, 31⟩,
  ⟨(some 88), .bin .lss (.t 86) (.t 87), (some (83, true)), 0, 511⟩,
  ⟨(some 89), .pick (.t 83) (.t 88) (.c (.bool false)), none, 0, 1023⟩,
  ⟨(some 90), .move (.t 89), none, 0, 2047⟩,
  ⟨(some 91), .move (.t 0), (some (90, true)), 0, 4095⟩,
  ⟨(some 92), .move (.t 15), (some (90, true)), 0, 4095⟩,
  ⟨(some 93), .strIndex (.t 91) (.t 92), (some (90, true)), 0, 16383⟩,
  ⟨(some 94), .call (.c (.fn 64 [] [])) [(.t 93)], (some (90, true)), 0, 32767⟩,
  ⟨(some 95), .move (.t 13), (some (90, true)), 0, 4095⟩,
  ⟨(some 96), .bin .lss (.t 94) (.t 95), (some (90, true)), 0, 131071⟩,
  ⟨(some 97), .pick (.t 90) (.t 96) (.c (.bool false)), none, 0, 262143⟩]
def f67r21 : List AOper := [
  ⟨(some 98), .move (.t 12), none, 0, 0⟩,
  ⟨(some 99), .move (.t 13), none, 0, 0⟩,
  ⟨(some 100), .bin .mul (.t 98) (.t 99), none, 0, 3⟩,
  ⟨(some 101), .move (.t 0), none, 0, 0⟩,
  ⟨(some 102), .move (.t 15), none, 0, 0⟩,
  ⟨(some 103), .strIndex (.t 101) (.t 102), none, 0, 24⟩,
  ⟨(some 104), .call (.c (.fn 64 [] [])) [(.t 103)], none, 0, 56⟩,
  ⟨(some 105), .bin .add (.t 100) (.t 104), none, 0, 127⟩,
  ⟨(some 12), .move (.t 105), none, 0, 255⟩]
def f67r22 : List AOper := [
  ⟨(some 106), .move (.t 12), none, 0, 0⟩,
  ⟨(some 107), .bin .gtr (.t 106) (.c (.int .i64 255)), none, 0, 1⟩]
def f67r23 : List AOper := [
  ⟨(some 108), .move (.t 15), none, 0, 0⟩,
  ⟨(some 6), .move (.c (.int .u8 0)), none, 0, 0⟩,
  ⟨(some 7), .move (.t 108), none, 0, 3⟩,
  ⟨(some 8), .move (.c (.bool false)), none, 0, 7⟩]
def f67r24 : List AOper := [
  ⟨(some 109), .move (.t 15), none, 0, 0⟩,
  ⟨(some 110), .bin .add (.t 109) (.c (.int .i64 1)), none, 0, 1⟩,
  ⟨(some 15), .move (.t 110), none, 0, 3⟩]
def f67m20 : ACode :=
  .seq (.seq (.region false f67r20 [0, 1, 12, 13, 14, 15, 97] 0)
  (.cond (.t 97)
    (.skip)
    (.exit 2)))
  (.block 3 (.seq (.region false f67r21 [0, 1, 12, 13, 14, 15] 0)
    (.seq (.seq (.region false f67r22 [0, 1, 12, 13, 14, 15, 107] 0)
    (.cond (.t 107)
      (.seq (.region false f67r23 [6, 7, 8] 0)
      (.ret))
      (.skip)))
    (.region false f67r24 [0, 1, 12, 13, 14, 15] 0))))
def f67l20 : ACode := f67m20
theorem f67l20_b {A : Tab} {nt : Nat} {e : Env} {h : Heap} : Brun A nt f67l20 e h = Brun A nt f67m20 e h := rfl
def f67r25 : List AOper := [
  ⟨(some 111), .move (.t 12), none, 0, 0⟩,
  ⟨(some 112), .conv .u8 (.t 111), none, 0, 1⟩,
  ⟨(some 113), .move (.t 15), none, 0, 0⟩,
  ⟨(some 114), .move (.t 15), none, 0, 0⟩,
  ⟨(some 115), .move (.t 1), none, 0, 0⟩,
  ⟨(some 116), .bin .gtr (.t 114) (.t 115), none, 0, 24⟩,
  ⟨(some 6), .move (.t 112), none, 0, 3⟩,
  ⟨(some 7), .move (.t 113), none, 0, 71⟩,
  ⟨(some 8), .move (.t 116), none, 0, 255⟩]
theorem f67r12_s : staticOK 0 f67r12 = true := by rfl
theorem f67r12_w {A : Tab} {nt : Nat} {keep : List Nat} {n : Nat} {e : Env} {h : Heap} (hr : (bkeep keep (stepsF nt (stepF A true) h.length f67r12 e (h ++ List.replicate n .free))).isSome = true) : Brun A nt (.region true f67r12 keep n) e h = bkeep keep (stepsF nt (stepF A true) h.length f67r12 e (h ++ List.replicate n .free)) := Brun_drawnS f67r12_s hr
theorem f67r12_u (nt base : Nat) (step : Nat → AOp → Env → Heap → Option (AV × Heap)) (e : Env) (h : Heap) : stepsF nt step base f67r12 e h = stepsF nt step base f67q12 e h := rfl
def f67c : ACode :=
  .seq (.region false f67r0 [0, 1, 2] 0)
  (.seq (.seq (.region false f67r1 [0, 1, 32] 0)
  (.cond (.t 32)
    (.seq (.region false f67r2 [6, 7, 8] 0)
    (.ret))
    (.skip)))
  (.seq (.seq (.region false f67r3 [0, 1, 37] 0)
  (.cond (.t 37)
    (.seq (.region false f67r4 [6, 7, 8] 0)
    (.ret))
    (.skip)))
  (.seq (.region false f67r5 [0, 1] 0)
  (.seq (.seq (.region false f67r6 [0, 1, 48] 0)
  (.cond (.t 48)
    (.seq (.region false f67r7 [6, 7, 8] 0)
    (.ret))
    (.skip)))
  (.seq (.region false f67r8 [0, 1, 9] 0)
  (.seq (.region false f67r9 [0, 1, 9, 10] 0)
  (.seq (.seq (.region false f67r10 [0, 1, 9, 10, 11] 0)
  (.block 0 (.loop f67l11)))
  (.seq (.region false f67r15 [0, 1, 12, 13, 14] 0)
  (.seq (.seq (.region false f67r16 [0, 1, 12, 13, 14, 73] 0)
  (.cond (.t 73)
    (.seq (.region false f67r17 [0, 1, 12] 0)
    (.region false f67r18 [0, 1, 12, 13, 14] 0))
    (.skip)))
  (.seq (.region false f67r19 [0, 1, 12, 13, 14, 15] 0)
  (.seq (.block 2 (.loop f67l20))
  (.seq (.region false f67r25 [6, 7, 8] 0)
  (.ret)))))))))))))
def f67 : AFn := ⟨3, 117, [.tmp 6, .tmp 7, .tmp 8], f67c, 1, none⟩
def f67k : List (Nat × List Nat) := [(0, [0, 1, 2]), (1, [0, 1, 32]), (2, [6, 7, 8]), (3, [0, 1, 37]), (4, [6, 7, 8]), (5, [0, 1]), (6, [0, 1, 48]), (7, [6, 7, 8]), (8, [0, 1, 9]), (9, [0, 1, 9, 10]), (10, [0, 1, 9, 10, 11]), (11, [0, 1, 9, 10, 11, 54]), (13, [0, 1, 9, 10, 11, 63]), (14, [6, 7, 8]), (12, [0, 1, 9, 10, 11]), (15, [0, 1, 12, 13, 14]), (16, [0, 1, 12, 13, 14, 73]), (17, [0, 1, 12]), (18, [0, 1, 12, 13, 14]), (19, [0, 1, 12, 13, 14, 15]), (20, [0, 1, 12, 13, 14, 15, 97]), (21, [0, 1, 12, 13, 14, 15]), (22, [0, 1, 12, 13, 14, 15, 107]), (23, [6, 7, 8]), (24, [0, 1, 12, 13, 14, 15]), (25, [6, 7, 8])]
def f67v : List Nat := [112, 50]

/-! 68: internal/bytealg.LastIndexByteString, parameters [9, 5], results [3] -/
def f68r0 : List AOper := [
  ⟨(some 4), .move (.c (.int .i64 0)), none, 0, 0⟩]
def f68r1 : List AOper := [
  ⟨(some 6), .move (.t 0), none, 0, 0⟩,
  ⟨(some 7), .len 0 (.t 6), none, 0, 1⟩,
  ⟨(some 8), .bin .sub (.t 7) (.c (.int .i64 1)), none, 0, 3⟩,
  ⟨(some 5), .move (.t 8), none, 0, 7⟩]
def f68r2 : List AOper := [
  ⟨(some 9), .move (.t 5), none, 0, 0⟩,
  ⟨(some 10), .bin .geq (.t 9) (.c (.int .i64 0)), none, 0, 1⟩]
def f68r3 : List AOper := [
  ⟨(some 13), .move (.t 0), none, 0, 0⟩,
  ⟨(some 14), .move (.t 5), none, 0, 0⟩,
  ⟨(some 15), .strIndex (.t 13) (.t 14), none, 0, 3⟩,
  ⟨(some 16), .move (.t 1), none, 0, 0⟩,
  ⟨(some 17), .bin .eql (.t 15) (.t 16), none, 0, 15⟩]
def f68r4 : List AOper := [
  ⟨(some 18), .move (.t 5), none, 0, 0⟩,
  ⟨(some 4), .move (.t 18), none, 0, 1⟩]
def f68r5 : List AOper := [
  ⟨(some 11), .move (.t 5), none, 0, 0⟩,
  ⟨(some 12), .bin .sub (.t 11) (.c (.int .i64 1)), none, 0, 1⟩,
  ⟨(some 5), .move (.t 12), none, 0, 3⟩]
def f68m2 : ACode :=
  .seq (.seq (.region false f68r2 [0, 1, 5, 10] 0)
  (.cond (.t 10)
    (.skip)
    (.exit 0)))
  (.seq (.block 1 (.seq (.region false f68r3 [0, 1, 5, 17] 0)
    (.cond (.t 17)
      (.seq (.region false f68r4 [4] 0)
      (.ret))
      (.skip))))
  (.region false f68r5 [0, 1, 5] 0))
def f68l2 : ACode := f68m2
theorem f68l2_b {A : Tab} {nt : Nat} {e : Env} {h : Heap} : Brun A nt f68l2 e h = Brun A nt f68m2 e h := rfl
def f68r6 : List AOper := [
  ⟨(some 4), .move (.c (.int .i64 (-1))), none, 0, 0⟩]
def f68c : ACode :=
  .seq (.region false f68r0 [0, 1] 0)
  (.seq (.seq (.region false f68r1 [0, 1, 5] 0)
  (.block 0 (.loop f68l2)))
  (.seq (.region false f68r6 [4] 0)
  (.ret)))
def f68 : AFn := ⟨2, 19, [.tmp 4], f68c, 1, none⟩
def f68k : List (Nat × List Nat) := [(0, [0, 1]), (1, [0, 1, 5]), (2, [0, 1, 5, 10]), (4, [0, 1, 5, 17]), (5, [4]), (3, [0, 1, 5]), (6, [4])]
def f68v : List Nat := []

/-! 69: unicode/utf8.RuneCountInString, parameters [9], results [3] -/
def f69r0 : List AOper := [
  ⟨(some 2), .move (.c (.int .i64 0)), none, 0, 0⟩]
def f69r1 : List AOper := [
  ⟨(some 3), .move (.t 0), none, 0, 0⟩,
  ⟨(some 4), .stuck, none, 0, 1⟩]
def f69r2 : List AOper := [
  ⟨(some 5), .stuck, none, 0, 0⟩,
  ⟨(some 6), .extract (.t 5) 0, none, 0, 1⟩]
def f69r3 : List AOper := [
  ⟨(some 7), .move (.t 2), none, 0, 0⟩,
  ⟨(some 8), .bin .add (.t 7) (.c (.int .i64 1)), none, 0, 1⟩,
  ⟨(some 2), .move (.t 8), none, 0, 3⟩]
def f69m2 : ACode :=
  .seq (.region false f69r2 [2, 6] 0)
  (.seq (.cond (.t 6)
    (.skip)
    (.exit 0))
  (.block 1 (.region false f69r3 [2] 0)))
def f69l2 : ACode := f69m2
theorem f69l2_b {A : Tab} {nt : Nat} {e : Env} {h : Heap} : Brun A nt f69l2 e h = Brun A nt f69m2 e h := rfl
def f69r4 : List AOper := [
  ⟨(some 9), .move (.t 2), none, 0, 0⟩,
  ⟨(some 2), .move (.t 9), none, 0, 1⟩]
def f69c : ACode :=
  .seq (.region false f69r0 [0, 2] 0)
  (.seq (.seq (.region false f69r1 [2] 0)
  (.block 0 (.loop f69l2)))
  (.seq (.region false f69r4 [2] 0)
  (.ret)))
def f69 : AFn := ⟨1, 10, [.tmp 2], f69c, 1, none⟩
def f69k : List (Nat × List Nat) := [(0, [0, 2]), (1, [2]), (2, [2, 6]), (3, [2]), (4, [2])]
def f69v : List Nat := []

/-! 71: internal/stringslite.HasSuffix, parameters [9, 9], results [4] -/
def f71r0 : List AOper := [
  ⟨(some 4), .move (.c (.bool false)), none, 0, 0⟩]
def f71r1 : List AOper := [
  ⟨(some 5), .move (.t 0), none, 0, 0⟩,
  ⟨(some 6), .len 0 (.t 5), none, 0, 1⟩,
  ⟨(some 7), .move (.t 1), none, 0, 0⟩,
  ⟨(some 8), .len 0 (.t 7), none, 0, 4⟩,
  ⟨(some 9), .bin .geq (.t 6) (.t 8), none, 0, 15⟩,
  ⟨(some 10), .move (.t 9), none, 0, 31⟩,
  ⟨(some 11), .move (.t 0), (some (10, true)), 0, 63⟩,
  ⟨(some 12), .move (.t 0), (some (10, true)), 0, 63⟩,
  ⟨(some 13), .len 0 (.t 12), (some (10, true)), 0, 191⟩,
  ⟨(some 14), .move (.t 1), (some (10, true)), 0, 63⟩,
  ⟨(some 15), .len 0 (.t 14), (some (10, true)), 0, 575⟩,
  ⟨(some 16), .bin .sub (.t 13) (.t 15), (some (10, true)), 0, 1983⟩,
  ⟨(some 17), .strSlice (.t 11) (some (.t 16)) none, (some (10, true)), 0, 4095⟩,
  ⟨(some 18), .move (.t 1), (some (10, true)), 0, 63⟩,
  ⟨(some 19), .bin .eql (.t 17) (.t 18), (some (10, true)), 0, 16383⟩,
  ⟨(some 20), .pick (.t 10) (.t 19) (.c (.bool false)), none, 0, 32767⟩,
  ⟨(some 4), .move (.t 20), none, 0, 65535⟩]
def f71c : ACode :=
  .seq (.region false f71r0 [0, 1] 0)
  (.seq (.region false f71r1 [4] 0)
  (.ret))
def f71 : AFn := ⟨2, 21, [.tmp 4], f71c, 1, none⟩
def f71k : List (Nat × List Nat) := [(0, [0, 1]), (1, [4])]
def f71v : List Nat := []

/-! 83: mortise/token.escaped$1, parameters [5], results [4] -/
def f83r0 : List AOper := [
  ⟨(some 2), .move (.c (.bool false)), none, 0, 0⟩]
def f83r1 : List AOper := [
  ⟨(some 6), .move (.t 0), none, 0, 0⟩,
  ⟨(some 7), .call (.c (.fn 61 [] [])) [(.t 6)], none, 0, 1⟩,
  ⟨(some 5), .move (.t 7), none, 0, 3⟩,
  ⟨(some 8), .extract (.t 5) 0, none, 0, 7⟩,
  ⟨(some 9), .extract (.t 5) 1, none, 0, 7⟩,
  ⟨(some 3), .move (.t 8), none, 0, 15⟩,
  ⟨(some 4), .move (.t 9), none, 0, 63⟩]
def f83r2 : List AOper := [
  ⟨(some 10), .move (.t 4), none, 0, 0⟩,
  ⟨(some 2), .move (.t 10), none, 0, 1⟩]
def f83c : ACode :=
  .seq (.region false f83r0 [0] 0)
  (.seq (.region false f83r1 [4] 0)
  (.seq (.region false f83r2 [2] 0)
  (.ret)))
def f83 : AFn := ⟨1, 11, [.tmp 2], f83c, 1, none⟩
def f83k : List (Nat × List Nat) := [(0, [0]), (1, [4]), (2, [2])]
def f83v : List Nat := []

/-! 84: mortise/token.octal, parameters [5], results [4] -/
def f84r0 : List AOper := [
  ⟨(some 2), .move (.c (.bool false)), none, 0, 0⟩]
def f84r1 : List AOper := [
  ⟨(some 3), .move (.t 0), none, 0, 0⟩,
  ⟨(some 4), .bin .geq (.t 3) (.c (.int .u8 48)), none, 0, 1⟩,
  ⟨(some 5), .move (.t 4), none, 0, 3⟩,
  ⟨(some 6), .move (.t 0), (some (5, true)), 0, 7⟩,
  ⟨(some 7), .bin .leq (.t 6) (.c (.int .u8 55)), (some (5, true)), 0, 15⟩,
  ⟨(some 8), .pick (.t 5) (.t 7) (.c (.bool false)), none, 0, 31⟩,
  ⟨(some 2), .move (.t 8), none, 0, 63⟩]
def f84c : ACode :=
  .seq (.region false f84r0 [0] 0)
  (.seq (.region false f84r1 [2] 0)
  (.ret))
def f84 : AFn := ⟨1, 9, [.tmp 2], f84c, 1, none⟩
def f84k : List (Nat × List Nat) := [(0, [0]), (1, [2])]
def f84v : List Nat := []

end Go.Proofs.YtmpdpjkblcdfkaaGreatDoor
