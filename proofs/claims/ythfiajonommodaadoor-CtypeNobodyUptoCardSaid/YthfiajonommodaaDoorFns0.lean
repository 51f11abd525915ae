/- The seat's functions as the machine's, part 0. Printed by a program. -/
import Derived.Test.YthfiajonommodaaDoorAmV
import Derived.KernelRfl
namespace Go.Proofs.YthfiajonommodaaDoor
open Go.AM
set_option maxRecDepth 100000
def gl4 : List AV := (dataRow Rows.laid_math_bits_deBruijn32tab).getD []
def gl5 : List AV := (dataRow Rows.laid_math_bits_deBruijn64tab).getD []
def gl0 : List AV := (dataRow Rows.laid_internal_strconv_uint64pow10).getD []
def gl2 : List AV := (dataRow Rows.laid_unicode_utf8_acceptRanges).getD []
def gl1 : List AV := (dataRow Rows.laid_unicode_utf8_first).getD []
def G : GTab := ⟨fun g => match g with
  | 4 => some gl4
  | 5 => some gl5
  | 0 => some gl0
  | 2 => some gl2
  | 1 => some gl1
  | _ => none, fun f => match f with
  | 101 => some .idxByte
  | _ => none⟩

/-! 3: mortise/mortiselaw03.CtypeNobody, parameters [3, 9, 22], results [4] -/
def f3r0 : List AOper := [
  ⟨(some 6), .move (.c (.bool false)), none, 0, 0⟩]
def f3r1 : List AOper := [
  ⟨(some 7), .move (.c .nilp), none, 0, 0⟩]
def f3r2 : List AOper := [
  ⟨(some 8), .move (.t 7), none, 0, 0⟩,
  ⟨(some 9), .move (.t 0), none, 0, 0⟩,
  ⟨(some 10), .move (.t 1), none, 0, 0⟩,
  ⟨(some 11), .move (.t 2), none, 0, 0⟩,
  ⟨(some 12), .call (.c (.fn 5 [] [])) [(.t 8), (.t 9), (.t 10), (.t 11)], none, 0, 15⟩,
  ⟨(some 13), .move (.t 12), none, 0, 31⟩,
  ⟨(some 14), .build [(.is [] .nil), .nilm] [], (some (13, true)), 0, 63⟩,
  ⟨(some 15), .box false (.t 14), (some (13, true)), 0, 127⟩,
  ⟨(some 16), .move (.t 0), (some (13, true)), 1, 63⟩,
  ⟨(some 17), .move (.t 1), (some (13, true)), 1, 63⟩,
  ⟨(some 18), .move (.t 2), (some (13, true)), 1, 63⟩,
  ⟨(some 19), .call (.c (.fn 5 [] [])) [(.t 15), (.t 16), (.t 17), (.t 18)], (some (13, true)), 1, 2047⟩,
  ⟨(some 20), .pick (.t 13) (.t 19) (.c (.bool false)), none, 1, 4095⟩,
  ⟨(some 21), .move (.t 20), none, 1, 8191⟩,
  ⟨(some 22), .call (.c (.fn 6 [] [])) [], (some (21, true)), 1, 16383⟩,
  ⟨(some 23), .pick (.t 21) (.t 22) (.c (.bool false)), none, 1, 32767⟩,
  ⟨(some 6), .move (.t 23), none, 1, 65535⟩]
def f3c : ACode :=
  .seq (.region false f3r0 [0, 1, 2] 0)
  (.seq (.region false f3r1 [0, 1, 2, 7] 0)
  (.seq (.region false f3r2 [6] 1)
  (.ret)))
def f3 : AFn := ⟨3, 24, [.tmp 6], f3c, 1, none⟩
def f3k : List (Nat × List Nat) := [(0, [0, 1, 2]), (1, [0, 1, 2, 7]), (2, [6])]
def f3v : List Nat := []

/-! 4: mortise/mortiselaw03.CtypeFrom, parameters [25], results [4] -/
def f4r0 : List AOper := [
  ⟨(some 2), .move (.c (.bool false)), none, 0, 0⟩]
def f4r1 : List AOper := [
  ⟨(some 10), .move (.t 0), none, 0, 0⟩,
  ⟨(some 11), .build [(.is [] .nil)] [(0, 1, (.t 10))], none, 0, 1⟩,
  ⟨(some 12), .box false (.t 11), none, 0, 3⟩,
  ⟨(some 13), .call (.c (.fn 7 [] [])) [(.t 12)], none, 1, 7⟩,
  ⟨(some 14), .nilCheck (.t 13), none, 1, 15⟩,
  ⟨(some 15), .fieldAddr 0 (.t 14), none, 1, 31⟩,
  ⟨(some 16), .load false 1 (.t 15), none, 1, 63⟩,
  ⟨(some 3), .move (.t 16), none, 1, 127⟩]
def f4r2 : List AOper := [
  ⟨(some 18), .move (.t 3), none, 0, 0⟩,
  ⟨(some 19), .call (.c (.fn 8 [] [])) [(.t 18)], none, 0, 1⟩,
  ⟨(some 17), .move (.t 19), none, 0, 3⟩,
  ⟨(some 20), .extract (.t 17) 0, none, 0, 7⟩,
  ⟨(some 21), .extract (.t 17) 1, none, 0, 7⟩,
  ⟨(some 4), .move (.t 20), none, 0, 15⟩,
  ⟨(some 5), .move (.t 21), none, 0, 63⟩]
def f4r3 : List AOper := [
  ⟨(some 23), .move (.t 0), none, 0, 0⟩,
  ⟨(some 24), .call (.c (.fn 9 [] [])) [(.t 23)], none, 0, 1⟩,
  ⟨(some 22), .move (.t 24), none, 0, 3⟩,
  ⟨(some 25), .extract (.t 22) 0, none, 0, 7⟩,
  ⟨(some 26), .extract (.t 22) 1, none, 0, 7⟩,
  ⟨(some 6), .move (.t 25), none, 0, 15⟩,
  ⟨(some 7), .move (.t 26), none, 0, 63⟩]
def f4r4 : List AOper := [
  ⟨(some 27), .move (.t 5), none, 0, 0⟩,
  ⟨(some 28), .move (.t 7), none, 0, 0⟩,
  ⟨(some 29), .bin .neq (.t 27) (.t 28), none, 0, 3⟩,
  ⟨(some 30), .move (.t 29), none, 0, 7⟩,
  ⟨(some 31), .move (.t 4), (some (30, false)), 0, 15⟩,
  ⟨(some 32), .eq false .ptr (.t 31) (.c .nilp), (some (30, false)), 0, 31⟩,
  ⟨(some 33), .move (.t 6), (some (30, false)), 0, 15⟩,
  ⟨(some 34), .eq false .ptr (.t 33) (.c .nilp), (some (30, false)), 0, 79⟩,
  ⟨(some 35), .eq true .bool (.t 32) (.t 34), (some (30, false)), 0, 255⟩,
  ⟨(some 36), .pick (.t 30) (.c (.bool true)) (.t 35), none, 0, 511⟩]
def f4r5 : List AOper := [
  ⟨(some 2), .move (.c (.bool false)), none, 0, 0⟩]
def f4r6 : List AOper := [
  ⟨(some 8), .move (.c (.int .i64 0)), none, 0, 0⟩]
def f4r7 : List AOper := [
  ⟨(some 37), .move (.t 8), none, 0, 0⟩,
  ⟨(some 38), .move (.t 3), none, 0, 0⟩,
  ⟨(some 39), .len 1 (.t 38), none, 0, 2⟩,
  ⟨(some 40), .bin .lss (.t 37) (.t 39), none, 0, 7⟩]
def f4r8 : List AOper := [
  ⟨(some 9), .move (.c (.int .i64 0)), none, 0, 0⟩]
def f4r9 : List AOper := [
  ⟨(some 43), .move (.t 9), none, 0, 0⟩,
  ⟨(some 44), .move (.t 3), none, 0, 0⟩,
  ⟨(some 45), .move (.t 8), none, 0, 0⟩,
  ⟨(some 46), .idxAddr 6 (.t 44) (.t 45), none, 0, 6⟩,
  ⟨(some 47), .fieldAddr 4 (.t 46), none, 0, 14⟩,
  ⟨(some 48), .load false 1 (.t 47), none, 0, 30⟩,
  ⟨(some 49), .len 1 (.t 48), none, 0, 62⟩,
  ⟨(some 50), .bin .lss (.t 43) (.t 49), none, 0, 127⟩]
def f4r10 : List AOper := [
  ⟨(some 53), .move (.t 3), none, 0, 0⟩,
  ⟨(some 54), .move (.t 8), none, 0, 0⟩,
  ⟨(some 55), .idxAddr 6 (.t 53) (.t 54), none, 0, 3⟩,
  ⟨(some 56), .fieldAddr 4 (.t 55), none, 0, 7⟩,
  ⟨(some 57), .load false 1 (.t 56), none, 0, 15⟩,
  ⟨(some 58), .move (.t 9), none, 0, 0⟩,
  ⟨(some 59), .idxAddr 3 (.t 57) (.t 58), none, 0, 63⟩,
  ⟨(some 60), .fieldAddr 0 (.t 59), none, 0, 127⟩,
  ⟨none, .store 1 (.t 60) (.c (.str [63])), none, 0, 255⟩]
def f4r11 : List AOper := [
  ⟨(some 51), .move (.t 9), none, 0, 0⟩,
  ⟨(some 52), .bin .add (.t 51) (.c (.int .i64 1)), none, 0, 1⟩,
  ⟨(some 9), .move (.t 52), none, 0, 3⟩]
def f4m9 : ACode :=
  .seq (.seq (.region false f4r9 [3, 4, 6, 8, 9, 50] 0)
  (.cond (.t 50)
    (.skip)
    (.exit 2)))
  (.seq (.block 3 (.region false f4r10 [3, 4, 6, 8, 9] 0))
  (.region false f4r11 [3, 4, 6, 8, 9] 0))
def f4l9 : ACode := f4m9
theorem f4l9_b {A : Tab} {nt : Nat} {e : Env} {h : Heap} : Brun A nt f4l9 e h = Brun A nt f4m9 e h := rfl
def f4r12 : List AOper := [
  ⟨(some 61), .move (.t 3), none, 0, 0⟩,
  ⟨(some 62), .move (.t 8), none, 0, 0⟩,
  ⟨(some 63), .build [(.int .i64 0), (.int .i64 0), (.int .i64 0), (.str []), (.is [] .nil), (.bool false)] [], none, 0, 0⟩,
  ⟨(some 64), .idxAddr 6 (.t 61) (.t 62), none, 0, 7⟩,
  ⟨none, .store 6 (.t 64) (.t 63), none, 0, 15⟩]
def f4r13 : List AOper := [
  ⟨(some 41), .move (.t 8), none, 0, 0⟩,
  ⟨(some 42), .bin .add (.t 41) (.c (.int .i64 1)), none, 0, 1⟩,
  ⟨(some 8), .move (.t 42), none, 0, 3⟩]
def f4m7 : ACode :=
  .seq (.seq (.region false f4r7 [3, 4, 6, 8, 40] 0)
  (.cond (.t 40)
    (.skip)
    (.exit 0)))
  (.seq (.block 1 (.seq (.seq (.region false f4r8 [3, 4, 6, 8, 9] 0)
    (.block 2 (.loop f4l9)))
    (.region false f4r12 [3, 4, 6, 8] 0)))
  (.region false f4r13 [3, 4, 6, 8] 0))
def f4l7 : ACode := f4m7
theorem f4l7_b {A : Tab} {nt : Nat} {e : Env} {h : Heap} : Brun A nt f4l7 e h = Brun A nt f4m7 e h := rfl
def f4r14 : List AOper := [
  ⟨(some 65), .move (.t 4), none, 0, 0⟩,
  ⟨(some 66), .eq false .ptr (.t 65) (.c .nilp), none, 0, 1⟩,
  ⟨(some 67), .move (.t 66), none, 0, 3⟩,
  ⟨(some 68), .move (.t 4), (some (67, false)), 0, 7⟩,
  ⟨(some 69), .move (.t 6), (some (67, false)), 0, 7⟩,
  ⟨(some 70), .call (.c (.fn 10 [] [])) [(.t 68), (.t 69)], (some (67, false)), 0, 31⟩,
  ⟨(some 71), .pick (.t 67) (.c (.bool true)) (.t 70), none, 0, 63⟩,
  ⟨(some 72), .move (.t 71), none, 0, 127⟩,
  ⟨(some 73), .call (.c (.fn 6 [] [])) [], (some (72, true)), 0, 255⟩,
  ⟨(some 74), .pick (.t 72) (.t 73) (.c (.bool false)), none, 0, 511⟩,
  ⟨(some 2), .move (.t 74), none, 0, 1023⟩]
def f4c : ACode :=
  .seq (.region false f4r0 [0] 0)
  (.seq (.region false f4r1 [0, 3] 1)
  (.seq (.region false f4r2 [0, 3, 4, 5] 0)
  (.seq (.region false f4r3 [3, 4, 5, 6, 7] 0)
  (.seq (.seq (.region false f4r4 [3, 4, 6, 36] 0)
  (.cond (.t 36)
    (.seq (.region false f4r5 [2] 0)
    (.ret))
    (.skip)))
  (.seq (.seq (.region false f4r6 [3, 4, 6, 8] 0)
  (.block 0 (.loop f4l7)))
  (.seq (.region false f4r14 [2] 0)
  (.ret)))))))
def f4 : AFn := ⟨1, 75, [.tmp 2], f4c, 1, none⟩
def f4k : List (Nat × List Nat) := [(0, [0]), (1, [0, 3]), (2, [0, 3, 4, 5]), (3, [3, 4, 5, 6, 7]), (4, [3, 4, 6, 36]), (5, [2]), (6, [3, 4, 6, 8]), (7, [3, 4, 6, 8, 40]), (9, [3, 4, 6, 8, 9]), (10, [3, 4, 6, 8, 9, 50]), (12, [3, 4, 6, 8, 9]), (11, [3, 4, 6, 8, 9]), (13, [3, 4, 6, 8]), (8, [3, 4, 6, 8]), (14, [2])]
def f4v : List Nat := []

/-! 5: mortise/mortiselaw03.nobody, parameters [23, 3, 9, 22], results [4] -/
def f5r0 : List AOper := [
  ⟨(some 8), .move (.c (.bool false)), none, 0, 0⟩]
def f5r1 : List AOper := [
  ⟨(some 26), .move (.t 0), none, 0, 0⟩,
  ⟨(some 27), .call (.c (.fn 11 [] [])) [(.t 26), (.c (.int .i64 8))], none, 0, 1⟩,
  ⟨(some 25), .move (.t 27), none, 0, 3⟩,
  ⟨(some 28), .extract (.t 25) 0, none, 0, 7⟩,
  ⟨(some 29), .extract (.t 25) 1, none, 0, 7⟩,
  ⟨(some 9), .move (.t 28), none, 0, 15⟩,
  ⟨(some 10), .move (.t 29), none, 0, 63⟩]
def f5r2 : List AOper := [
  ⟨(some 31), .move (.t 0), none, 0, 0⟩,
  ⟨(some 32), .move (.t 2), none, 0, 0⟩,
  ⟨(some 33), .call (.c (.fn 12 [] [])) [(.t 31), (.t 32)], none, 0, 3⟩,
  ⟨(some 30), .move (.t 33), none, 0, 7⟩,
  ⟨(some 34), .extract (.t 30) 0, none, 0, 15⟩,
  ⟨(some 35), .extract (.t 30) 1, none, 0, 15⟩,
  ⟨(some 11), .move (.t 34), none, 0, 31⟩,
  ⟨(some 12), .move (.t 35), none, 0, 127⟩]
def f5r3 : List AOper := [
  ⟨(some 37), .move (.t 0), none, 0, 0⟩,
  ⟨(some 38), .move (.t 1), none, 0, 0⟩,
  ⟨(some 39), .call (.c (.fn 13 [] [])) [(.t 37), (.t 38)], none, 0, 3⟩,
  ⟨(some 36), .move (.t 39), none, 0, 7⟩,
  ⟨(some 40), .extract (.t 36) 0, none, 0, 15⟩,
  ⟨(some 41), .extract (.t 36) 1, none, 0, 15⟩,
  ⟨(some 13), .move (.t 40), none, 0, 31⟩,
  ⟨(some 14), .move (.t 41), none, 0, 127⟩]
def f5r4 : List AOper := [
  ⟨(some 43), .move (.t 0), none, 0, 0⟩,
  ⟨(some 44), .move (.t 1), none, 0, 0⟩,
  ⟨(some 45), .call (.c (.fn 14 [] [])) [(.t 43), (.t 44), (.c (.int .i64 3))], none, 0, 3⟩,
  ⟨(some 42), .move (.t 45), none, 0, 7⟩,
  ⟨(some 46), .extract (.t 42) 0, none, 0, 15⟩,
  ⟨(some 47), .extract (.t 42) 1, none, 0, 15⟩,
  ⟨(some 15), .move (.t 46), none, 0, 31⟩,
  ⟨(some 16), .move (.t 47), none, 0, 127⟩]
def f5r5 : List AOper := [
  ⟨(some 49), .move (.t 0), none, 0, 0⟩,
  ⟨(some 50), .move (.t 2), none, 0, 0⟩,
  ⟨(some 51), .call (.c (.fn 15 [] [])) [(.t 49), (.t 50)], none, 0, 3⟩,
  ⟨(some 48), .move (.t 51), none, 0, 7⟩,
  ⟨(some 52), .extract (.t 48) 0, none, 0, 15⟩,
  ⟨(some 53), .extract (.t 48) 1, none, 0, 15⟩,
  ⟨(some 17), .move (.t 52), none, 0, 31⟩,
  ⟨(some 18), .move (.t 53), none, 0, 127⟩]
def f5r6 : List AOper := [
  ⟨(some 55), .move (.t 0), none, 0, 0⟩,
  ⟨(some 56), .move (.t 2), none, 0, 0⟩,
  ⟨(some 57), .call (.c (.fn 16 [] [])) [(.t 55), (.t 56)], none, 0, 3⟩,
  ⟨(some 54), .move (.t 57), none, 0, 7⟩,
  ⟨(some 58), .extract (.t 54) 0, none, 0, 15⟩,
  ⟨(some 59), .extract (.t 54) 1, none, 0, 15⟩,
  ⟨(some 19), .move (.t 58), none, 0, 31⟩,
  ⟨(some 20), .move (.t 59), none, 0, 127⟩]
def f5r7 : List AOper := [
  ⟨(some 61), .move (.t 0), none, 0, 0⟩,
  ⟨(some 62), .move (.t 1), none, 0, 0⟩,
  ⟨(some 63), .move (.t 2), none, 0, 0⟩,
  ⟨(some 64), .call (.c (.fn 17 [] [])) [(.t 61), (.t 62), (.t 63)], none, 0, 7⟩,
  ⟨(some 60), .move (.t 64), none, 0, 15⟩,
  ⟨(some 65), .extract (.t 60) 0, none, 0, 31⟩,
  ⟨(some 66), .extract (.t 60) 1, none, 0, 31⟩,
  ⟨(some 21), .move (.t 65), none, 0, 63⟩,
  ⟨(some 22), .move (.t 66), none, 0, 255⟩]
def f5r8 : List AOper := [
  ⟨(some 68), .move (.t 0), none, 0, 0⟩,
  ⟨(some 69), .move (.t 1), none, 0, 0⟩,
  ⟨(some 70), .call (.c (.fn 18 [] [])) [(.t 68), (.t 69)], none, 0, 3⟩,
  ⟨(some 67), .move (.t 70), none, 0, 7⟩,
  ⟨(some 71), .extract (.t 67) 0, none, 0, 15⟩,
  ⟨(some 72), .extract (.t 67) 1, none, 0, 15⟩,
  ⟨(some 23), .alloc false [(.int .i64 0), (.int .i64 0), (.int .i64 0), (.str []), (.is [] .nil), (.bool false)], none, 0, 0⟩,
  ⟨none, .store 6 (.t 23) (.t 71), none, 1, 95⟩,
  ⟨(some 24), .move (.t 72), none, 1, 255⟩]
def f5r9 : List AOper := [
  ⟨(some 73), .move (.t 10), none, 0, 0⟩,
  ⟨(some 74), .bin .eql (.t 73) (.c (.int .i64 1)), none, 0, 1⟩,
  ⟨(some 75), .move (.t 74), none, 0, 3⟩,
  ⟨(some 76), .move (.t 12), (some (75, true)), 0, 7⟩,
  ⟨(some 77), .bin .eql (.t 76) (.c (.int .i64 1)), (some (75, true)), 0, 15⟩,
  ⟨(some 78), .pick (.t 75) (.t 77) (.c (.bool false)), none, 0, 31⟩,
  ⟨(some 79), .move (.t 78), none, 0, 63⟩,
  ⟨(some 80), .move (.t 14), (some (79, true)), 0, 127⟩,
  ⟨(some 81), .bin .eql (.t 80) (.c (.int .i64 1)), (some (79, true)), 0, 255⟩,
  ⟨(some 82), .pick (.t 79) (.t 81) (.c (.bool false)), none, 0, 511⟩,
  ⟨(some 83), .move (.t 82), none, 0, 1023⟩,
  ⟨(some 84), .move (.t 16), (some (83, true)), 0, 2047⟩,
  ⟨(some 85), .bin .eql (.t 84) (.c (.int .i64 1)), (some (83, true)), 0, 4095⟩,
  ⟨(some 86), .pick (.t 83) (.t 85) (.c (.bool false)), none, 0, 8191⟩,
  ⟨(some 87), .move (.t 86), none, 0, 16383⟩,
  ⟨(some 88), .move (.t 18), (some (87, true)), 0, 32767⟩,
  ⟨(some 89), .bin .eql (.t 88) (.c (.int .i64 1)), (some (87, true)), 0, 65535⟩,
  ⟨(some 90), .pick (.t 87) (.t 89) (.c (.bool false)), none, 0, 131071⟩,
  ⟨(some 91), .move (.t 90), none, 0, 262143⟩,
  ⟨(some 92), .move (.t 20), (some (91, true)), 0, 524287⟩,
  ⟨(some 93), .bin .eql (.t 92) (.c (.int .i64 1)), (some (91, true)), 0, 1048575⟩,
  ⟨(some 94), .pick (.t 91) (.t 93) (.c (.bool false)), none, 0, 2097151⟩,
  ⟨(some 95), .move (.t 94), none, 0, 4194303⟩,
  ⟨(some 96), .move (.t 22), (some (95, true)), 0, 8388607⟩,
  ⟨(some 97), .bin .eql (.t 96) (.c (.int .i64 1)), (some (95, true)), 0, 16777215⟩,
  ⟨(some 98), .pick (.t 95) (.t 97) (.c (.bool false)), none, 0, 33554431⟩,
  ⟨(some 99), .move (.t 98), none, 0, 67108863⟩,
  ⟨(some 100), .move (.t 21), (some (99, true)), 0, 134217727⟩,
  ⟨(some 101), .bin .eql (.t 100) (.c (.str [])), (some (99, true)), 0, 268435455⟩,
  ⟨(some 102), .pick (.t 99) (.t 101) (.c (.bool false)), none, 0, 536870911⟩,
  ⟨(some 103), .move (.t 102), none, 0, 1073741823⟩,
  ⟨(some 104), .move (.t 0), (some (103, true)), 0, 2147483647⟩,
  ⟨(some 105), .move (.t 1), (some (103, true)), 0, 2147483647⟩,
  ⟨(some 106), .move (.t 3), (some (103, true)), 0, 2147483647⟩,
  ⟨(some 107), .call (.c (.fn 19 [] [])) [(.t 104), (.t 105), (.t 106)], (some (103, true)), 0, 17179869183⟩,
  ⟨(some 108), .bin .eql (.t 107) (.c (.int .i64 1)), (some (103, true)), 0, 34359738367⟩,
  ⟨(some 109), .pick (.t 103) (.t 108) (.c (.bool false)), none, 0, 68719476735⟩,
  ⟨(some 110), .move (.t 109), none, 0, 137438953471⟩,
  ⟨(some 111), .load true 6 (.t 23), (some (110, true)), 0, 274877906943⟩,
  ⟨(some 112), .build [(.int .i64 0), (.int .i64 0), (.int .i64 0), (.str []), (.is [] .nil), (.bool false)] [], (some (110, true)), 0, 274877906943⟩,
  ⟨(some 113), .call (.c (.fn 20 [] [])) [(.t 111), (.t 112)], (some (110, true)), 0, 1099511627775⟩,
  ⟨(some 114), .pick (.t 110) (.t 113) (.c (.bool false)), none, 0, 2199023255551⟩,
  ⟨(some 115), .move (.t 114), none, 0, 4398046511103⟩,
  ⟨(some 116), .move (.t 24), (some (115, true)), 0, 8796093022207⟩,
  ⟨(some 117), .un .not (.t 116), (some (115, true)), 0, 17592186044415⟩,
  ⟨(some 118), .pick (.t 115) (.t 117) (.c (.bool false)), none, 0, 35184372088831⟩,
  ⟨(some 119), .move (.t 118), none, 0, 70368744177663⟩,
  ⟨(some 120), .move (.t 0), (some (119, true)), 0, 140737488355327⟩,
  ⟨(some 121), .move (.t 1), (some (119, true)), 0, 140737488355327⟩,
  ⟨(some 122), .call (.c (.fn 21 [] [])) [(.t 120), (.t 121)], (some (119, true)), 0, 562949953421311⟩,
  ⟨(some 123), .un .not (.t 122), (some (119, true)), 0, 1125899906842623⟩,
  ⟨(some 124), .pick (.t 119) (.t 123) (.c (.bool false)), none, 0, 2251799813685247⟩,
  ⟨(some 125), .move (.t 124), none, 0, 4503599627370495⟩,
  ⟨(some 126), .move (.t 0), (some (125, true)), 0, 9007199254740991⟩,
  ⟨(some 127), .move (.t 1), (some (125, true)), 0, 9007199254740991⟩,
  ⟨(some 128), .call (.c (.fn 22 [] [])) [(.t 126), (.t 127)], (some (125, true)), 0, 36028797018963967⟩,
  ⟨(some 129), .un .not (.t 128), (some (125, true)), 0, 72057594037927935⟩,
  ⟨(some 130), .pick (.t 125) (.t 129) (.c (.bool false)), none, 0, 144115188075855871⟩,
  ⟨(some 131), .move (.t 130), none, 0, 288230376151711743⟩,
  ⟨(some 132), .move (.t 0), (some (131, true)), 0, 576460752303423487⟩,
  ⟨(some 133), .call (.c (.fn 23 [] [])) [(.t 132)], (some (131, true)), 0, 1152921504606846975⟩,
  ⟨(some 134), .bin .eql (.t 133) (.c (.int .i64 0)), (some (131, true)), 0, 2305843009213693951⟩,
  ⟨(some 135), .pick (.t 131) (.t 134) (.c (.bool false)), none, 0, 4611686018427387903⟩,
  ⟨(some 136), .move (.t 135), none, 0, 9223372036854775807⟩,
  ⟨(some 137), .move (.t 0), (some (136, true)), 0, 18446744073709551615⟩,
  ⟨(some 138), .call (.c (.fn 24 [] [])) [(.t 137)], (some (136, true)), 0, 36893488147419103231⟩,
  ⟨(some 139), .len 1 (.t 138), (some (136, true)), 0, 73786976294838206463⟩,
  ⟨(some 140), .bin .eql (.t 139) (.c (.int .i64 0)), (some (136, true)), 0, 147573952589676412927⟩,
  ⟨(some 141), .pick (.t 136) (.t 140) (.c (.bool false)), none, 0, 295147905179352825855⟩,
  ⟨(some 142), .move (.t 141), none, 0, 590295810358705651711⟩,
  ⟨(some 143), .move (.t 0), (some (142, true)), 0, 1180591620717411303423⟩,
  ⟨(some 144), .call (.c (.fn 25 [] [])) [(.t 143)], (some (142, true)), 0, 2361183241434822606847⟩,
  ⟨(some 145), .eq false .ptr (.t 144) (.c .nilp), (some (142, true)), 0, 4722366482869645213695⟩,
  ⟨(some 146), .pick (.t 142) (.t 145) (.c (.bool false)), none, 0, 9444732965739290427391⟩,
  ⟨(some 8), .move (.t 146), none, 0, 18889465931478580854783⟩]
def f5c : ACode :=
  .seq (.region false f5r0 [0, 1, 2, 3] 0)
  (.seq (.region false f5r1 [0, 1, 2, 3, 10] 0)
  (.seq (.region false f5r2 [0, 1, 2, 3, 10, 12] 0)
  (.seq (.region false f5r3 [0, 1, 2, 3, 10, 12, 14] 0)
  (.seq (.region false f5r4 [0, 1, 2, 3, 10, 12, 14, 16] 0)
  (.seq (.region false f5r5 [0, 1, 2, 3, 10, 12, 14, 16, 18] 0)
  (.seq (.region false f5r6 [0, 1, 2, 3, 10, 12, 14, 16, 18, 20] 0)
  (.seq (.region false f5r7 [0, 1, 3, 10, 12, 14, 16, 18, 20, 21, 22] 0)
  (.seq (.region false f5r8 [0, 1, 3, 10, 12, 14, 16, 18, 20, 21, 22, 23, 24] 1)
  (.seq (.region false f5r9 [8] 0)
  (.ret))))))))))
def f5 : AFn := ⟨4, 147, [.tmp 8], f5c, 1, none⟩
def f5k : List (Nat × List Nat) := [(0, [0, 1, 2, 3]), (1, [0, 1, 2, 3, 10]), (2, [0, 1, 2, 3, 10, 12]), (3, [0, 1, 2, 3, 10, 12, 14]), (4, [0, 1, 2, 3, 10, 12, 14, 16]), (5, [0, 1, 2, 3, 10, 12, 14, 16, 18]), (6, [0, 1, 2, 3, 10, 12, 14, 16, 18, 20]), (7, [0, 1, 3, 10, 12, 14, 16, 18, 20, 21, 22]), (8, [0, 1, 3, 10, 12, 14, 16, 18, 20, 21, 22, 23, 24]), (9, [8])]
def f5v : List Nat := []

/-! 6: mortise/mortiselaw03.heads, parameters [], results [4] -/
def f6r0 : List AOper := [
  ⟨(some 0), .move (.c (.bool false)), none, 0, 0⟩]
def f6r1 : List AOper := [
  ⟨(some 22), .call (.c (.fn 26 [] [])) [], none, 0, 0⟩,
  ⟨(some 1), .move (.t 22), none, 0, 1⟩]
def f6r2 : List AOper := [
  ⟨(some 24), .move (.t 1), none, 0, 0⟩,
  ⟨(some 25), .call (.c (.fn 13 [] [])) [(.t 24), (.c (.int .i64 7))], none, 0, 1⟩,
  ⟨(some 23), .move (.t 25), none, 0, 3⟩,
  ⟨(some 26), .extract (.t 23) 0, none, 0, 7⟩,
  ⟨(some 27), .extract (.t 23) 1, none, 0, 7⟩,
  ⟨(some 2), .move (.t 26), none, 0, 15⟩,
  ⟨(some 3), .move (.t 27), none, 0, 63⟩]
def f6r3 : List AOper := [
  ⟨(some 29), .move (.t 1), none, 0, 0⟩,
  ⟨(some 30), .move (.t 2), none, 0, 0⟩,
  ⟨(some 31), .call (.c (.fn 14 [] [])) [(.t 29), (.t 30), (.c (.int .i64 3))], none, 0, 3⟩,
  ⟨(some 28), .move (.t 31), none, 0, 7⟩,
  ⟨(some 32), .extract (.t 28) 0, none, 0, 15⟩,
  ⟨(some 33), .extract (.t 28) 1, none, 0, 15⟩,
  ⟨(some 4), .move (.t 32), none, 0, 31⟩,
  ⟨(some 5), .move (.t 33), none, 0, 127⟩]
def f6r4 : List AOper := [
  ⟨(some 35), .move (.t 1), none, 0, 0⟩,
  ⟨(some 36), .move (.t 4), none, 0, 0⟩,
  ⟨(some 37), .call (.c (.fn 13 [] [])) [(.t 35), (.t 36)], none, 0, 3⟩,
  ⟨(some 34), .move (.t 37), none, 0, 7⟩,
  ⟨(some 38), .extract (.t 34) 0, none, 0, 15⟩,
  ⟨(some 39), .extract (.t 34) 1, none, 0, 15⟩,
  ⟨(some 6), .move (.t 38), none, 0, 31⟩,
  ⟨(some 7), .move (.t 39), none, 0, 127⟩]
def f6r5 : List AOper := [
  ⟨(some 41), .move (.t 1), none, 0, 0⟩,
  ⟨(some 42), .move (.t 4), none, 0, 0⟩,
  ⟨(some 43), .call (.c (.fn 17 [] [])) [(.t 41), (.t 42), (.c (.str [97]))], none, 0, 3⟩,
  ⟨(some 40), .move (.t 43), none, 0, 7⟩,
  ⟨(some 44), .extract (.t 40) 0, none, 0, 15⟩,
  ⟨(some 45), .extract (.t 40) 1, none, 0, 15⟩,
  ⟨(some 8), .move (.t 44), none, 0, 31⟩,
  ⟨(some 9), .move (.t 45), none, 0, 127⟩]
def f6r6 : List AOper := [
  ⟨(some 47), .move (.t 1), none, 0, 0⟩,
  ⟨(some 48), .move (.t 6), none, 0, 0⟩,
  ⟨(some 49), .call (.c (.fn 17 [] [])) [(.t 47), (.t 48), (.c (.str []))], none, 0, 3⟩,
  ⟨(some 46), .move (.t 49), none, 0, 7⟩,
  ⟨(some 50), .extract (.t 46) 0, none, 0, 15⟩,
  ⟨(some 51), .extract (.t 46) 1, none, 0, 15⟩,
  ⟨(some 10), .move (.t 50), none, 0, 31⟩,
  ⟨(some 11), .move (.t 51), none, 0, 127⟩]
def f6r7 : List AOper := [
  ⟨(some 53), .move (.t 1), none, 0, 0⟩,
  ⟨(some 54), .call (.c (.fn 14 [] [])) [(.t 53), (.c (.int .i64 0)), (.c (.int .i64 3))], none, 0, 1⟩,
  ⟨(some 52), .move (.t 54), none, 0, 3⟩,
  ⟨(some 55), .extract (.t 52) 0, none, 0, 7⟩,
  ⟨(some 56), .extract (.t 52) 1, none, 0, 7⟩,
  ⟨(some 12), .move (.t 55), none, 0, 15⟩,
  ⟨(some 13), .move (.t 56), none, 0, 63⟩]
def f6r8 : List AOper := [
  ⟨(some 58), .move (.t 1), none, 0, 0⟩,
  ⟨(some 59), .call (.c (.fn 15 [] [])) [(.t 58), (.c (.str [49]))], none, 0, 1⟩,
  ⟨(some 57), .move (.t 59), none, 0, 3⟩,
  ⟨(some 60), .extract (.t 57) 0, none, 0, 7⟩,
  ⟨(some 61), .extract (.t 57) 1, none, 0, 7⟩,
  ⟨(some 14), .move (.t 60), none, 0, 15⟩,
  ⟨(some 15), .move (.t 61), none, 0, 63⟩]
def f6r9 : List AOper := [
  ⟨(some 63), .move (.t 1), none, 0, 0⟩,
  ⟨(some 64), .call (.c (.fn 15 [] [])) [(.t 63), (.c (.str [83]))], none, 0, 1⟩,
  ⟨(some 62), .move (.t 64), none, 0, 3⟩,
  ⟨(some 65), .extract (.t 62) 0, none, 0, 7⟩,
  ⟨(some 66), .extract (.t 62) 1, none, 0, 7⟩,
  ⟨(some 16), .move (.t 65), none, 0, 15⟩,
  ⟨(some 17), .move (.t 66), none, 0, 63⟩]
def f6r10 : List AOper := [
  ⟨(some 68), .move (.t 1), none, 0, 0⟩,
  ⟨(some 69), .move (.t 16), none, 0, 0⟩,
  ⟨(some 70), .call (.c (.fn 13 [] [])) [(.t 68), (.t 69)], none, 0, 3⟩,
  ⟨(some 67), .move (.t 70), none, 0, 7⟩,
  ⟨(some 71), .extract (.t 67) 0, none, 0, 15⟩,
  ⟨(some 72), .extract (.t 67) 1, none, 0, 15⟩,
  ⟨(some 18), .move (.t 71), none, 0, 31⟩,
  ⟨(some 19), .move (.t 72), none, 0, 127⟩]
def f6r11 : List AOper := [
  ⟨(some 73), .move (.t 1), none, 0, 0⟩,
  ⟨(some 74), .move (.t 16), none, 0, 0⟩,
  ⟨(some 75), .move (.t 16), none, 0, 0⟩,
  ⟨(some 76), .build [(.str []), (.int .i64 0), (.int .i64 0)] [(0, 1, (.c (.str [115]))), (1, 1, (.t 75)), (2, 1, (.c (.int .i64 (-1))))], none, 0, 4⟩,
  ⟨(some 77), .buildSlice true 3 1 [(.str []), (.int .i64 0), (.int .i64 0)] [(0, 3, (.t 76))], none, 0, 12⟩,
  ⟨(some 78), .call (.c (.fn 19 [] [])) [(.t 73), (.t 74), (.t 77)], none, 0, 31⟩,
  ⟨(some 20), .move (.t 78), none, 0, 63⟩]
def f6r12 : List AOper := [
  ⟨(some 79), .move (.t 1), none, 0, 0⟩,
  ⟨(some 80), .move (.t 16), none, 0, 0⟩,
  ⟨(some 81), .move (.t 18), none, 0, 0⟩,
  ⟨(some 82), .build [(.str []), (.int .i64 0), (.int .i64 0)] [(0, 1, (.c (.str [112]))), (1, 1, (.t 81)), (2, 1, (.c (.int .i64 (-1))))], none, 0, 4⟩,
  ⟨(some 83), .build [(.str []), (.int .i64 0), (.int .i64 0)] [(0, 1, (.c (.str [98]))), (1, 1, (.c (.int .i64 7))), (2, 1, (.c (.int .i64 3)))], none, 0, 0⟩,
  ⟨(some 84), .buildSlice true 3 2 [(.str []), (.int .i64 0), (.int .i64 0), (.str []), (.int .i64 0), (.int .i64 0)] [(0, 3, (.t 82)), (3, 3, (.t 83))], none, 0, 28⟩,
  ⟨(some 85), .call (.c (.fn 19 [] [])) [(.t 79), (.t 80), (.t 84)], none, 0, 63⟩,
  ⟨(some 21), .move (.t 85), none, 0, 127⟩]
def f6r13 : List AOper := [
  ⟨(some 86), .move (.t 3), none, 0, 0⟩,
  ⟨(some 87), .bin .eql (.t 86) (.c (.int .i64 0)), none, 0, 1⟩,
  ⟨(some 88), .move (.t 87), none, 0, 3⟩,
  ⟨(some 89), .move (.t 5), (some (88, true)), 0, 7⟩,
  ⟨(some 90), .bin .eql (.t 89) (.c (.int .i64 0)), (some (88, true)), 0, 15⟩,
  ⟨(some 91), .pick (.t 88) (.t 90) (.c (.bool false)), none, 0, 31⟩,
  ⟨(some 92), .move (.t 91), none, 0, 63⟩,
  ⟨(some 93), .move (.t 7), (some (92, true)), 0, 127⟩,
  ⟨(some 94), .bin .eql (.t 93) (.c (.int .i64 0)), (some (92, true)), 0, 255⟩,
  ⟨(some 95), .pick (.t 92) (.t 94) (.c (.bool false)), none, 0, 511⟩,
  ⟨(some 96), .move (.t 95), none, 0, 1023⟩,
  ⟨(some 97), .move (.t 9), (some (96, true)), 0, 2047⟩,
  ⟨(some 98), .bin .eql (.t 97) (.c (.int .i64 0)), (some (96, true)), 0, 4095⟩,
  ⟨(some 99), .pick (.t 96) (.t 98) (.c (.bool false)), none, 0, 8191⟩,
  ⟨(some 100), .move (.t 99), none, 0, 16383⟩,
  ⟨(some 101), .move (.t 11), (some (100, true)), 0, 32767⟩,
  ⟨(some 102), .bin .eql (.t 101) (.c (.int .i64 0)), (some (100, true)), 0, 65535⟩,
  ⟨(some 103), .pick (.t 100) (.t 102) (.c (.bool false)), none, 0, 131071⟩,
  ⟨(some 104), .move (.t 103), none, 0, 262143⟩,
  ⟨(some 105), .move (.t 2), (some (104, true)), 0, 524287⟩,
  ⟨(some 106), .bin .eql (.t 105) (.c (.int .i64 11)), (some (104, true)), 0, 1048575⟩,
  ⟨(some 107), .pick (.t 104) (.t 106) (.c (.bool false)), none, 0, 2097151⟩,
  ⟨(some 108), .move (.t 107), none, 0, 4194303⟩,
  ⟨(some 109), .move (.t 8), (some (108, true)), 0, 8388607⟩,
  ⟨(some 110), .bin .eql (.t 109) (.c (.str [105, 110, 116, 32, 42, 97, 91, 51, 93])), (some (108, true)), 0, 16777215⟩,
  ⟨(some 111), .pick (.t 108) (.t 110) (.c (.bool false)), none, 0, 33554431⟩,
  ⟨(some 112), .move (.t 111), none, 0, 67108863⟩,
  ⟨(some 113), .move (.t 10), (some (112, true)), 0, 134217727⟩,
  ⟨(some 114), .bin .eql (.t 113) (.c (.str [105, 110, 116, 32, 42, 40, 42, 41, 91, 51, 93])), (some (112, true)), 0, 268435455⟩,
  ⟨(some 115), .pick (.t 112) (.t 114) (.c (.bool false)), none, 0, 536870911⟩,
  ⟨(some 116), .move (.t 115), none, 0, 1073741823⟩,
  ⟨(some 117), .move (.t 13), (some (116, true)), 0, 2147483647⟩,
  ⟨(some 118), .bin .eql (.t 117) (.c (.int .i64 50)), (some (116, true)), 0, 4294967295⟩,
  ⟨(some 119), .pick (.t 116) (.t 118) (.c (.bool false)), none, 0, 8589934591⟩,
  ⟨(some 120), .move (.t 119), none, 0, 17179869183⟩,
  ⟨(some 121), .move (.t 15), (some (120, true)), 0, 34359738367⟩,
  ⟨(some 122), .bin .eql (.t 121) (.c (.int .i64 31)), (some (120, true)), 0, 68719476735⟩,
  ⟨(some 123), .pick (.t 120) (.t 122) (.c (.bool false)), none, 0, 137438953471⟩,
  ⟨(some 124), .move (.t 123), none, 0, 274877906943⟩,
  ⟨(some 125), .move (.t 17), (some (124, true)), 0, 549755813887⟩,
  ⟨(some 126), .bin .eql (.t 125) (.c (.int .i64 0)), (some (124, true)), 0, 1099511627775⟩,
  ⟨(some 127), .pick (.t 124) (.t 126) (.c (.bool false)), none, 0, 2199023255551⟩,
  ⟨(some 128), .move (.t 127), none, 0, 4398046511103⟩,
  ⟨(some 129), .move (.t 19), (some (128, true)), 0, 8796093022207⟩,
  ⟨(some 130), .bin .eql (.t 129) (.c (.int .i64 0)), (some (128, true)), 0, 17592186044415⟩,
  ⟨(some 131), .pick (.t 128) (.t 130) (.c (.bool false)), none, 0, 35184372088831⟩,
  ⟨(some 132), .move (.t 131), none, 0, 70368744177663⟩,
  ⟨(some 133), .move (.t 20), (some (132, true)), 0, 140737488355327⟩,
  ⟨(some 134), .bin .eql (.t 133) (.c (.int .i64 50)), (some (132, true)), 0, 281474976710655⟩,
  ⟨(some 135), .pick (.t 132) (.t 134) (.c (.bool false)), none, 0, 562949953421311⟩,
  ⟨(some 136), .move (.t 135), none, 0, 1125899906842623⟩,
  ⟨(some 137), .move (.t 21), (some (136, true)), 0, 2251799813685247⟩,
  ⟨(some 138), .bin .eql (.t 137) (.c (.int .i64 0)), (some (136, true)), 0, 4503599627370495⟩,
  ⟨(some 139), .pick (.t 136) (.t 138) (.c (.bool false)), none, 0, 9007199254740991⟩,
  ⟨(some 140), .move (.t 139), none, 0, 18014398509481983⟩,
  ⟨(some 141), .move (.t 1), (some (140, true)), 0, 36028797018963967⟩,
  ⟨(some 142), .move (.t 16), (some (140, true)), 0, 36028797018963967⟩,
  ⟨(some 143), .call (.c (.fn 21 [] [])) [(.t 141), (.t 142)], (some (140, true)), 0, 144115188075855871⟩,
  ⟨(some 144), .pick (.t 140) (.t 143) (.c (.bool false)), none, 0, 288230376151711743⟩,
  ⟨(some 145), .move (.t 144), none, 0, 576460752303423487⟩,
  ⟨(some 146), .move (.t 1), (some (145, true)), 0, 1152921504606846975⟩,
  ⟨(some 147), .move (.t 16), (some (145, true)), 0, 1152921504606846975⟩,
  ⟨(some 148), .call (.c (.fn 22 [] [])) [(.t 146), (.t 147)], (some (145, true)), 0, 4611686018427387903⟩,
  ⟨(some 149), .un .not (.t 148), (some (145, true)), 0, 9223372036854775807⟩,
  ⟨(some 150), .pick (.t 145) (.t 149) (.c (.bool false)), none, 0, 18446744073709551615⟩,
  ⟨(some 151), .move (.t 150), none, 0, 36893488147419103231⟩,
  ⟨(some 152), .move (.t 1), (some (151, true)), 0, 73786976294838206463⟩,
  ⟨(some 153), .call (.c (.fn 23 [] [])) [(.t 152)], (some (151, true)), 0, 147573952589676412927⟩,
  ⟨(some 154), .bin .eql (.t 153) (.c (.int .i64 16)), (some (151, true)), 0, 295147905179352825855⟩,
  ⟨(some 155), .pick (.t 151) (.t 154) (.c (.bool false)), none, 0, 590295810358705651711⟩,
  ⟨(some 0), .move (.t 155), none, 0, 1180591620717411303423⟩]
def f6c : ACode :=
  .seq (.region false f6r0 [] 0)
  (.seq (.region false f6r1 [1] 0)
  (.seq (.region false f6r2 [1, 2, 3] 0)
  (.seq (.region false f6r3 [1, 2, 3, 4, 5] 0)
  (.seq (.region false f6r4 [1, 2, 3, 4, 5, 6, 7] 0)
  (.seq (.region false f6r5 [1, 2, 3, 5, 6, 7, 8, 9] 0)
  (.seq (.region false f6r6 [1, 2, 3, 5, 7, 8, 9, 10, 11] 0)
  (.seq (.region false f6r7 [1, 2, 3, 5, 7, 8, 9, 10, 11, 13] 0)
  (.seq (.region false f6r8 [1, 2, 3, 5, 7, 8, 9, 10, 11, 13, 15] 0)
  (.seq (.region false f6r9 [1, 2, 3, 5, 7, 8, 9, 10, 11, 13, 15, 16, 17] 0)
  (.seq (.region false f6r10 [1, 2, 3, 5, 7, 8, 9, 10, 11, 13, 15, 16, 17, 18, 19] 0)
  (.seq (.region false f6r11 [1, 2, 3, 5, 7, 8, 9, 10, 11, 13, 15, 16, 17, 18, 19, 20] 0)
  (.seq (.region false f6r12 [1, 2, 3, 5, 7, 8, 9, 10, 11, 13, 15, 16, 17, 19, 20, 21] 0)
  (.seq (.region false f6r13 [0] 0)
  (.ret))))))))))))))
def f6 : AFn := ⟨0, 156, [.tmp 0], f6c, 1, none⟩
def f6k : List (Nat × List Nat) := [(0, []), (1, [1]), (2, [1, 2, 3]), (3, [1, 2, 3, 4, 5]), (4, [1, 2, 3, 4, 5, 6, 7]), (5, [1, 2, 3, 5, 6, 7, 8, 9]), (6, [1, 2, 3, 5, 7, 8, 9, 10, 11]), (7, [1, 2, 3, 5, 7, 8, 9, 10, 11, 13]), (8, [1, 2, 3, 5, 7, 8, 9, 10, 11, 13, 15]), (9, [1, 2, 3, 5, 7, 8, 9, 10, 11, 13, 15, 16, 17]), (10, [1, 2, 3, 5, 7, 8, 9, 10, 11, 13, 15, 16, 17, 18, 19]), (11, [1, 2, 3, 5, 7, 8, 9, 10, 11, 13, 15, 16, 17, 18, 19, 20]), (12, [1, 2, 3, 5, 7, 8, 9, 10, 11, 13, 15, 16, 17, 19, 20, 21]), (13, [0])]
def f6v : List Nat := [84, 77]

/-! 7: (*mortise/mortiseref03.T).Copy, parameters [33], results [33] -/
def f7r0 : List AOper := [
  ⟨(some 2), .move (.c .nilp), none, 0, 0⟩]
def f7r1 : List AOper := [
  ⟨(some 5), .build [(.is [] .nil)] [], none, 0, 0⟩,
  ⟨(some 6), .box false (.t 5), none, 0, 1⟩,
  ⟨(some 3), .move (.t 6), none, 1, 3⟩]
def f7r2 : List AOper := [
  ⟨(some 4), .move (.c (.int .i64 0)), none, 0, 0⟩]
def f7r3 : List AOper := [
  ⟨(some 7), .move (.t 4), none, 0, 0⟩,
  ⟨(some 8), .move (.t 0), none, 0, 0⟩,
  ⟨(some 9), .nilCheck (.t 8), none, 0, 2⟩,
  ⟨(some 10), .fieldAddr 0 (.t 9), none, 0, 6⟩,
  ⟨(some 11), .load false 1 (.t 10), none, 0, 14⟩,
  ⟨(some 12), .len 1 (.t 11), none, 0, 30⟩,
  ⟨(some 13), .bin .lss (.t 7) (.t 12), none, 0, 63⟩]
def f7r4 : List AOper := [
  ⟨(some 16), .move (.t 3), none, 0, 0⟩,
  ⟨(some 17), .move (.t 3), none, 0, 0⟩,
  ⟨(some 18), .nilCheck (.t 17), none, 0, 2⟩,
  ⟨(some 19), .fieldAddr 0 (.t 18), none, 0, 6⟩,
  ⟨(some 20), .load false 1 (.t 19), none, 0, 14⟩,
  ⟨(some 21), .move (.t 0), none, 0, 0⟩,
  ⟨(some 22), .nilCheck (.t 21), none, 0, 32⟩,
  ⟨(some 23), .fieldAddr 0 (.t 22), none, 0, 96⟩,
  ⟨(some 24), .load false 1 (.t 23), none, 0, 224⟩,
  ⟨(some 25), .move (.t 4), none, 0, 0⟩,
  ⟨(some 26), .idxAddr 6 (.t 24) (.t 25), none, 0, 992⟩,
  ⟨(some 27), .load true 6 (.t 26), none, 0, 2016⟩,
  ⟨(some 28), .call (.c (.fn 27 [] [])) [(.t 27)], none, 0, 4064⟩,
  ⟨(some 29), .buildSlice true 6 1 [(.int .i64 0), (.int .i64 0), (.int .i64 0), (.str []), (.is [] .nil), (.bool false)] [(0, 6, (.t 28))], none, 0, 8160⟩,
  ⟨(some 30), .append true 6 72 (.t 20) (.t 29), none, 0, 16382⟩,
  ⟨(some 31), .nilCheck (.t 16), none, 1, 32767⟩,
  ⟨(some 32), .fieldAddr 0 (.t 31), none, 1, 65535⟩,
  ⟨none, .store 1 (.t 32) (.t 30), none, 1, 131071⟩]
def f7r5 : List AOper := [
  ⟨(some 14), .move (.t 4), none, 0, 0⟩,
  ⟨(some 15), .bin .add (.t 14) (.c (.int .i64 1)), none, 0, 1⟩,
  ⟨(some 4), .move (.t 15), none, 0, 3⟩]
def f7m3 : ACode :=
  .seq (.seq (.region false f7r3 [0, 3, 4, 13] 0)
  (.cond (.t 13)
    (.skip)
    (.exit 0)))
  (.seq (.block 1 (.region true f7r4 [0, 3, 4] 1))
  (.region false f7r5 [0, 3, 4] 0))
def f7l3 : ACode := f7m3
theorem f7l3_b {A : Tab} {nt : Nat} {e : Env} {h : Heap} : Brun A nt f7l3 e h = Brun A nt f7m3 e h := rfl
def f7r6 : List AOper := [
  ⟨(some 33), .move (.t 3), none, 0, 0⟩,
  ⟨(some 2), .move (.t 33), none, 0, 1⟩]
def f7c : ACode :=
  .seq (.region false f7r0 [0] 0)
  (.seq (.region false f7r1 [0, 3] 1)
  (.seq (.seq (.region false f7r2 [0, 3, 4] 0)
  (.block 0 (.loop f7l3)))
  (.seq (.region false f7r6 [2] 0)
  (.ret))))
def f7 : AFn := ⟨1, 34, [.tmp 2], f7c, 0, none⟩
def f7k : List (Nat × List Nat) := [(0, [0]), (1, [0, 3]), (2, [0, 3, 4]), (3, [0, 3, 4, 13]), (5, [0, 3, 4]), (4, [0, 3, 4]), (6, [2])]
def f7v : List Nat := [30, 29]

/-! 8: mortise/ctype.From, parameters [25], results [23, 35] -/
def f8r0 : List AOper := [
  ⟨(some 2), .move (.c .nilp), none, 0, 0⟩,
  ⟨(some 3), .move (.c (.int .i64 0)), none, 0, 1⟩]
def f8r1 : List AOper := [
  ⟨(some 15), .call (.c (.fn 26 [] [])) [], none, 0, 0⟩,
  ⟨(some 4), .move (.t 15), none, 0, 1⟩]
def f8r2 : List AOper := [
  ⟨(some 16), .move (.t 4), none, 0, 0⟩,
  ⟨(some 17), .nilCheck (.t 16), none, 0, 1⟩,
  ⟨(some 18), .fieldAddr 0 (.t 17), none, 0, 3⟩,
  ⟨(some 19), .load false 1 (.t 18), none, 0, 7⟩,
  ⟨(some 20), .len 1 (.t 19), none, 0, 15⟩,
  ⟨(some 5), .move (.t 20), none, 0, 31⟩]
def f8r3 : List AOper := [
  ⟨(some 21), .move (.t 0), none, 0, 0⟩,
  ⟨(some 22), .len 1 (.t 21), none, 0, 1⟩,
  ⟨(some 23), .move (.t 5), none, 0, 0⟩,
  ⟨(some 24), .bin .lss (.t 22) (.t 23), none, 0, 7⟩,
  ⟨(some 25), .move (.t 24), none, 0, 15⟩,
  ⟨(some 26), .move (.t 0), (some (25, false)), 0, 31⟩,
  ⟨(some 27), .len 1 (.t 26), (some (25, false)), 0, 63⟩,
  ⟨(some 28), .bin .gtr (.t 27) (.c (.int .i64 512)), (some (25, false)), 0, 127⟩,
  ⟨(some 29), .pick (.t 25) (.c (.bool true)) (.t 28), none, 0, 255⟩]
def f8r4 : List AOper := [
  ⟨(some 2), .move (.c .nilp), none, 0, 0⟩,
  ⟨(some 3), .move (.c (.int .i64 30)), none, 0, 1⟩]
def f8r5 : List AOper := [
  ⟨(some 30), .move (.t 0), none, 0, 0⟩,
  ⟨(some 31), .len 1 (.t 30), none, 0, 1⟩,
  ⟨(some 32), .move (.c (.int .i64 0)), none, 0, 0⟩]
def f8r6 : List AOper := [
  ⟨(some 33), .bin .lss (.t 32) (.t 31), none, 0, 0⟩]
def f8r7 : List AOper := [
  ⟨(some 34), .move (.t 32), none, 0, 0⟩,
  ⟨(some 35), .idxAddr 6 (.t 30) (.t 32), none, 0, 0⟩,
  ⟨(some 36), .load true 6 (.t 35), none, 0, 2⟩,
  ⟨(some 7), .alloc false [(.int .i64 0), (.int .i64 0), (.int .i64 0), (.str []), (.is [] .nil), (.bool false)], none, 0, 0⟩,
  ⟨(some 6), .move (.t 34), none, 1, 15⟩,
  ⟨none, .store 6 (.t 7) (.t 36), none, 1, 31⟩]
def f8r8 : List AOper := [
  ⟨(some 37), .move (.t 6), none, 0, 0⟩,
  ⟨(some 38), .move (.t 5), none, 0, 0⟩,
  ⟨(some 39), .bin .lss (.t 37) (.t 38), none, 0, 3⟩]
def f8q9 : List AOper := [
  ⟨(some 40), .fieldAddr 0 (.t 7), none, 0, 0⟩,
  ⟨(some 41), .load false 1 (.t 40), none, 0, 1⟩,
  ⟨(some 42), .move (.t 4), none, 0, 0⟩,
  ⟨(some 43), .nilCheck (.t 42), none, 0, 4⟩,
  ⟨(some 44), .fieldAddr 0 (.t 43), none, 0, 12⟩,
  ⟨(some 45), .load false 1 (.t 44), none, 0, 28⟩,
  ⟨(some 46), .move (.t 6), none, 0, 0⟩,
  ⟨(some 47), .idxAddr 6 (.t 45) (.t 46), none, 0, 124⟩,
  ⟨(some 48), .fieldAddr 0 (.t 47), none, 0, 252⟩,
  ⟨(some 49), .load false 1 (.t 48), none, 0, 508⟩,
  ⟨(some 50), .bin .neq (.t 41) (.t 49), none, 0, 1023⟩,
  ⟨(some 51), .move (.t 50), none, 0, 2047⟩,
  ⟨(some 52), .fieldAddr 1 (.t 7), (some (51, false)), 0, 4095⟩,
  ⟨(some 53), .load false 1 (.t 52), (some (51, false)), 0, 8191⟩,
  ⟨(some 54), .bin .neq (.t 53) (.c (.int .i64 0)), (some (51, false)), 0, 16383⟩,
  ⟨(some 55), .pick (.t 51) (.c (.bool true)) (.t 54), none, 0, 32767⟩,
  ⟨(some 56), .move (.t 55), none, 0, 65535⟩,
  ⟨(some 57), .fieldAddr 2 (.t 7), (some (56, false)), 0, 131071⟩,
  ⟨(some 58), .load false 1 (.t 57), (some (56, false)), 0, 262143⟩,
  ⟨(some 59), .bin .neq (.t 58) (.c (.int .i64 0)), (some (56, false)), 0, 524287⟩,
  ⟨(some 60), .pick (.t 56) (.c (.bool true)) (.t 59), none, 0, 1048575⟩,
  ⟨(some 61), .move (.t 60), none, 0, 2097151⟩,
  ⟨(some 62), .fieldAddr 3 (.t 7), (some (61, false)), 0, 4194303⟩,
  ⟨(some 63), .load false 1 (.t 62), (some (61, false)), 0, 8388607⟩,
  ⟨(some 64), .bin .neq (.t 63) (.c (.str [])), (some (61, false)), 0, 16777215⟩,
  ⟨(some 65), .pick (.t 61) (.c (.bool true)) (.t 64), none, 0, 33554431⟩,
  ⟨(some 66), .move (.t 65), none, 0, 67108863⟩,
  ⟨(some 67), .fieldAddr 4 (.t 7), (some (66, false)), 0, 134217727⟩,
  ⟨(some 68), .load false 1 (.t 67), (some (66, false)), 0, 268435455⟩,
  ⟨(some 69), .len 1 (.t 68), (some (66, false)), 0, 536870911⟩,
  ⟨(some 70), .bin .gtr (.t 69) (.c (.int .i64 0)), (some (66, false)), 0, 1073741823⟩,
  ⟨(some 71), .pick (.t 66) (.c (.bool true)) (.t 70), none, 0, 2147483647⟩,
  ⟨(some 72), .move (.t 71), none, 0, 4294967295⟩,
  ⟨(some 73), .fieldAddr 5 (.t 7), (some (72, false)), 0, 8589934591⟩,
  ⟨(some 74), .load false 1 (.t 73), (some (72, false)), 0, 17179869183⟩,
  ⟨(some 75), .pick (.t 72) (.c (.bool true)) (.t 74), none, 0, 34359738367⟩]
def f8r9 : List AOper := f8q9
def f8r10 : List AOper := [
  ⟨(some 2), .move (.c .nilp), none, 0, 0⟩,
  ⟨(some 3), .move (.c (.int .i64 30)), none, 0, 1⟩]
def f8r11 : List AOper := [
  ⟨(some 76), .move (.t 4), none, 0, 0⟩,
  ⟨(some 77), .move (.t 4), none, 0, 0⟩,
  ⟨(some 78), .nilCheck (.t 77), none, 0, 2⟩,
  ⟨(some 79), .fieldAddr 0 (.t 78), none, 0, 6⟩,
  ⟨(some 80), .load false 1 (.t 79), none, 0, 14⟩,
  ⟨(some 81), .load true 6 (.t 7), none, 0, 0⟩,
  ⟨(some 82), .call (.c (.fn 28 [] [])) [(.t 81)], none, 0, 32⟩,
  ⟨(some 83), .buildSlice false 6 1 [(.int .i64 0), (.int .i64 0), (.int .i64 0), (.str []), (.is [] .nil), (.bool false)] [(0, 6, (.t 82))], none, 0, 96⟩,
  ⟨(some 84), .append false 6 72 (.t 80) (.t 83), none, 1, 254⟩,
  ⟨(some 85), .nilCheck (.t 76), none, 2, 511⟩,
  ⟨(some 86), .fieldAddr 0 (.t 85), none, 2, 1023⟩,
  ⟨none, .store 1 (.t 86) (.t 84), none, 2, 2047⟩]
def f8r12 : List AOper := [
  ⟨(some 87), .move (.t 4), none, 0, 0⟩,
  ⟨(some 88), .move (.t 6), none, 0, 0⟩,
  ⟨(some 89), .call (.c (.fn 29 [] [])) [(.t 87), (.t 88)], none, 0, 3⟩,
  ⟨(some 90), .un .not (.t 89), none, 0, 7⟩]
def f8r13 : List AOper := [
  ⟨(some 2), .move (.c .nilp), none, 0, 0⟩,
  ⟨(some 3), .move (.c (.int .i64 30)), none, 0, 1⟩]
def f8r14 : List AOper := [
  ⟨(some 91), .fieldAddr 0 (.t 7), none, 0, 0⟩,
  ⟨(some 92), .load false 1 (.t 91), none, 0, 1⟩,
  ⟨(some 93), .bin .eql (.t 92) (.c (.int .i64 13)), none, 0, 3⟩,
  ⟨(some 94), .move (.t 93), none, 0, 7⟩,
  ⟨(some 95), .fieldAddr 0 (.t 7), (some (94, false)), 0, 15⟩,
  ⟨(some 96), .load false 1 (.t 95), (some (94, false)), 0, 31⟩,
  ⟨(some 97), .bin .eql (.t 96) (.c (.int .i64 14)), (some (94, false)), 0, 63⟩,
  ⟨(some 98), .pick (.t 94) (.c (.bool true)) (.t 97), none, 0, 127⟩]
def f8r15 : List AOper := [
  ⟨(some 99), .fieldAddr 0 (.t 7), none, 0, 0⟩,
  ⟨(some 100), .load false 1 (.t 99), none, 0, 1⟩,
  ⟨(some 101), .fieldAddr 1 (.t 7), none, 0, 0⟩,
  ⟨(some 102), .load false 1 (.t 101), none, 0, 4⟩,
  ⟨(some 103), .fieldAddr 2 (.t 7), none, 0, 0⟩,
  ⟨(some 104), .load false 1 (.t 103), none, 0, 16⟩,
  ⟨(some 105), .build [(.int .i64 0), (.int .i64 0), (.int .i64 0)] [(0, 1, (.t 100)), (1, 1, (.t 102)), (2, 1, (.t 104))], none, 0, 63⟩,
  ⟨(some 8), .alloc false [(.int .i64 0), (.int .i64 0), (.int .i64 0)], none, 0, 0⟩,
  ⟨none, .store 3 (.t 8) (.t 105), none, 1, 255⟩]
def f8q16 : List AOper := [
  ⟨(some 107), .move (.t 4), none, 0, 0⟩,
  ⟨(some 108), .nilCheck (.t 107), none, 0, 1⟩,
  ⟨(some 109), .fieldAddr 1 (.t 108), none, 0, 3⟩,
  ⟨(some 110), .load false 1 (.t 109), none, 0, 7⟩,
  ⟨(some 111), .load true 3 (.t 8), none, 0, 0⟩,
  ⟨(some 112), .lookup true [.int .i64, .int .i64, .int .i64] (.int .i64 0) true (.t 110) (.t 111), none, 0, 31⟩,
  ⟨(some 106), .move (.t 112), none, 0, 63⟩,
  ⟨(some 113), .extract (.t 106) 0, none, 0, 127⟩,
  ⟨(some 114), .extract (.t 106) 1, none, 0, 127⟩,
  ⟨(some 9), .move (.t 113), none, 0, 255⟩,
  ⟨(some 10), .move (.t 114), none, 0, 1023⟩]
def f8r16 : List AOper := f8q16
def f8r17 : List AOper := [
  ⟨(some 115), .move (.t 10), none, 0, 0⟩]
def f8r18 : List AOper := [
  ⟨(some 2), .move (.c .nilp), none, 0, 0⟩,
  ⟨(some 3), .move (.c (.int .i64 30)), none, 0, 1⟩]
def f8q19 : List AOper := [
  ⟨(some 116), .move (.t 4), none, 0, 0⟩,
  ⟨(some 117), .nilCheck (.t 116), none, 0, 1⟩,
  ⟨(some 118), .fieldAddr 1 (.t 117), none, 0, 3⟩,
  ⟨(some 119), .load false 1 (.t 118), none, 0, 7⟩,
  ⟨(some 120), .load true 3 (.t 8), none, 0, 0⟩,
  ⟨(some 121), .move (.t 6), none, 0, 0⟩,
  ⟨none, .mapUpdate true [.int .i64, .int .i64, .int .i64] (.t 119) (.t 120) (.t 121), none, 0, 63⟩]
def f8r19 : List AOper := f8q19
def f8r20 : List AOper := [
  ⟨(some 122), .bin .add (.t 32) (.c (.int .i64 1)), none, 0, 0⟩,
  ⟨(some 32), .move (.t 122), none, 0, 1⟩]
def f8m6 : ACode :=
  .seq (.region false f8r6 [0, 4, 5, 30, 31, 32, 33] 0)
  (.seq (.cond (.t 33)
    (.skip)
    (.exit 0))
  (.seq (.block 1 (.seq (.region false f8r7 [0, 4, 5, 6, 7, 30, 31, 32] 1)
    (.seq (.seq (.region false f8r8 [0, 4, 5, 6, 7, 30, 31, 32, 39] 0)
    (.cond (.t 39)
      (.seq (.seq (.region true f8r9 [0, 4, 5, 30, 31, 32, 75] 0)
      (.cond (.t 75)
        (.seq (.region false f8r10 [2, 3] 0)
        (.ret))
        (.skip)))
      (.exit 1))
      (.skip)))
    (.seq (.region true f8r11 [0, 4, 5, 6, 7, 30, 31, 32] 2)
    (.seq (.seq (.region false f8r12 [0, 4, 5, 6, 7, 30, 31, 32, 90] 0)
    (.cond (.t 90)
      (.seq (.region false f8r13 [2, 3] 0)
      (.ret))
      (.skip)))
    (.seq (.region false f8r14 [0, 4, 5, 6, 7, 30, 31, 32, 98] 0)
    (.cond (.t 98)
      (.seq (.region false f8r15 [0, 4, 5, 6, 8, 30, 31, 32] 1)
      (.seq (.seq (.region true f8r16 [0, 4, 5, 6, 8, 10, 30, 31, 32] 0)
      (.seq (.region false f8r17 [0, 4, 5, 6, 8, 30, 31, 32, 115] 0)
      (.cond (.t 115)
        (.seq (.region false f8r18 [2, 3] 0)
        (.ret))
        (.skip))))
      (.region true f8r19 [0, 4, 5, 30, 31, 32] 0)))
      (.skip))))))))
  (.region false f8r20 [0, 4, 5, 30, 31, 32] 0)))
def f8l6 : ACode := f8m6
theorem f8l6_b {A : Tab} {nt : Nat} {e : Env} {h : Heap} : Brun A nt f8l6 e h = Brun A nt f8m6 e h := rfl
def f8r21 : List AOper := [
  ⟨(some 123), .move (.t 0), none, 0, 0⟩,
  ⟨(some 124), .len 1 (.t 123), none, 0, 1⟩,
  ⟨(some 125), .mkSlice false 1 8 [(.int .i64 0)] (.t 124) (.t 124), none, 0, 3⟩,
  ⟨(some 11), .move (.t 125), none, 1, 7⟩]
def f8r22 : List AOper := [
  ⟨(some 126), .move (.t 4), none, 0, 0⟩,
  ⟨(some 127), .nilCheck (.t 126), none, 0, 1⟩,
  ⟨(some 128), .fieldAddr 0 (.t 127), none, 0, 3⟩,
  ⟨(some 129), .load false 1 (.t 128), none, 0, 7⟩,
  ⟨(some 130), .len 1 (.t 129), none, 0, 15⟩,
  ⟨(some 131), .move (.c (.int .i64 0)), none, 0, 0⟩]
def f8r23 : List AOper := [
  ⟨(some 132), .bin .lss (.t 131) (.t 130), none, 0, 0⟩]
def f8r24 : List AOper := [
  ⟨(some 133), .idxAddr 6 (.t 129) (.t 131), none, 0, 0⟩,
  ⟨(some 134), .load true 6 (.t 133), none, 0, 1⟩,
  ⟨(some 13), .alloc false [(.int .i64 0), (.int .i64 0), (.int .i64 0), (.str []), (.is [] .nil), (.bool false)], none, 0, 0⟩,
  ⟨none, .store 6 (.t 13) (.t 134), none, 1, 7⟩]
def f8r25 : List AOper := [
  ⟨(some 135), .fieldAddr 0 (.t 13), none, 0, 0⟩,
  ⟨(some 136), .load false 1 (.t 135), none, 0, 1⟩,
  ⟨(some 137), .bin .eql (.t 136) (.c (.int .i64 14)), none, 0, 3⟩,
  ⟨(some 138), .move (.t 137), none, 0, 7⟩,
  ⟨(some 139), .move (.t 4), (some (138, true)), 0, 15⟩,
  ⟨(some 140), .fieldAddr 1 (.t 13), (some (138, true)), 0, 15⟩,
  ⟨(some 141), .load false 1 (.t 140), (some (138, true)), 0, 47⟩,
  ⟨(some 142), .call (.c (.fn 21 [] [])) [(.t 139), (.t 141)], (some (138, true)), 0, 127⟩,
  ⟨(some 143), .un .not (.t 142), (some (138, true)), 0, 255⟩,
  ⟨(some 144), .pick (.t 138) (.t 143) (.c (.bool false)), none, 0, 511⟩,
  ⟨(some 145), .move (.t 144), none, 0, 1023⟩,
  ⟨(some 146), .fieldAddr 5 (.t 13), (some (145, false)), 0, 2047⟩,
  ⟨(some 147), .load false 1 (.t 146), (some (145, false)), 0, 4095⟩,
  ⟨(some 148), .move (.t 147), (some (145, false)), 0, 8191⟩,
  ⟨(some 149), .move (.t 4), (some (148, true)), 0, 16383⟩,
  ⟨(some 150), .fieldAddr 4 (.t 13), (some (148, true)), 0, 16383⟩,
  ⟨(some 151), .load false 1 (.t 150), (some (148, true)), 0, 49151⟩,
  ⟨(some 152), .call (.c (.fn 30 [] [])) [(.t 149), (.t 151)], (some (148, true)), 0, 131071⟩,
  ⟨(some 153), .bin .neq (.t 152) (.c (.int .i64 0)), (some (148, true)), 0, 262143⟩,
  ⟨(some 154), .pick (.t 148) (.t 153) (.c (.bool false)), (some (145, false)), 0, 524287⟩,
  ⟨(some 155), .pick (.t 145) (.c (.bool true)) (.t 154), none, 0, 1048575⟩]
def f8r26 : List AOper := [
  ⟨(some 2), .move (.c .nilp), none, 0, 0⟩,
  ⟨(some 3), .move (.c (.int .i64 30)), none, 0, 1⟩]
def f8r27 : List AOper := [
  ⟨(some 156), .bin .add (.t 131) (.c (.int .i64 1)), none, 0, 0⟩,
  ⟨(some 131), .move (.t 156), none, 0, 1⟩]
def f8m23 : ACode :=
  .seq (.region false f8r23 [4, 11, 129, 130, 131, 132] 0)
  (.seq (.cond (.t 132)
    (.skip)
    (.exit 2))
  (.seq (.block 3 (.seq (.region false f8r24 [4, 11, 13, 129, 130, 131] 1)
    (.seq (.region false f8r25 [4, 11, 129, 130, 131, 155] 0)
    (.cond (.t 155)
      (.seq (.region false f8r26 [2, 3] 0)
      (.ret))
      (.skip)))))
  (.region false f8r27 [4, 11, 129, 130, 131] 0)))
def f8l23 : ACode := f8m23
theorem f8l23_b {A : Tab} {nt : Nat} {e : Env} {h : Heap} : Brun A nt f8l23 e h = Brun A nt f8m23 e h := rfl
def f8r28 : List AOper := [
  ⟨(some 157), .move (.t 4), none, 0, 0⟩,
  ⟨(some 158), .nilCheck (.t 157), none, 0, 1⟩,
  ⟨(some 159), .fieldAddr 0 (.t 158), none, 0, 3⟩,
  ⟨(some 160), .load false 1 (.t 159), none, 0, 7⟩,
  ⟨(some 161), .len 1 (.t 160), none, 0, 15⟩,
  ⟨(some 162), .move (.c (.int .i64 0)), none, 0, 0⟩]
def f8r29 : List AOper := [
  ⟨(some 163), .bin .lss (.t 162) (.t 161), none, 0, 0⟩]
def f8r30 : List AOper := [
  ⟨(some 164), .move (.t 162), none, 0, 0⟩,
  ⟨(some 14), .move (.t 164), none, 0, 1⟩]
def f8r31 : List AOper := [
  ⟨(some 165), .move (.t 4), none, 0, 0⟩,
  ⟨(some 166), .move (.t 14), none, 0, 0⟩,
  ⟨(some 167), .move (.t 11), none, 0, 0⟩,
  ⟨(some 168), .call (.c (.fn 31 [] [])) [(.t 165), (.t 166), (.t 167)], none, 0, 7⟩,
  ⟨(some 169), .un .not (.t 168), none, 0, 15⟩]
def f8r32 : List AOper := [
  ⟨(some 2), .move (.c .nilp), none, 0, 0⟩,
  ⟨(some 3), .move (.c (.int .i64 30)), none, 0, 1⟩]
def f8r33 : List AOper := [
  ⟨(some 170), .bin .add (.t 162) (.c (.int .i64 1)), none, 0, 0⟩,
  ⟨(some 162), .move (.t 170), none, 0, 1⟩]
def f8m29 : ACode :=
  .seq (.region false f8r29 [4, 11, 161, 162, 163] 0)
  (.seq (.cond (.t 163)
    (.skip)
    (.exit 4))
  (.seq (.block 5 (.seq (.region false f8r30 [4, 11, 14, 161, 162] 0)
    (.seq (.region false f8r31 [4, 11, 161, 162, 169] 0)
    (.cond (.t 169)
      (.seq (.region false f8r32 [2, 3] 0)
      (.ret))
      (.skip)))))
  (.region false f8r33 [4, 11, 161, 162] 0)))
def f8l29 : ACode := f8m29
theorem f8l29_b {A : Tab} {nt : Nat} {e : Env} {h : Heap} : Brun A nt f8l29 e h = Brun A nt f8m29 e h := rfl
def f8r34 : List AOper := [
  ⟨(some 171), .move (.t 4), none, 0, 0⟩,
  ⟨(some 2), .move (.t 171), none, 0, 1⟩,
  ⟨(some 3), .move (.c (.int .i64 0)), none, 0, 3⟩]
theorem f8r9_s : staticOK 0 f8r9 = true := by rfl
theorem f8r9_w {A : Tab} {nt : Nat} {keep : List Nat} {n : Nat} {e : Env} {h : Heap} (hr : (bkeep keep (stepsF nt (stepF A true) h.length f8r9 e (h ++ List.replicate n .free))).isSome = true) : Brun A nt (.region true f8r9 keep n) e h = bkeep keep (stepsF nt (stepF A true) h.length f8r9 e (h ++ List.replicate n .free)) := Brun_drawnS f8r9_s hr
theorem f8r9_u (nt base : Nat) (step : Nat → AOp → Env → Heap → Option (AV × Heap)) (e : Env) (h : Heap) : stepsF nt step base f8r9 e h = stepsF nt step base f8q9 e h := rfl
theorem f8r16_s : staticOK 0 f8r16 = true := by rfl
theorem f8r16_w {A : Tab} {nt : Nat} {keep : List Nat} {n : Nat} {e : Env} {h : Heap} (hr : (bkeep keep (stepsF nt (stepF A true) h.length f8r16 e (h ++ List.replicate n .free))).isSome = true) : Brun A nt (.region true f8r16 keep n) e h = bkeep keep (stepsF nt (stepF A true) h.length f8r16 e (h ++ List.replicate n .free)) := Brun_drawnS f8r16_s hr
theorem f8r16_u (nt base : Nat) (step : Nat → AOp → Env → Heap → Option (AV × Heap)) (e : Env) (h : Heap) : stepsF nt step base f8r16 e h = stepsF nt step base f8q16 e h := rfl
theorem f8r19_s : staticOK 0 f8r19 = true := by rfl
theorem f8r19_w {A : Tab} {nt : Nat} {keep : List Nat} {n : Nat} {e : Env} {h : Heap} (hr : (bkeep keep (stepsF nt (stepF A true) h.length f8r19 e (h ++ List.replicate n .free))).isSome = true) : Brun A nt (.region true f8r19 keep n) e h = bkeep keep (stepsF nt (stepF A true) h.length f8r19 e (h ++ List.replicate n .free)) := Brun_drawnS f8r19_s hr
theorem f8r19_u (nt base : Nat) (step : Nat → AOp → Env → Heap → Option (AV × Heap)) (e : Env) (h : Heap) : stepsF nt step base f8r19 e h = stepsF nt step base f8q19 e h := rfl
def f8c : ACode :=
  .seq (.region false f8r0 [0] 0)
  (.seq (.region false f8r1 [0, 4] 0)
  (.seq (.region false f8r2 [0, 4, 5] 0)
  (.seq (.seq (.region false f8r3 [0, 4, 5, 29] 0)
  (.cond (.t 29)
    (.seq (.region false f8r4 [2, 3] 0)
    (.ret))
    (.skip)))
  (.seq (.seq (.region false f8r5 [0, 4, 5, 30, 31, 32] 0)
  (.block 0 (.loop f8l6)))
  (.seq (.region false f8r21 [4, 11] 1)
  (.seq (.seq (.region false f8r22 [4, 11, 129, 130, 131] 0)
  (.block 2 (.loop f8l23)))
  (.seq (.seq (.region false f8r28 [4, 11, 161, 162] 0)
  (.block 4 (.loop f8l29)))
  (.seq (.region false f8r34 [2, 3] 0)
  (.ret)))))))))
def f8 : AFn := ⟨1, 172, [.tmp 2, .tmp 3], f8c, 0, none⟩
def f8k : List (Nat × List Nat) := [(0, [0]), (1, [0, 4]), (2, [0, 4, 5]), (3, [0, 4, 5, 29]), (4, [2, 3]), (5, [0, 4, 5, 30, 31, 32]), (6, [0, 4, 5, 30, 31, 32, 33]), (7, [0, 4, 5, 6, 7, 30, 31, 32]), (8, [0, 4, 5, 6, 7, 30, 31, 32, 39]), (9, [0, 4, 5, 30, 31, 32, 75]), (10, [2, 3]), (11, [0, 4, 5, 6, 7, 30, 31, 32]), (12, [0, 4, 5, 6, 7, 30, 31, 32, 90]), (13, [2, 3]), (14, [0, 4, 5, 6, 7, 30, 31, 32, 98]), (15, [0, 4, 5, 6, 8, 30, 31, 32]), (16, [0, 4, 5, 6, 8, 10, 30, 31, 32]), (17, [0, 4, 5, 6, 8, 30, 31, 32, 115]), (18, [2, 3]), (19, [0, 4, 5, 30, 31, 32]), (20, [0, 4, 5, 30, 31, 32]), (21, [4, 11]), (22, [4, 11, 129, 130, 131]), (23, [4, 11, 129, 130, 131, 132]), (24, [4, 11, 13, 129, 130, 131]), (25, [4, 11, 129, 130, 131, 155]), (26, [2, 3]), (27, [4, 11, 129, 130, 131]), (28, [4, 11, 161, 162]), (29, [4, 11, 161, 162, 163]), (30, [4, 11, 14, 161, 162]), (31, [4, 11, 161, 162, 169]), (32, [2, 3]), (33, [4, 11, 161, 162]), (34, [2, 3])]
def f8v : List Nat := []

/-! 9: mortise/mortiseref03.From, parameters [25], results [33, 3] -/
def f9r0 : List AOper := [
  ⟨(some 2), .move (.c .nilp), none, 0, 0⟩,
  ⟨(some 3), .move (.c (.int .i64 0)), none, 0, 1⟩]
def f9r1 : List AOper := [
  ⟨(some 8), .move (.t 0), none, 0, 0⟩,
  ⟨(some 9), .len 1 (.t 8), none, 0, 1⟩,
  ⟨(some 10), .bin .lss (.t 9) (.c (.int .i64 11)), none, 0, 3⟩,
  ⟨(some 11), .move (.t 10), none, 0, 7⟩,
  ⟨(some 12), .move (.t 0), (some (11, false)), 0, 15⟩,
  ⟨(some 13), .len 1 (.t 12), (some (11, false)), 0, 31⟩,
  ⟨(some 14), .bin .gtr (.t 13) (.c (.int .i64 512)), (some (11, false)), 0, 63⟩,
  ⟨(some 15), .pick (.t 11) (.c (.bool true)) (.t 14), none, 0, 127⟩]
def f9r2 : List AOper := [
  ⟨(some 2), .move (.c .nilp), none, 0, 0⟩,
  ⟨(some 3), .move (.c (.int .i64 30)), none, 0, 1⟩]
def f9r3 : List AOper := [
  ⟨(some 16), .move (.t 0), none, 0, 0⟩,
  ⟨(some 17), .build [(.is [] .nil)] [(0, 1, (.t 16))], none, 0, 1⟩,
  ⟨(some 18), .box false (.t 17), none, 0, 3⟩,
  ⟨(some 19), .call (.c (.fn 7 [] [])) [(.t 18)], none, 1, 7⟩,
  ⟨(some 4), .move (.t 19), none, 1, 15⟩]
def f9r4 : List AOper := [
  ⟨(some 5), .move (.c (.int .i64 0)), none, 0, 0⟩]
def f9r5 : List AOper := [
  ⟨(some 20), .move (.t 5), none, 0, 0⟩,
  ⟨(some 21), .move (.t 4), none, 0, 0⟩,
  ⟨(some 22), .nilCheck (.t 21), none, 0, 2⟩,
  ⟨(some 23), .fieldAddr 0 (.t 22), none, 0, 6⟩,
  ⟨(some 24), .load false 1 (.t 23), none, 0, 14⟩,
  ⟨(some 25), .len 1 (.t 24), none, 0, 30⟩,
  ⟨(some 26), .bin .lss (.t 20) (.t 25), none, 0, 63⟩]
def f9r6 : List AOper := [
  ⟨(some 29), .move (.t 4), none, 0, 0⟩,
  ⟨(some 30), .move (.t 5), none, 0, 0⟩,
  ⟨(some 31), .call (.c (.fn 32 [] [])) [(.t 29), (.t 30)], none, 0, 3⟩,
  ⟨(some 32), .un .not (.t 31), none, 0, 7⟩,
  ⟨(some 33), .move (.t 32), none, 0, 15⟩,
  ⟨(some 34), .move (.t 4), (some (33, false)), 0, 31⟩,
  ⟨(some 35), .move (.t 5), (some (33, false)), 0, 31⟩,
  ⟨(some 36), .call (.c (.fn 33 [] [])) [(.t 34), (.t 35)], (some (33, false)), 0, 127⟩,
  ⟨(some 37), .pick (.t 33) (.c (.bool true)) (.t 36), none, 0, 255⟩]
def f9r7 : List AOper := [
  ⟨(some 2), .move (.c .nilp), none, 0, 0⟩,
  ⟨(some 3), .move (.c (.int .i64 30)), none, 0, 1⟩]
def f9r8 : List AOper := [
  ⟨(some 27), .move (.t 5), none, 0, 0⟩,
  ⟨(some 28), .bin .add (.t 27) (.c (.int .i64 1)), none, 0, 1⟩,
  ⟨(some 5), .move (.t 28), none, 0, 3⟩]
def f9m5 : ACode :=
  .seq (.seq (.region false f9r5 [4, 5, 26] 0)
  (.cond (.t 26)
    (.skip)
    (.exit 0)))
  (.seq (.block 1 (.seq (.region false f9r6 [4, 5, 37] 0)
    (.cond (.t 37)
      (.seq (.region false f9r7 [2, 3] 0)
      (.ret))
      (.skip))))
  (.region false f9r8 [4, 5] 0))
def f9l5 : ACode := f9m5
theorem f9l5_b {A : Tab} {nt : Nat} {e : Env} {h : Heap} : Brun A nt f9l5 e h = Brun A nt f9m5 e h := rfl
def f9r9 : List AOper := [
  ⟨(some 38), .move (.t 4), none, 0, 0⟩,
  ⟨(some 39), .call (.c (.fn 34 [] [])) [(.t 38)], none, 0, 1⟩,
  ⟨(some 6), .move (.t 39), none, 0, 3⟩]
def f9r10 : List AOper := [
  ⟨(some 7), .move (.c (.int .i64 0)), none, 0, 0⟩]
def f9r11 : List AOper := [
  ⟨(some 40), .move (.t 7), none, 0, 0⟩,
  ⟨(some 41), .move (.t 6), none, 0, 0⟩,
  ⟨(some 42), .len 1 (.t 41), none, 0, 2⟩,
  ⟨(some 43), .bin .lss (.t 40) (.t 42), none, 0, 7⟩]
def f9r12 : List AOper := [
  ⟨(some 46), .move (.t 6), none, 0, 0⟩,
  ⟨(some 47), .move (.t 7), none, 0, 0⟩,
  ⟨(some 48), .idxAddr 1 (.t 46) (.t 47), none, 0, 3⟩,
  ⟨(some 49), .load false 1 (.t 48), none, 0, 7⟩,
  ⟨(some 50), .un .not (.t 49), none, 0, 15⟩]
def f9r13 : List AOper := [
  ⟨(some 2), .move (.c .nilp), none, 0, 0⟩,
  ⟨(some 3), .move (.c (.int .i64 30)), none, 0, 1⟩]
def f9r14 : List AOper := [
  ⟨(some 44), .move (.t 7), none, 0, 0⟩,
  ⟨(some 45), .bin .add (.t 44) (.c (.int .i64 1)), none, 0, 1⟩,
  ⟨(some 7), .move (.t 45), none, 0, 3⟩]
def f9m11 : ACode :=
  .seq (.seq (.region false f9r11 [4, 6, 7, 43] 0)
  (.cond (.t 43)
    (.skip)
    (.exit 2)))
  (.seq (.block 3 (.seq (.region false f9r12 [4, 6, 7, 50] 0)
    (.cond (.t 50)
      (.seq (.region false f9r13 [2, 3] 0)
      (.ret))
      (.skip))))
  (.region false f9r14 [4, 6, 7] 0))
def f9l11 : ACode := f9m11
theorem f9l11_b {A : Tab} {nt : Nat} {e : Env} {h : Heap} : Brun A nt f9l11 e h = Brun A nt f9m11 e h := rfl
def f9r15 : List AOper := [
  ⟨(some 51), .move (.t 4), none, 0, 0⟩,
  ⟨(some 2), .move (.t 51), none, 0, 1⟩,
  ⟨(some 3), .move (.c (.int .i64 0)), none, 0, 3⟩]
def f9c : ACode :=
  .seq (.region false f9r0 [0] 0)
  (.seq (.seq (.region false f9r1 [0, 15] 0)
  (.cond (.t 15)
    (.seq (.region false f9r2 [2, 3] 0)
    (.ret))
    (.skip)))
  (.seq (.region false f9r3 [4] 1)
  (.seq (.seq (.region false f9r4 [4, 5] 0)
  (.block 0 (.loop f9l5)))
  (.seq (.region false f9r9 [4, 6] 0)
  (.seq (.seq (.region false f9r10 [4, 6, 7] 0)
  (.block 2 (.loop f9l11)))
  (.seq (.region false f9r15 [2, 3] 0)
  (.ret)))))))
def f9 : AFn := ⟨1, 52, [.tmp 2, .tmp 3], f9c, 0, none⟩
def f9k : List (Nat × List Nat) := [(0, [0]), (1, [0, 15]), (2, [2, 3]), (3, [4]), (4, [4, 5]), (5, [4, 5, 26]), (7, [4, 5, 37]), (8, [2, 3]), (6, [4, 5]), (9, [4, 6]), (10, [4, 6, 7]), (11, [4, 6, 7, 43]), (13, [4, 6, 7, 50]), (14, [2, 3]), (12, [4, 6, 7]), (15, [2, 3])]
def f9v : List Nat := []

/-! 10: mortise/mortiselaw03.Like, parameters [23, 33], results [4] -/
def f10r0 : List AOper := [
  ⟨(some 4), .move (.c (.bool false)), none, 0, 0⟩]
def f10q1 : List AOper := [
  ⟨(some 5), .move (.t 0), none, 0, 0⟩,
  ⟨(some 6), .call (.c (.fn 24 [] [])) [(.t 5)], none, 0, 1⟩,
  ⟨(some 7), .move (.t 1), none, 0, 0⟩,
  ⟨(some 8), .nilCheck (.t 7), none, 0, 4⟩,
  ⟨(some 9), .fieldAddr 0 (.t 8), none, 0, 12⟩,
  ⟨(some 10), .load false 1 (.t 9), none, 0, 28⟩,
  ⟨(some 11), .call (.c (.fn 35 [] [])) [(.t 6), (.t 10)], none, 0, 63⟩,
  ⟨(some 12), .move (.t 11), none, 0, 127⟩,
  ⟨(some 13), .move (.t 0), (some (12, true)), 0, 255⟩,
  ⟨(some 14), .call (.c (.fn 23 [] [])) [(.t 13)], (some (12, true)), 0, 511⟩,
  ⟨(some 15), .move (.t 1), (some (12, true)), 0, 255⟩,
  ⟨(some 16), .nilCheck (.t 15), (some (12, true)), 0, 1279⟩,
  ⟨(some 17), .fieldAddr 0 (.t 16), (some (12, true)), 0, 3327⟩,
  ⟨(some 18), .load false 1 (.t 17), (some (12, true)), 0, 7423⟩,
  ⟨(some 19), .len 1 (.t 18), (some (12, true)), 0, 15615⟩,
  ⟨(some 20), .bin .eql (.t 14) (.t 19), (some (12, true)), 0, 32767⟩,
  ⟨(some 21), .pick (.t 12) (.t 20) (.c (.bool false)), none, 0, 65535⟩,
  ⟨(some 4), .move (.t 21), none, 0, 131071⟩]
def f10r1 : List AOper := f10q1
theorem f10r1_s : staticOK 0 f10r1 = true := by rfl
theorem f10r1_w {A : Tab} {nt : Nat} {keep : List Nat} {n : Nat} {e : Env} {h : Heap} (hr : (bkeep keep (stepsF nt (stepF A true) h.length f10r1 e (h ++ List.replicate n .free))).isSome = true) : Brun A nt (.region true f10r1 keep n) e h = bkeep keep (stepsF nt (stepF A true) h.length f10r1 e (h ++ List.replicate n .free)) := Brun_drawnS f10r1_s hr
theorem f10r1_u (nt base : Nat) (step : Nat → AOp → Env → Heap → Option (AV × Heap)) (e : Env) (h : Heap) : stepsF nt step base f10r1 e h = stepsF nt step base f10q1 e h := rfl
def f10c : ACode :=
  .seq (.region false f10r0 [0, 1] 0)
  (.seq (.region true f10r1 [4] 0)
  (.ret))
def f10 : AFn := ⟨2, 22, [.tmp 4], f10c, 1, none⟩
def f10k : List (Nat × List Nat) := [(0, [0, 1]), (1, [4])]
def f10v : List Nat := []

/-! 11: (*mortise/ctype.Table).Basic, parameters [23, 40], results [3, 35] -/
def f11r0 : List AOper := [
  ⟨(some 4), .move (.c (.int .i64 0)), none, 0, 0⟩,
  ⟨(some 5), .move (.c (.int .i64 0)), none, 0, 1⟩]
def f11r1 : List AOper := [
  ⟨(some 7), .move (.t 0), none, 0, 0⟩,
  ⟨(some 8), .call (.c (.fn 36 [] [])) [(.t 7)], none, 0, 1⟩,
  ⟨(some 9), .un .not (.t 8), none, 0, 3⟩,
  ⟨(some 6), .move (.t 9), none, 0, 7⟩]
def f11r2 : List AOper := [
  ⟨(some 4), .move (.c (.int .i64 0)), none, 0, 0⟩,
  ⟨(some 5), .move (.c (.int .i64 1)), none, 0, 1⟩]
def f11r3 : List AOper := [
  ⟨(some 11), .move (.t 1), none, 0, 0⟩,
  ⟨(some 12), .bin .lss (.t 11) (.c (.int .i64 1)), none, 0, 1⟩,
  ⟨(some 13), .move (.t 12), none, 0, 3⟩,
  ⟨(some 14), .move (.t 1), (some (13, false)), 0, 7⟩,
  ⟨(some 15), .bin .gtr (.t 14) (.c (.int .i64 11)), (some (13, false)), 0, 15⟩,
  ⟨(some 16), .pick (.t 13) (.c (.bool true)) (.t 15), none, 0, 31⟩,
  ⟨(some 10), .move (.t 16), none, 0, 63⟩]
def f11r4 : List AOper := [
  ⟨(some 4), .move (.c (.int .i64 0)), none, 0, 0⟩,
  ⟨(some 5), .move (.c (.int .i64 30)), none, 0, 1⟩]
def f11r5 : List AOper := [
  ⟨(some 17), .move (.t 1), none, 0, 0⟩,
  ⟨(some 18), .bin .sub (.t 17) (.c (.int .i64 1)), none, 0, 1⟩,
  ⟨(some 4), .move (.t 18), none, 0, 3⟩,
  ⟨(some 5), .move (.c (.int .i64 0)), none, 0, 7⟩]
def f11c : ACode :=
  .seq (.region false f11r0 [0, 1] 0)
  (.seq (.block 0 (.seq (.region false f11r1 [1, 6] 0)
    (.cond (.t 6)
      (.seq (.region false f11r2 [4, 5] 0)
      (.ret))
      (.seq (.region false f11r3 [1, 10] 0)
      (.cond (.t 10)
        (.seq (.region false f11r4 [4, 5] 0)
        (.ret))
        (.skip))))))
  (.seq (.region false f11r5 [4, 5] 0)
  (.ret)))
def f11 : AFn := ⟨2, 19, [.tmp 4, .tmp 5], f11c, 1, none⟩
def f11k : List (Nat × List Nat) := [(0, [0, 1]), (1, [1, 6]), (3, [1, 10]), (4, [4, 5]), (2, [4, 5]), (5, [4, 5])]
def f11v : List Nat := []

/-! 12: (*mortise/ctype.Table).Enum, parameters [23, 9], results [3, 35] -/
def f12r0 : List AOper := [
  ⟨(some 4), .move (.c (.int .i64 0)), none, 0, 0⟩,
  ⟨(some 5), .move (.c (.int .i64 0)), none, 0, 1⟩]
def f12r1 : List AOper := [
  ⟨(some 6), .move (.t 0), none, 0, 0⟩,
  ⟨(some 7), .move (.t 1), none, 0, 0⟩,
  ⟨(some 8), .call (.c (.fn 37 [] [])) [(.t 6), (.c (.int .i64 12)), (.t 7)], none, 0, 3⟩,
  ⟨(some 9), .extract (.t 8) 0, none, 0, 7⟩,
  ⟨(some 10), .extract (.t 8) 1, none, 0, 7⟩,
  ⟨(some 4), .move (.t 9), none, 0, 31⟩,
  ⟨(some 5), .move (.t 10), none, 0, 63⟩]
def f12c : ACode :=
  .seq (.region false f12r0 [0, 1] 0)
  (.seq (.region false f12r1 [4, 5] 0)
  (.ret))
def f12 : AFn := ⟨2, 11, [.tmp 4, .tmp 5], f12c, 1, none⟩
def f12k : List (Nat × List Nat) := [(0, [0, 1]), (1, [4, 5])]
def f12v : List Nat := []

/-! 13: (*mortise/ctype.Table).Ptr, parameters [23, 3], results [3, 35] -/
def f13r0 : List AOper := [
  ⟨(some 4), .move (.c (.int .i64 0)), none, 0, 0⟩,
  ⟨(some 5), .move (.c (.int .i64 0)), none, 0, 1⟩]
def f13r1 : List AOper := [
  ⟨(some 7), .move (.t 0), none, 0, 0⟩,
  ⟨(some 8), .call (.c (.fn 36 [] [])) [(.t 7)], none, 0, 1⟩,
  ⟨(some 9), .un .not (.t 8), none, 0, 3⟩,
  ⟨(some 6), .move (.t 9), none, 0, 7⟩]
def f13r2 : List AOper := [
  ⟨(some 4), .move (.c (.int .i64 0)), none, 0, 0⟩,
  ⟨(some 5), .move (.c (.int .i64 1)), none, 0, 1⟩]
def f13r3 : List AOper := [
  ⟨(some 11), .move (.t 0), none, 0, 0⟩,
  ⟨(some 12), .move (.t 1), none, 0, 0⟩,
  ⟨(some 13), .call (.c (.fn 38 [] [])) [(.t 11), (.t 12)], none, 0, 3⟩,
  ⟨(some 14), .un .not (.t 13), none, 0, 7⟩,
  ⟨(some 10), .move (.t 14), none, 0, 15⟩]
def f13r4 : List AOper := [
  ⟨(some 4), .move (.c (.int .i64 0)), none, 0, 0⟩,
  ⟨(some 5), .move (.c (.int .i64 30)), none, 0, 1⟩]
def f13r5 : List AOper := [
  ⟨(some 15), .move (.t 0), none, 0, 0⟩,
  ⟨(some 16), .move (.t 1), none, 0, 0⟩,
  ⟨(some 17), .build [(.int .i64 0), (.int .i64 0), (.int .i64 0)] [(0, 1, (.c (.int .i64 13))), (1, 1, (.t 16)), (2, 1, (.c (.int .i64 0)))], none, 0, 2⟩,
  ⟨(some 18), .call (.c (.fn 39 [] [])) [(.t 15), (.t 17)], none, 0, 7⟩,
  ⟨(some 19), .extract (.t 18) 0, none, 0, 15⟩,
  ⟨(some 20), .extract (.t 18) 1, none, 0, 15⟩,
  ⟨(some 4), .move (.t 19), none, 0, 63⟩,
  ⟨(some 5), .move (.t 20), none, 0, 127⟩]
def f13c : ACode :=
  .seq (.region false f13r0 [0, 1] 0)
  (.seq (.block 0 (.seq (.region false f13r1 [0, 1, 6] 0)
    (.cond (.t 6)
      (.seq (.region false f13r2 [4, 5] 0)
      (.ret))
      (.seq (.region false f13r3 [0, 1, 10] 0)
      (.cond (.t 10)
        (.seq (.region false f13r4 [4, 5] 0)
        (.ret))
        (.skip))))))
  (.seq (.region false f13r5 [4, 5] 0)
  (.ret)))
def f13 : AFn := ⟨2, 21, [.tmp 4, .tmp 5], f13c, 1, none⟩
def f13k : List (Nat × List Nat) := [(0, [0, 1]), (1, [0, 1, 6]), (3, [0, 1, 10]), (4, [4, 5]), (2, [4, 5]), (5, [4, 5])]
def f13v : List Nat := []

/-! 14: (*mortise/ctype.Table).Array, parameters [23, 3, 3], results [3, 35] -/
def f14r0 : List AOper := [
  ⟨(some 6), .move (.c (.int .i64 0)), none, 0, 0⟩,
  ⟨(some 7), .move (.c (.int .i64 0)), none, 0, 1⟩]
def f14r1 : List AOper := [
  ⟨(some 9), .move (.t 0), none, 0, 0⟩,
  ⟨(some 10), .call (.c (.fn 36 [] [])) [(.t 9)], none, 0, 1⟩,
  ⟨(some 11), .un .not (.t 10), none, 0, 3⟩,
  ⟨(some 8), .move (.t 11), none, 0, 7⟩]
def f14r2 : List AOper := [
  ⟨(some 6), .move (.c (.int .i64 0)), none, 0, 0⟩,
  ⟨(some 7), .move (.c (.int .i64 1)), none, 0, 1⟩]
def f14r3 : List AOper := [
  ⟨(some 13), .move (.t 0), none, 0, 0⟩,
  ⟨(some 14), .move (.t 1), none, 0, 0⟩,
  ⟨(some 15), .call (.c (.fn 38 [] [])) [(.t 13), (.t 14)], none, 0, 3⟩,
  ⟨(some 16), .un .not (.t 15), none, 0, 7⟩,
  ⟨(some 12), .move (.t 16), none, 0, 15⟩]
def f14r4 : List AOper := [
  ⟨(some 6), .move (.c (.int .i64 0)), none, 0, 0⟩,
  ⟨(some 7), .move (.c (.int .i64 30)), none, 0, 1⟩]
def f14r5 : List AOper := [
  ⟨(some 18), .move (.t 0), none, 0, 0⟩,
  ⟨(some 19), .move (.t 1), none, 0, 0⟩,
  ⟨(some 20), .call (.c (.fn 21 [] [])) [(.t 18), (.t 19)], none, 0, 3⟩,
  ⟨(some 21), .un .not (.t 20), none, 0, 7⟩,
  ⟨(some 17), .move (.t 21), none, 0, 15⟩]
def f14r6 : List AOper := [
  ⟨(some 6), .move (.c (.int .i64 0)), none, 0, 0⟩,
  ⟨(some 7), .move (.c (.int .i64 50)), none, 0, 1⟩]
def f14r7 : List AOper := [
  ⟨(some 23), .move (.t 2), none, 0, 0⟩,
  ⟨(some 24), .call (.c (.fn 40 [] [])) [(.t 23)], none, 0, 1⟩,
  ⟨(some 25), .un .not (.t 24), none, 0, 3⟩,
  ⟨(some 22), .move (.t 25), none, 0, 7⟩]
def f14r8 : List AOper := [
  ⟨(some 6), .move (.c (.int .i64 0)), none, 0, 0⟩,
  ⟨(some 7), .move (.c (.int .i64 2)), none, 0, 1⟩]
def f14r9 : List AOper := [
  ⟨(some 26), .move (.t 0), none, 0, 0⟩,
  ⟨(some 27), .move (.t 1), none, 0, 0⟩,
  ⟨(some 28), .move (.t 2), none, 0, 0⟩,
  ⟨(some 29), .build [(.int .i64 0), (.int .i64 0), (.int .i64 0)] [(0, 1, (.c (.int .i64 14))), (1, 1, (.t 27)), (2, 1, (.t 28))], none, 0, 6⟩,
  ⟨(some 30), .call (.c (.fn 39 [] [])) [(.t 26), (.t 29)], none, 0, 15⟩,
  ⟨(some 31), .extract (.t 30) 0, none, 0, 31⟩,
  ⟨(some 32), .extract (.t 30) 1, none, 0, 31⟩,
  ⟨(some 6), .move (.t 31), none, 0, 127⟩,
  ⟨(some 7), .move (.t 32), none, 0, 255⟩]
def f14c : ACode :=
  .seq (.region false f14r0 [0, 1, 2] 0)
  (.seq (.block 0 (.seq (.region false f14r1 [0, 1, 2, 8] 0)
    (.cond (.t 8)
      (.seq (.region false f14r2 [6, 7] 0)
      (.ret))
      (.seq (.region false f14r3 [0, 1, 2, 12] 0)
      (.cond (.t 12)
        (.seq (.region false f14r4 [6, 7] 0)
        (.ret))
        (.seq (.region false f14r5 [0, 1, 2, 17] 0)
        (.cond (.t 17)
          (.seq (.region false f14r6 [6, 7] 0)
          (.ret))
          (.seq (.region false f14r7 [0, 1, 2, 22] 0)
          (.cond (.t 22)
            (.seq (.region false f14r8 [6, 7] 0)
            (.ret))
            (.skip))))))))))
  (.seq (.region false f14r9 [6, 7] 0)
  (.ret)))
def f14 : AFn := ⟨3, 33, [.tmp 6, .tmp 7], f14c, 1, none⟩
def f14k : List (Nat × List Nat) := [(0, [0, 1, 2]), (1, [0, 1, 2, 8]), (3, [0, 1, 2, 12]), (5, [0, 1, 2, 17]), (7, [0, 1, 2, 22]), (8, [6, 7]), (6, [6, 7]), (4, [6, 7]), (2, [6, 7]), (9, [6, 7])]
def f14v : List Nat := []

/-! 15: (*mortise/ctype.Table).Struct, parameters [23, 9], results [3, 35] -/
def f15r0 : List AOper := [
  ⟨(some 4), .move (.c (.int .i64 0)), none, 0, 0⟩,
  ⟨(some 5), .move (.c (.int .i64 0)), none, 0, 1⟩]
def f15r1 : List AOper := [
  ⟨(some 6), .move (.t 0), none, 0, 0⟩,
  ⟨(some 7), .move (.t 1), none, 0, 0⟩,
  ⟨(some 8), .call (.c (.fn 37 [] [])) [(.t 6), (.c (.int .i64 15)), (.t 7)], none, 0, 3⟩,
  ⟨(some 9), .extract (.t 8) 0, none, 0, 7⟩,
  ⟨(some 10), .extract (.t 8) 1, none, 0, 7⟩,
  ⟨(some 4), .move (.t 9), none, 0, 31⟩,
  ⟨(some 5), .move (.t 10), none, 0, 63⟩]
def f15c : ACode :=
  .seq (.region false f15r0 [0, 1] 0)
  (.seq (.region false f15r1 [4, 5] 0)
  (.ret))
def f15 : AFn := ⟨2, 11, [.tmp 4, .tmp 5], f15c, 1, none⟩
def f15k : List (Nat × List Nat) := [(0, [0, 1]), (1, [4, 5])]
def f15v : List Nat := []

/-! 16: (*mortise/ctype.Table).Union, parameters [23, 9], results [3, 35] -/
def f16r0 : List AOper := [
  ⟨(some 4), .move (.c (.int .i64 0)), none, 0, 0⟩,
  ⟨(some 5), .move (.c (.int .i64 0)), none, 0, 1⟩]
def f16r1 : List AOper := [
  ⟨(some 6), .move (.t 0), none, 0, 0⟩,
  ⟨(some 7), .move (.t 1), none, 0, 0⟩,
  ⟨(some 8), .call (.c (.fn 37 [] [])) [(.t 6), (.c (.int .i64 16)), (.t 7)], none, 0, 3⟩,
  ⟨(some 9), .extract (.t 8) 0, none, 0, 7⟩,
  ⟨(some 10), .extract (.t 8) 1, none, 0, 7⟩,
  ⟨(some 4), .move (.t 9), none, 0, 31⟩,
  ⟨(some 5), .move (.t 10), none, 0, 63⟩]
def f16c : ACode :=
  .seq (.region false f16r0 [0, 1] 0)
  (.seq (.region false f16r1 [4, 5] 0)
  (.ret))
def f16 : AFn := ⟨2, 11, [.tmp 4, .tmp 5], f16c, 1, none⟩
def f16k : List (Nat × List Nat) := [(0, [0, 1]), (1, [4, 5])]
def f16v : List Nat := []

/-! 17: (*mortise/ctype.Table).Declare, parameters [23, 3, 9], results [9, 35] -/
def f17r0 : List AOper := [
  ⟨(some 6), .move (.c (.str [])), none, 0, 0⟩,
  ⟨(some 7), .move (.c (.int .i64 0)), none, 0, 1⟩]
def f17r1 : List AOper := [
  ⟨(some 12), .move (.t 0), none, 0, 0⟩,
  ⟨(some 13), .call (.c (.fn 36 [] [])) [(.t 12)], none, 0, 1⟩,
  ⟨(some 14), .un .not (.t 13), none, 0, 3⟩,
  ⟨(some 11), .move (.t 14), none, 0, 7⟩]
def f17r2 : List AOper := [
  ⟨(some 6), .move (.c (.str [])), none, 0, 0⟩,
  ⟨(some 7), .move (.c (.int .i64 1)), none, 0, 1⟩]
def f17r3 : List AOper := [
  ⟨(some 16), .move (.t 0), none, 0, 0⟩,
  ⟨(some 17), .move (.t 1), none, 0, 0⟩,
  ⟨(some 18), .call (.c (.fn 38 [] [])) [(.t 16), (.t 17)], none, 0, 3⟩,
  ⟨(some 19), .un .not (.t 18), none, 0, 7⟩,
  ⟨(some 15), .move (.t 19), none, 0, 15⟩]
def f17r4 : List AOper := [
  ⟨(some 6), .move (.c (.str [])), none, 0, 0⟩,
  ⟨(some 7), .move (.c (.int .i64 30)), none, 0, 1⟩]
def f17r5 : List AOper := [
  ⟨(some 21), .move (.t 2), none, 0, 0⟩,
  ⟨(some 22), .bin .neq (.t 21) (.c (.str [])), none, 0, 1⟩,
  ⟨(some 23), .move (.t 22), none, 0, 3⟩,
  ⟨(some 24), .move (.t 2), (some (23, true)), 0, 7⟩,
  ⟨(some 25), .call (.c (.fn 41 [] [])) [(.t 24)], (some (23, true)), 0, 15⟩,
  ⟨(some 26), .un .not (.t 25), (some (23, true)), 0, 31⟩,
  ⟨(some 27), .pick (.t 23) (.t 26) (.c (.bool false)), none, 0, 63⟩,
  ⟨(some 20), .move (.t 27), none, 0, 127⟩]
def f17r6 : List AOper := [
  ⟨(some 6), .move (.c (.str [])), none, 0, 0⟩,
  ⟨(some 7), .move (.c (.int .i64 31)), none, 0, 1⟩]
def f17r7 : List AOper := [
  ⟨(some 28), .move (.t 2), none, 0, 0⟩,
  ⟨(some 8), .move (.t 28), none, 0, 1⟩]
def f17r8 : List AOper := [
  ⟨(some 29), .move (.t 0), none, 0, 0⟩,
  ⟨(some 30), .nilCheck (.t 29), none, 0, 1⟩,
  ⟨(some 31), .fieldAddr 0 (.t 30), none, 0, 3⟩,
  ⟨(some 32), .load false 1 (.t 31), none, 0, 7⟩,
  ⟨(some 33), .move (.t 1), none, 0, 0⟩,
  ⟨(some 34), .idxAddr 6 (.t 32) (.t 33), none, 0, 31⟩,
  ⟨(some 35), .load true 6 (.t 34), none, 0, 63⟩,
  ⟨(some 9), .alloc false [(.int .i64 0), (.int .i64 0), (.int .i64 0), (.str []), (.is [] .nil), (.bool false)], none, 0, 0⟩,
  ⟨none, .store 6 (.t 9) (.t 35), none, 1, 255⟩]
def f17r9 : List AOper := [
  ⟨(some 36), .fieldAddr 0 (.t 9), none, 0, 0⟩,
  ⟨(some 37), .load false 1 (.t 36), none, 0, 1⟩]
def f17r10 : List AOper := [
  ⟨(some 39), .bin .eql (.t 37) (.c (.int .i64 13)), none, 0, 0⟩,
  ⟨(some 38), .move (.t 39), none, 0, 1⟩]
def f17r11 : List AOper := [
  ⟨(some 40), .move (.t 8), none, 0, 0⟩,
  ⟨(some 41), .bin .add (.c (.str [42])) (.t 40), none, 0, 1⟩,
  ⟨(some 8), .move (.t 41), none, 0, 3⟩]
def f17r12 : List AOper := [
  ⟨(some 42), .move (.t 0), none, 0, 0⟩,
  ⟨(some 43), .fieldAddr 1 (.t 9), none, 0, 0⟩,
  ⟨(some 44), .load false 1 (.t 43), none, 0, 2⟩,
  ⟨(some 45), .call (.c (.fn 42 [] [])) [(.t 42), (.t 44)], none, 0, 7⟩,
  ⟨(some 46), .bin .eql (.t 45) (.c (.int .i64 14)), none, 0, 15⟩]
def f17r13 : List AOper := [
  ⟨(some 47), .move (.t 8), none, 0, 0⟩,
  ⟨(some 48), .bin .add (.c (.str [40])) (.t 47), none, 0, 1⟩,
  ⟨(some 49), .bin .add (.t 48) (.c (.str [41])), none, 0, 3⟩,
  ⟨(some 8), .move (.t 49), none, 0, 7⟩]
def f17r14 : List AOper := [
  ⟨(some 50), .fieldAddr 1 (.t 9), none, 0, 0⟩,
  ⟨(some 51), .load false 1 (.t 50), none, 0, 1⟩,
  ⟨(some 1), .move (.t 51), none, 0, 3⟩]
def f17r15 : List AOper := [
  ⟨(some 53), .bin .eql (.t 37) (.c (.int .i64 14)), none, 0, 0⟩,
  ⟨(some 52), .move (.t 53), none, 0, 1⟩]
def f17r16 : List AOper := [
  ⟨(some 10), .move (.c (.str [])), none, 0, 0⟩]
def f17r17 : List AOper := [
  ⟨(some 54), .fieldAddr 2 (.t 9), none, 0, 0⟩,
  ⟨(some 55), .load false 1 (.t 54), none, 0, 1⟩,
  ⟨(some 56), .bin .geq (.t 55) (.c (.int .i64 0)), none, 0, 3⟩]
def f17r18 : List AOper := [
  ⟨(some 57), .fieldAddr 2 (.t 9), none, 0, 0⟩,
  ⟨(some 58), .load false 1 (.t 57), none, 0, 1⟩,
  ⟨(some 59), .call (.c (.fn 43 [] [])) [(.t 58)], none, 0, 3⟩,
  ⟨(some 10), .move (.t 59), none, 0, 7⟩]
def f17r19 : List AOper := [
  ⟨(some 60), .move (.t 8), none, 0, 0⟩,
  ⟨(some 61), .move (.t 10), none, 0, 0⟩,
  ⟨(some 62), .bin .add (.c (.str [91])) (.t 61), none, 0, 2⟩,
  ⟨(some 63), .bin .add (.t 62) (.c (.str [93])), none, 0, 6⟩,
  ⟨(some 64), .bin .add (.t 60) (.t 63), none, 0, 15⟩,
  ⟨(some 8), .move (.t 64), none, 0, 31⟩]
def f17r20 : List AOper := [
  ⟨(some 65), .fieldAddr 1 (.t 9), none, 0, 0⟩,
  ⟨(some 66), .load false 1 (.t 65), none, 0, 1⟩,
  ⟨(some 1), .move (.t 66), none, 0, 3⟩]
def f17r21 : List AOper := [
  ⟨(some 67), .move (.t 8), none, 0, 0⟩,
  ⟨(some 68), .bin .neq (.t 67) (.c (.str [])), none, 0, 1⟩]
def f17r22 : List AOper := [
  ⟨(some 69), .move (.t 8), none, 0, 0⟩,
  ⟨(some 70), .bin .add (.c (.str [32])) (.t 69), none, 0, 1⟩,
  ⟨(some 8), .move (.t 70), none, 0, 3⟩]
def f17r23 : List AOper := [
  ⟨(some 71), .move (.t 0), none, 0, 0⟩,
  ⟨(some 72), .move (.t 1), none, 0, 0⟩,
  ⟨(some 73), .call (.c (.fn 44 [] [])) [(.t 71), (.t 72)], none, 0, 3⟩,
  ⟨(some 74), .move (.t 8), none, 0, 0⟩,
  ⟨(some 75), .bin .add (.t 73) (.t 74), none, 0, 15⟩,
  ⟨(some 6), .move (.t 75), none, 0, 31⟩,
  ⟨(some 7), .move (.c (.int .i64 0)), none, 0, 63⟩]
def f17m8 : ACode :=
  .block 2 (.seq (.region false f17r8 [0, 1, 8, 9] 1)
    (.seq (.seq (.region false f17r9 [0, 1, 8, 9, 37] 0)
    (.block 3 (.seq (.region false f17r10 [0, 1, 8, 9, 37, 38] 0)
      (.cond (.t 38)
        (.seq (.region false f17r11 [0, 8, 9] 0)
        (.seq (.seq (.region false f17r12 [0, 8, 9, 46] 0)
        (.cond (.t 46)
          (.region false f17r13 [0, 8, 9] 0)
          (.skip)))
        (.seq (.region false f17r14 [0, 1, 8] 0)
        (.exit 2))))
        (.seq (.region false f17r15 [0, 1, 8, 9, 52] 0)
        (.cond (.t 52)
          (.seq (.region false f17r16 [0, 8, 9, 10] 0)
          (.seq (.seq (.region false f17r17 [0, 8, 9, 10, 56] 0)
          (.cond (.t 56)
            (.region false f17r18 [0, 8, 9, 10] 0)
            (.skip)))
          (.seq (.region false f17r19 [0, 8, 9] 0)
          (.seq (.region false f17r20 [0, 1, 8] 0)
          (.exit 2)))))
          (.skip)))))))
    (.seq (.seq (.region false f17r21 [0, 1, 8, 68] 0)
    (.cond (.t 68)
      (.region false f17r22 [0, 1, 8] 0)
      (.skip)))
    (.seq (.region false f17r23 [6, 7] 0)
    (.ret)))))
def f17l8 : ACode := f17m8
theorem f17l8_b {A : Tab} {nt : Nat} {e : Env} {h : Heap} : Brun A nt f17l8 e h = Brun A nt f17m8 e h := rfl
def f17c : ACode :=
  .seq (.region false f17r0 [0, 1, 2] 0)
  (.seq (.block 0 (.seq (.region false f17r1 [0, 1, 2, 11] 0)
    (.cond (.t 11)
      (.seq (.region false f17r2 [6, 7] 0)
      (.ret))
      (.seq (.region false f17r3 [0, 1, 2, 15] 0)
      (.cond (.t 15)
        (.seq (.region false f17r4 [6, 7] 0)
        (.ret))
        (.seq (.region false f17r5 [0, 1, 2, 20] 0)
        (.cond (.t 20)
          (.seq (.region false f17r6 [6, 7] 0)
          (.ret))
          (.skip))))))))
  (.seq (.region false f17r7 [0, 1, 8] 0)
  (.block 1 (.loop f17l8))))
def f17 : AFn := ⟨3, 76, [.tmp 6, .tmp 7], f17c, 1, none⟩
def f17k : List (Nat × List Nat) := [(0, [0, 1, 2]), (1, [0, 1, 2, 11]), (3, [0, 1, 2, 15]), (5, [0, 1, 2, 20]), (6, [6, 7]), (4, [6, 7]), (2, [6, 7]), (7, [0, 1, 8]), (8, [0, 1, 8, 9]), (9, [0, 1, 8, 9, 37]), (10, [0, 1, 8, 9, 37, 38]), (15, [0, 1, 8, 9, 52]), (16, [0, 8, 9, 10]), (17, [0, 8, 9, 10, 56]), (18, [0, 8, 9, 10]), (19, [0, 8, 9]), (20, [0, 1, 8]), (11, [0, 8, 9]), (12, [0, 8, 9, 46]), (13, [0, 8, 9]), (14, [0, 1, 8]), (21, [0, 1, 8, 68]), (22, [0, 1, 8]), (23, [6, 7])]
def f17v : List Nat := []

/-! 18: (*mortise/ctype.Table).Row, parameters [23, 3], results [42, 4] -/
def f18r0 : List AOper := [
  ⟨(some 4), .alloc false [(.int .i64 0), (.int .i64 0), (.int .i64 0), (.str []), (.is [] .nil), (.bool false)], none, 0, 0⟩,
  ⟨(some 5), .move (.c (.bool false)), none, 1, 0⟩]
def f18r1 : List AOper := [
  ⟨(some 6), .move (.t 0), none, 0, 0⟩,
  ⟨(some 7), .move (.t 1), none, 0, 0⟩,
  ⟨(some 8), .call (.c (.fn 38 [] [])) [(.t 6), (.t 7)], none, 0, 3⟩,
  ⟨(some 9), .un .not (.t 8), none, 0, 7⟩]
def f18r2 : List AOper := [
  ⟨(some 10), .build [(.int .i64 0), (.int .i64 0), (.int .i64 0), (.str []), (.is [] .nil), (.bool false)] [], none, 0, 0⟩,
  ⟨none, .store 6 (.t 4) (.t 10), none, 0, 1⟩,
  ⟨(some 5), .move (.c (.bool false)), none, 0, 3⟩]
def f18r3 : List AOper := [
  ⟨(some 11), .move (.t 0), none, 0, 0⟩,
  ⟨(some 12), .nilCheck (.t 11), none, 0, 1⟩,
  ⟨(some 13), .fieldAddr 0 (.t 12), none, 0, 3⟩,
  ⟨(some 14), .load false 1 (.t 13), none, 0, 7⟩,
  ⟨(some 15), .move (.t 1), none, 0, 0⟩,
  ⟨(some 16), .idxAddr 6 (.t 14) (.t 15), none, 0, 31⟩,
  ⟨(some 17), .load true 6 (.t 16), none, 0, 63⟩,
  ⟨(some 18), .call (.c (.fn 28 [] [])) [(.t 17)], none, 0, 127⟩,
  ⟨none, .store 6 (.t 4) (.t 18), none, 0, 255⟩,
  ⟨(some 5), .move (.c (.bool true)), none, 0, 511⟩]
def f18c : ACode :=
  .seq (.region false f18r0 [0, 1, 4] 1)
  (.seq (.seq (.region false f18r1 [0, 1, 4, 9] 0)
  (.cond (.t 9)
    (.seq (.region false f18r2 [4, 5] 0)
    (.ret))
    (.skip)))
  (.seq (.region false f18r3 [4, 5] 0)
  (.ret)))
def f18 : AFn := ⟨2, 19, [.cell 4 true 6, .tmp 5], f18c, 1, none⟩
def f18k : List (Nat × List Nat) := [(0, [0, 1, 4]), (1, [0, 1, 4, 9]), (2, [4, 5]), (3, [4, 5])]
def f18v : List Nat := []

/-! 19: (*mortise/ctype.Table).Complete, parameters [23, 3, 22], results [35] -/
def f19r0 : List AOper := [
  ⟨(some 6), .move (.c (.int .i64 0)), none, 0, 0⟩]
def f19r1 : List AOper := [
  ⟨(some 9), .move (.t 0), none, 0, 0⟩,
  ⟨(some 10), .call (.c (.fn 36 [] [])) [(.t 9)], none, 0, 1⟩,
  ⟨(some 11), .un .not (.t 10), none, 0, 3⟩,
  ⟨(some 8), .move (.t 11), none, 0, 7⟩]
def f19r2 : List AOper := [
  ⟨(some 6), .move (.c (.int .i64 1)), none, 0, 0⟩]
def f19r3 : List AOper := [
  ⟨(some 13), .move (.t 0), none, 0, 0⟩,
  ⟨(some 14), .move (.t 1), none, 0, 0⟩,
  ⟨(some 15), .call (.c (.fn 45 [] [])) [(.t 13), (.t 14)], none, 0, 3⟩,
  ⟨(some 16), .un .not (.t 15), none, 0, 7⟩,
  ⟨(some 12), .move (.t 16), none, 0, 15⟩]
def f19r4 : List AOper := [
  ⟨(some 6), .move (.c (.int .i64 30)), none, 0, 0⟩]
def f19r5 : List AOper := [
  ⟨(some 18), .move (.t 0), none, 0, 0⟩,
  ⟨(some 19), .nilCheck (.t 18), none, 0, 1⟩,
  ⟨(some 20), .fieldAddr 0 (.t 19), none, 0, 3⟩,
  ⟨(some 21), .load false 1 (.t 20), none, 0, 7⟩,
  ⟨(some 22), .move (.t 1), none, 0, 0⟩,
  ⟨(some 23), .idxAddr 6 (.t 21) (.t 22), none, 0, 31⟩,
  ⟨(some 24), .fieldAddr 5 (.t 23), none, 0, 63⟩,
  ⟨(some 25), .load false 1 (.t 24), none, 0, 127⟩,
  ⟨(some 17), .move (.t 25), none, 0, 255⟩]
def f19r6 : List AOper := [
  ⟨(some 6), .move (.c (.int .i64 33)), none, 0, 0⟩]
def f19r7 : List AOper := [
  ⟨(some 26), .move (.t 0), none, 0, 0⟩,
  ⟨(some 27), .move (.t 2), none, 0, 0⟩,
  ⟨(some 28), .call (.c (.fn 30 [] [])) [(.t 26), (.t 27)], none, 0, 3⟩,
  ⟨(some 7), .move (.t 28), none, 0, 7⟩]
def f19r8 : List AOper := [
  ⟨(some 29), .move (.t 7), none, 0, 0⟩,
  ⟨(some 30), .bin .neq (.t 29) (.c (.int .i64 0)), none, 0, 1⟩]
def f19r9 : List AOper := [
  ⟨(some 31), .move (.t 7), none, 0, 0⟩,
  ⟨(some 6), .move (.t 31), none, 0, 1⟩]
def f19q10 : List AOper := [
  ⟨(some 32), .move (.t 0), none, 0, 0⟩,
  ⟨(some 33), .nilCheck (.t 32), none, 0, 1⟩,
  ⟨(some 34), .fieldAddr 0 (.t 33), none, 0, 3⟩,
  ⟨(some 35), .load false 1 (.t 34), none, 0, 7⟩,
  ⟨(some 36), .move (.t 1), none, 0, 0⟩,
  ⟨(some 37), .move (.t 2), none, 0, 0⟩,
  ⟨(some 38), .call (.c (.fn 46 [] [])) [(.t 37)], none, 0, 32⟩,
  ⟨(some 39), .idxAddr 6 (.t 35) (.t 36), none, 0, 127⟩,
  ⟨(some 40), .fieldAddr 4 (.t 39), none, 0, 255⟩,
  ⟨none, .store 1 (.t 40) (.t 38), none, 0, 511⟩]
def f19r10 : List AOper := f19q10
def f19r11 : List AOper := [
  ⟨(some 41), .move (.t 0), none, 0, 0⟩,
  ⟨(some 42), .nilCheck (.t 41), none, 0, 1⟩,
  ⟨(some 43), .fieldAddr 0 (.t 42), none, 0, 3⟩,
  ⟨(some 44), .load false 1 (.t 43), none, 0, 7⟩,
  ⟨(some 45), .move (.t 1), none, 0, 0⟩,
  ⟨(some 46), .idxAddr 6 (.t 44) (.t 45), none, 0, 31⟩,
  ⟨(some 47), .fieldAddr 5 (.t 46), none, 0, 63⟩,
  ⟨none, .store 1 (.t 47) (.c (.bool true)), none, 0, 127⟩]
def f19r12 : List AOper := [
  ⟨(some 6), .move (.c (.int .i64 0)), none, 0, 0⟩]
theorem f19r10_s : staticOK 0 f19r10 = true := by rfl
theorem f19r10_w {A : Tab} {nt : Nat} {keep : List Nat} {n : Nat} {e : Env} {h : Heap} (hr : (bkeep keep (stepsF nt (stepF A true) h.length f19r10 e (h ++ List.replicate n .free))).isSome = true) : Brun A nt (.region true f19r10 keep n) e h = bkeep keep (stepsF nt (stepF A true) h.length f19r10 e (h ++ List.replicate n .free)) := Brun_drawnS f19r10_s hr
theorem f19r10_u (nt base : Nat) (step : Nat → AOp → Env → Heap → Option (AV × Heap)) (e : Env) (h : Heap) : stepsF nt step base f19r10 e h = stepsF nt step base f19q10 e h := rfl
def f19c : ACode :=
  .seq (.region false f19r0 [0, 1, 2] 0)
  (.seq (.block 0 (.seq (.region false f19r1 [0, 1, 2, 8] 0)
    (.cond (.t 8)
      (.seq (.region false f19r2 [6] 0)
      (.ret))
      (.seq (.region false f19r3 [0, 1, 2, 12] 0)
      (.cond (.t 12)
        (.seq (.region false f19r4 [6] 0)
        (.ret))
        (.seq (.region false f19r5 [0, 1, 2, 17] 0)
        (.cond (.t 17)
          (.seq (.region false f19r6 [6] 0)
          (.ret))
          (.skip))))))))
  (.seq (.seq (.region false f19r7 [0, 1, 2, 7] 0)
  (.seq (.region false f19r8 [0, 1, 2, 7, 30] 0)
  (.cond (.t 30)
    (.seq (.region false f19r9 [6] 0)
    (.ret))
    (.skip))))
  (.seq (.region true f19r10 [0, 1] 0)
  (.seq (.region false f19r11 [] 0)
  (.seq (.region false f19r12 [6] 0)
  (.ret))))))
def f19 : AFn := ⟨3, 48, [.tmp 6], f19c, 1, none⟩
def f19k : List (Nat × List Nat) := [(0, [0, 1, 2]), (1, [0, 1, 2, 8]), (3, [0, 1, 2, 12]), (5, [0, 1, 2, 17]), (6, [6]), (4, [6]), (2, [6]), (7, [0, 1, 2, 7]), (8, [0, 1, 2, 7, 30]), (9, [6]), (10, [0, 1]), (11, []), (12, [6])]
def f19v : List Nat := []

/-! 20: mortise/mortiseref03.Equal, parameters [42, 42], results [4] -/
def f20r0 : List AOper := [
  ⟨(some 2), .box true (.t 0), none, 0, 0⟩,
  ⟨(some 3), .box true (.t 1), none, 0, 0⟩,
  ⟨(some 4), .move (.c (.bool false)), none, 0, 0⟩]
def f20r1 : List AOper := [
  ⟨(some 6), .fieldAddr 0 (.t 2), none, 0, 0⟩,
  ⟨(some 7), .load false 1 (.t 6), none, 0, 1⟩,
  ⟨(some 8), .fieldAddr 0 (.t 3), none, 0, 0⟩,
  ⟨(some 9), .load false 1 (.t 8), none, 0, 4⟩,
  ⟨(some 10), .bin .neq (.t 7) (.t 9), none, 0, 15⟩,
  ⟨(some 11), .move (.t 10), none, 0, 31⟩,
  ⟨(some 12), .fieldAddr 1 (.t 2), (some (11, false)), 0, 63⟩,
  ⟨(some 13), .load false 1 (.t 12), (some (11, false)), 0, 127⟩,
  ⟨(some 14), .fieldAddr 1 (.t 3), (some (11, false)), 0, 63⟩,
  ⟨(some 15), .load false 1 (.t 14), (some (11, false)), 0, 319⟩,
  ⟨(some 16), .bin .neq (.t 13) (.t 15), (some (11, false)), 0, 1023⟩,
  ⟨(some 17), .pick (.t 11) (.c (.bool true)) (.t 16), none, 0, 2047⟩,
  ⟨(some 18), .move (.t 17), none, 0, 4095⟩,
  ⟨(some 19), .fieldAddr 2 (.t 2), (some (18, false)), 0, 8191⟩,
  ⟨(some 20), .load false 1 (.t 19), (some (18, false)), 0, 16383⟩,
  ⟨(some 21), .fieldAddr 2 (.t 3), (some (18, false)), 0, 8191⟩,
  ⟨(some 22), .load false 1 (.t 21), (some (18, false)), 0, 40959⟩,
  ⟨(some 23), .bin .neq (.t 20) (.t 22), (some (18, false)), 0, 131071⟩,
  ⟨(some 24), .pick (.t 18) (.c (.bool true)) (.t 23), none, 0, 262143⟩,
  ⟨(some 25), .move (.t 24), none, 0, 524287⟩,
  ⟨(some 26), .fieldAddr 3 (.t 2), (some (25, false)), 0, 1048575⟩,
  ⟨(some 27), .load false 1 (.t 26), (some (25, false)), 0, 2097151⟩,
  ⟨(some 28), .fieldAddr 3 (.t 3), (some (25, false)), 0, 1048575⟩,
  ⟨(some 29), .load false 1 (.t 28), (some (25, false)), 0, 5242879⟩,
  ⟨(some 30), .bin .neq (.t 27) (.t 29), (some (25, false)), 0, 16777215⟩,
  ⟨(some 31), .pick (.t 25) (.c (.bool true)) (.t 30), none, 0, 33554431⟩,
  ⟨(some 32), .move (.t 31), none, 0, 67108863⟩,
  ⟨(some 33), .fieldAddr 5 (.t 2), (some (32, false)), 0, 134217727⟩,
  ⟨(some 34), .load false 1 (.t 33), (some (32, false)), 0, 268435455⟩,
  ⟨(some 35), .fieldAddr 5 (.t 3), (some (32, false)), 0, 134217727⟩,
  ⟨(some 36), .load false 1 (.t 35), (some (32, false)), 0, 671088639⟩,
  ⟨(some 37), .eq true .bool (.t 34) (.t 36), (some (32, false)), 0, 2147483647⟩,
  ⟨(some 38), .pick (.t 32) (.c (.bool true)) (.t 37), none, 0, 4294967295⟩,
  ⟨(some 39), .move (.t 38), none, 0, 8589934591⟩,
  ⟨(some 40), .fieldAddr 4 (.t 2), (some (39, false)), 0, 17179869183⟩,
  ⟨(some 41), .load false 1 (.t 40), (some (39, false)), 0, 34359738367⟩,
  ⟨(some 42), .len 1 (.t 41), (some (39, false)), 0, 68719476735⟩,
  ⟨(some 43), .fieldAddr 4 (.t 3), (some (39, false)), 0, 17179869183⟩,
  ⟨(some 44), .load false 1 (.t 43), (some (39, false)), 0, 154618822655⟩,
  ⟨(some 45), .len 1 (.t 44), (some (39, false)), 0, 429496729599⟩,
  ⟨(some 46), .bin .neq (.t 42) (.t 45), (some (39, false)), 0, 1099511627775⟩,
  ⟨(some 47), .pick (.t 39) (.c (.bool true)) (.t 46), none, 0, 2199023255551⟩]
def f20r2 : List AOper := [
  ⟨(some 4), .move (.c (.bool false)), none, 0, 0⟩]
def f20r3 : List AOper := [
  ⟨(some 5), .move (.c (.int .i64 0)), none, 0, 0⟩]
def f20r4 : List AOper := [
  ⟨(some 48), .move (.t 5), none, 0, 0⟩,
  ⟨(some 49), .fieldAddr 4 (.t 2), none, 0, 0⟩,
  ⟨(some 50), .load false 1 (.t 49), none, 0, 2⟩,
  ⟨(some 51), .len 1 (.t 50), none, 0, 6⟩,
  ⟨(some 52), .bin .lss (.t 48) (.t 51), none, 0, 15⟩]
def f20q5 : List AOper := [
  ⟨(some 55), .fieldAddr 4 (.t 2), none, 0, 0⟩,
  ⟨(some 56), .load false 1 (.t 55), none, 0, 1⟩,
  ⟨(some 57), .move (.t 5), none, 0, 0⟩,
  ⟨(some 58), .idxAddr 3 (.t 56) (.t 57), none, 0, 7⟩,
  ⟨(some 59), .load true 3 (.t 58), none, 0, 15⟩,
  ⟨(some 60), .fieldAddr 4 (.t 3), none, 0, 0⟩,
  ⟨(some 61), .load false 1 (.t 60), none, 0, 32⟩,
  ⟨(some 62), .move (.t 5), none, 0, 0⟩,
  ⟨(some 63), .idxAddr 3 (.t 61) (.t 62), none, 0, 224⟩,
  ⟨(some 64), .load true 3 (.t 63), none, 0, 480⟩,
  ⟨(some 65), .eq true (.agg [.str, .int .i64, .int .i64]) (.t 59) (.t 64), none, 0, 1023⟩]
def f20r5 : List AOper := f20q5
def f20r6 : List AOper := [
  ⟨(some 4), .move (.c (.bool false)), none, 0, 0⟩]
def f20r7 : List AOper := [
  ⟨(some 53), .move (.t 5), none, 0, 0⟩,
  ⟨(some 54), .bin .add (.t 53) (.c (.int .i64 1)), none, 0, 1⟩,
  ⟨(some 5), .move (.t 54), none, 0, 3⟩]
def f20m4 : ACode :=
  .seq (.seq (.region false f20r4 [2, 3, 5, 52] 0)
  (.cond (.t 52)
    (.skip)
    (.exit 0)))
  (.seq (.block 1 (.seq (.region true f20r5 [2, 3, 5, 65] 0)
    (.cond (.t 65)
      (.seq (.region false f20r6 [4] 0)
      (.ret))
      (.skip))))
  (.region false f20r7 [2, 3, 5] 0))
def f20l4 : ACode := f20m4
theorem f20l4_b {A : Tab} {nt : Nat} {e : Env} {h : Heap} : Brun A nt f20l4 e h = Brun A nt f20m4 e h := rfl
def f20r8 : List AOper := [
  ⟨(some 4), .move (.c (.bool true)), none, 0, 0⟩]
theorem f20r5_s : staticOK 0 f20r5 = true := by rfl
theorem f20r5_w {A : Tab} {nt : Nat} {keep : List Nat} {n : Nat} {e : Env} {h : Heap} (hr : (bkeep keep (stepsF nt (stepF A true) h.length f20r5 e (h ++ List.replicate n .free))).isSome = true) : Brun A nt (.region true f20r5 keep n) e h = bkeep keep (stepsF nt (stepF A true) h.length f20r5 e (h ++ List.replicate n .free)) := Brun_drawnS f20r5_s hr
theorem f20r5_u (nt base : Nat) (step : Nat → AOp → Env → Heap → Option (AV × Heap)) (e : Env) (h : Heap) : stepsF nt step base f20r5 e h = stepsF nt step base f20q5 e h := rfl
def f20c : ACode :=
  .seq (.region false f20r0 [2, 3] 0)
  (.seq (.seq (.region false f20r1 [2, 3, 47] 0)
  (.cond (.t 47)
    (.seq (.region false f20r2 [4] 0)
    (.ret))
    (.skip)))
  (.seq (.seq (.region false f20r3 [2, 3, 5] 0)
  (.block 0 (.loop f20l4)))
  (.seq (.region false f20r8 [4] 0)
  (.ret))))
def f20 : AFn := ⟨2, 66, [.tmp 4], f20c, 1, none⟩
def f20k : List (Nat × List Nat) := [(0, [2, 3]), (1, [2, 3, 47]), (2, [4]), (3, [2, 3, 5]), (4, [2, 3, 5, 52]), (6, [2, 3, 5, 65]), (7, [4]), (5, [2, 3, 5]), (8, [4])]
def f20v : List Nat := [3, 2]

/-! 21: (*mortise/ctype.Table).Whole, parameters [23, 3], results [4] -/
def f21r0 : List AOper := [
  ⟨(some 4), .move (.c (.bool false)), none, 0, 0⟩]
def f21r1 : List AOper := [
  ⟨(some 6), .move (.t 0), none, 0, 0⟩,
  ⟨(some 7), .move (.t 1), none, 0, 0⟩,
  ⟨(some 8), .call (.c (.fn 42 [] [])) [(.t 6), (.t 7)], none, 0, 3⟩,
  ⟨(some 5), .move (.t 8), none, 0, 7⟩]
def f21r2 : List AOper := [
  ⟨(some 9), .move (.t 5), none, 0, 0⟩]
def f21r3 : List AOper := [
  ⟨(some 11), .bin .eql (.t 9) (.c (.int .i64 0)), none, 0, 0⟩,
  ⟨(some 10), .move (.t 11), none, 0, 1⟩]
def f21r4 : List AOper := [
  ⟨(some 12), .bin .eql (.t 9) (.c (.int .i64 1)), none, 0, 0⟩,
  ⟨(some 10), .move (.t 12), none, 0, 1⟩]
def f21r5 : List AOper := [
  ⟨(some 4), .move (.c (.bool false)), none, 0, 0⟩]
def f21r6 : List AOper := [
  ⟨(some 14), .bin .eql (.t 9) (.c (.int .i64 14)), none, 0, 0⟩,
  ⟨(some 13), .move (.t 14), none, 0, 1⟩]
def f21r7 : List AOper := [
  ⟨(some 15), .move (.t 0), none, 0, 0⟩,
  ⟨(some 16), .nilCheck (.t 15), none, 0, 1⟩,
  ⟨(some 17), .fieldAddr 0 (.t 16), none, 0, 3⟩,
  ⟨(some 18), .load false 1 (.t 17), none, 0, 7⟩,
  ⟨(some 19), .move (.t 1), none, 0, 0⟩,
  ⟨(some 20), .idxAddr 6 (.t 18) (.t 19), none, 0, 31⟩,
  ⟨(some 21), .fieldAddr 2 (.t 20), none, 0, 63⟩,
  ⟨(some 22), .load false 1 (.t 21), none, 0, 127⟩,
  ⟨(some 23), .bin .geq (.t 22) (.c (.int .i64 0)), none, 0, 255⟩,
  ⟨(some 4), .move (.t 23), none, 0, 511⟩]
def f21r8 : List AOper := [
  ⟨(some 25), .bin .eql (.t 9) (.c (.int .i64 15)), none, 0, 0⟩,
  ⟨(some 24), .move (.t 25), none, 0, 1⟩]
def f21r9 : List AOper := [
  ⟨(some 26), .bin .eql (.t 9) (.c (.int .i64 16)), none, 0, 0⟩,
  ⟨(some 24), .move (.t 26), none, 0, 1⟩]
def f21r10 : List AOper := [
  ⟨(some 27), .move (.t 0), none, 0, 0⟩,
  ⟨(some 28), .nilCheck (.t 27), none, 0, 1⟩,
  ⟨(some 29), .fieldAddr 0 (.t 28), none, 0, 3⟩,
  ⟨(some 30), .load false 1 (.t 29), none, 0, 7⟩,
  ⟨(some 31), .move (.t 1), none, 0, 0⟩,
  ⟨(some 32), .idxAddr 6 (.t 30) (.t 31), none, 0, 31⟩,
  ⟨(some 33), .fieldAddr 5 (.t 32), none, 0, 63⟩,
  ⟨(some 34), .load false 1 (.t 33), none, 0, 127⟩,
  ⟨(some 4), .move (.t 34), none, 0, 255⟩]
def f21r11 : List AOper := [
  ⟨(some 4), .move (.c (.bool true)), none, 0, 0⟩]
def f21c : ACode :=
  .seq (.region false f21r0 [0, 1] 0)
  (.seq (.seq (.region false f21r1 [0, 1, 5] 0)
  (.seq (.region false f21r2 [0, 1, 9] 0)
  (.block 0 (.seq (.seq (.region false f21r3 [0, 1, 9, 10] 0)
    (.cond (.t 10)
      (.skip)
      (.region false f21r4 [0, 1, 9, 10] 0)))
    (.cond (.t 10)
      (.seq (.region false f21r5 [4] 0)
      (.ret))
      (.seq (.region false f21r6 [0, 1, 9, 13] 0)
      (.cond (.t 13)
        (.seq (.region false f21r7 [4] 0)
        (.ret))
        (.seq (.seq (.region false f21r8 [0, 1, 9, 24] 0)
        (.cond (.t 24)
          (.skip)
          (.region false f21r9 [0, 1, 24] 0)))
        (.cond (.t 24)
          (.seq (.region false f21r10 [4] 0)
          (.ret))
          (.skip))))))))))
  (.seq (.region false f21r11 [4] 0)
  (.ret)))
def f21 : AFn := ⟨2, 35, [.tmp 4], f21c, 1, none⟩
def f21k : List (Nat × List Nat) := [(0, [0, 1]), (1, [0, 1, 5]), (2, [0, 1, 9]), (3, [0, 1, 9, 10]), (4, [0, 1, 9, 10]), (6, [0, 1, 9, 13]), (8, [0, 1, 9, 24]), (9, [0, 1, 24]), (10, [4]), (7, [4]), (5, [4]), (11, [4])]
def f21v : List Nat := []

/-! 22: (*mortise/ctype.Table).Scalar, parameters [23, 3], results [4] -/
def f22r0 : List AOper := [
  ⟨(some 4), .move (.c (.bool false)), none, 0, 0⟩]
def f22r1 : List AOper := [
  ⟨(some 6), .move (.t 0), none, 0, 0⟩,
  ⟨(some 7), .move (.t 1), none, 0, 0⟩,
  ⟨(some 8), .call (.c (.fn 42 [] [])) [(.t 6), (.t 7)], none, 0, 3⟩,
  ⟨(some 5), .move (.t 8), none, 0, 7⟩]
def f22r2 : List AOper := [
  ⟨(some 9), .move (.t 5), none, 0, 0⟩,
  ⟨(some 10), .bin .geq (.t 9) (.c (.int .i64 2)), none, 0, 1⟩,
  ⟨(some 11), .move (.t 10), none, 0, 3⟩,
  ⟨(some 12), .move (.t 5), (some (11, true)), 0, 7⟩,
  ⟨(some 13), .bin .leq (.t 12) (.c (.int .i64 13)), (some (11, true)), 0, 15⟩,
  ⟨(some 14), .pick (.t 11) (.t 13) (.c (.bool false)), none, 0, 31⟩,
  ⟨(some 4), .move (.t 14), none, 0, 63⟩]
def f22c : ACode :=
  .seq (.region false f22r0 [0, 1] 0)
  (.seq (.region false f22r1 [5] 0)
  (.seq (.region false f22r2 [4] 0)
  (.ret)))
def f22 : AFn := ⟨2, 15, [.tmp 4], f22c, 1, none⟩
def f22k : List (Nat × List Nat) := [(0, [0, 1]), (1, [5]), (2, [4])]
def f22v : List Nat := []

/-! 23: (*mortise/ctype.Table).Len, parameters [23], results [3] -/
def f23r0 : List AOper := [
  ⟨(some 2), .move (.c (.int .i64 0)), none, 0, 0⟩]
def f23r1 : List AOper := [
  ⟨(some 3), .move (.t 0), none, 0, 0⟩,
  ⟨(some 4), .call (.c (.fn 36 [] [])) [(.t 3)], none, 0, 1⟩,
  ⟨(some 5), .un .not (.t 4), none, 0, 3⟩]
def f23r2 : List AOper := [
  ⟨(some 2), .move (.c (.int .i64 0)), none, 0, 0⟩]
def f23r3 : List AOper := [
  ⟨(some 6), .move (.t 0), none, 0, 0⟩,
  ⟨(some 7), .nilCheck (.t 6), none, 0, 1⟩,
  ⟨(some 8), .fieldAddr 0 (.t 7), none, 0, 3⟩,
  ⟨(some 9), .load false 1 (.t 8), none, 0, 7⟩,
  ⟨(some 10), .len 1 (.t 9), none, 0, 15⟩,
  ⟨(some 2), .move (.t 10), none, 0, 31⟩]
def f23c : ACode :=
  .seq (.region false f23r0 [0] 0)
  (.seq (.seq (.region false f23r1 [0, 5] 0)
  (.cond (.t 5)
    (.seq (.region false f23r2 [2] 0)
    (.ret))
    (.skip)))
  (.seq (.region false f23r3 [2] 0)
  (.ret)))
def f23 : AFn := ⟨1, 11, [.tmp 2], f23c, 1, none⟩
def f23k : List (Nat × List Nat) := [(0, [0]), (1, [0, 5]), (2, [2]), (3, [2])]
def f23v : List Nat := []

/-! 24: (*mortise/ctype.Table).Rows, parameters [23], results [25] -/
def f24r0 : List AOper := [
  ⟨(some 2), .move (.c (.is [] .nil)), none, 0, 0⟩]
def f24r1 : List AOper := [
  ⟨(some 3), .move (.c (.is [] .nil)), none, 0, 0⟩]
def f24r2 : List AOper := [
  ⟨(some 5), .move (.t 0), none, 0, 0⟩,
  ⟨(some 6), .call (.c (.fn 23 [] [])) [(.t 5)], none, 0, 1⟩,
  ⟨(some 7), .move (.c (.int .i64 0)), none, 0, 0⟩]
def f24r3 : List AOper := [
  ⟨(some 8), .bin .lss (.t 7) (.t 6), none, 0, 0⟩]
def f24r4 : List AOper := [
  ⟨(some 9), .move (.t 7), none, 0, 0⟩,
  ⟨(some 4), .move (.t 9), none, 0, 1⟩]
def f24r5 : List AOper := [
  ⟨(some 10), .move (.t 3), none, 0, 0⟩,
  ⟨(some 11), .move (.t 0), none, 0, 0⟩,
  ⟨(some 12), .nilCheck (.t 11), none, 0, 2⟩,
  ⟨(some 13), .fieldAddr 0 (.t 12), none, 0, 6⟩,
  ⟨(some 14), .load false 1 (.t 13), none, 0, 14⟩,
  ⟨(some 15), .move (.t 4), none, 0, 0⟩,
  ⟨(some 16), .idxAddr 6 (.t 14) (.t 15), none, 0, 62⟩,
  ⟨(some 17), .load true 6 (.t 16), none, 0, 126⟩,
  ⟨(some 18), .call (.c (.fn 28 [] [])) [(.t 17)], none, 0, 254⟩,
  ⟨(some 19), .buildSlice true 6 1 [(.int .i64 0), (.int .i64 0), (.int .i64 0), (.str []), (.is [] .nil), (.bool false)] [(0, 6, (.t 18))], none, 0, 510⟩,
  ⟨(some 20), .append true 6 72 (.t 10) (.t 19), none, 0, 1023⟩,
  ⟨(some 3), .move (.t 20), none, 1, 2047⟩]
def f24r6 : List AOper := [
  ⟨(some 21), .bin .add (.t 7) (.c (.int .i64 1)), none, 0, 0⟩,
  ⟨(some 7), .move (.t 21), none, 0, 1⟩]
def f24m3 : ACode :=
  .seq (.region false f24r3 [0, 3, 6, 7, 8] 0)
  (.seq (.cond (.t 8)
    (.skip)
    (.exit 0))
  (.seq (.block 1 (.seq (.region false f24r4 [0, 3, 4, 6, 7] 0)
    (.region false f24r5 [0, 3, 6, 7] 1)))
  (.region false f24r6 [0, 3, 6, 7] 0)))
def f24l3 : ACode := f24m3
theorem f24l3_b {A : Tab} {nt : Nat} {e : Env} {h : Heap} : Brun A nt f24l3 e h = Brun A nt f24m3 e h := rfl
def f24r7 : List AOper := [
  ⟨(some 22), .move (.t 3), none, 0, 0⟩,
  ⟨(some 2), .move (.t 22), none, 0, 1⟩]
def f24c : ACode :=
  .seq (.region false f24r0 [0] 0)
  (.seq (.region false f24r1 [0, 3] 0)
  (.seq (.seq (.region false f24r2 [0, 3, 6, 7] 0)
  (.block 0 (.loop f24l3)))
  (.seq (.region false f24r7 [2] 0)
  (.ret))))
def f24 : AFn := ⟨1, 23, [.tmp 2], f24c, 1, none⟩
def f24k : List (Nat × List Nat) := [(0, [0]), (1, [0, 3]), (2, [0, 3, 6, 7]), (3, [0, 3, 6, 7, 8]), (4, [0, 3, 4, 6, 7]), (5, [0, 3, 6, 7]), (6, [0, 3, 6, 7]), (7, [2])]
def f24v : List Nat := [20, 19]

/-! 25: (*mortise/ctype.Table).Copy, parameters [23], results [23] -/
def f25r0 : List AOper := [
  ⟨(some 2), .move (.c .nilp), none, 0, 0⟩]
def f25r1 : List AOper := [
  ⟨(some 6), .move (.t 0), none, 0, 0⟩,
  ⟨(some 7), .call (.c (.fn 36 [] [])) [(.t 6)], none, 0, 1⟩,
  ⟨(some 8), .un .not (.t 7), none, 0, 3⟩]
def f25r2 : List AOper := [
  ⟨(some 2), .move (.c .nilp), none, 0, 0⟩]
def f25r3 : List AOper := [
  ⟨(some 9), .move (.t 0), none, 0, 0⟩,
  ⟨(some 10), .call (.c (.fn 24 [] [])) [(.t 9)], none, 0, 1⟩,
  ⟨(some 11), .mkMap, none, 0, 0⟩,
  ⟨(some 12), .build [(.is [] .nil), .nilm] [(0, 1, (.t 10)), (1, 1, (.t 11))], none, 1, 7⟩,
  ⟨(some 13), .box false (.t 12), none, 1, 15⟩,
  ⟨(some 3), .move (.t 13), none, 2, 31⟩]
def f25r4 : List AOper := [
  ⟨(some 14), .move (.t 0), none, 0, 0⟩,
  ⟨(some 15), .nilCheck (.t 14), none, 0, 1⟩,
  ⟨(some 16), .fieldAddr 1 (.t 15), none, 0, 3⟩,
  ⟨(some 17), .load false 1 (.t 16), none, 0, 7⟩,
  ⟨(some 18), .stuck, none, 0, 15⟩]
def f25r5 : List AOper := [
  ⟨(some 19), .stuck, none, 0, 0⟩,
  ⟨(some 20), .extract (.t 19) 0, none, 0, 1⟩]
def f25r6 : List AOper := [
  ⟨(some 21), .stuck, none, 0, 0⟩,
  ⟨(some 22), .extract (.t 21) 0, none, 0, 1⟩,
  ⟨(some 23), .extract (.t 21) 1, none, 0, 1⟩,
  ⟨(some 4), .alloc false [(.int .i64 0), (.int .i64 0), (.int .i64 0)], none, 0, 0⟩,
  ⟨none, .store 3 (.t 4) (.t 22), none, 1, 11⟩,
  ⟨(some 5), .move (.t 23), none, 1, 31⟩]
def f25q7 : List AOper := [
  ⟨(some 24), .move (.t 3), none, 0, 0⟩,
  ⟨(some 25), .nilCheck (.t 24), none, 0, 1⟩,
  ⟨(some 26), .fieldAddr 1 (.t 25), none, 0, 3⟩,
  ⟨(some 27), .load false 1 (.t 26), none, 0, 7⟩,
  ⟨(some 28), .load true 3 (.t 4), none, 0, 0⟩,
  ⟨(some 29), .move (.t 5), none, 0, 0⟩,
  ⟨none, .mapUpdate true [.int .i64, .int .i64, .int .i64] (.t 27) (.t 28) (.t 29), none, 0, 63⟩]
def f25r7 : List AOper := f25q7
def f25m5 : ACode :=
  .seq (.region false f25r5 [3, 20] 0)
  (.seq (.cond (.t 20)
    (.skip)
    (.exit 0))
  (.block 1 (.seq (.region false f25r6 [3, 4, 5] 1)
    (.region true f25r7 [3] 0))))
def f25l5 : ACode := f25m5
theorem f25l5_b {A : Tab} {nt : Nat} {e : Env} {h : Heap} : Brun A nt f25l5 e h = Brun A nt f25m5 e h := rfl
def f25r8 : List AOper := [
  ⟨(some 30), .move (.t 3), none, 0, 0⟩,
  ⟨(some 2), .move (.t 30), none, 0, 1⟩]
theorem f25r7_s : staticOK 0 f25r7 = true := by rfl
theorem f25r7_w {A : Tab} {nt : Nat} {keep : List Nat} {n : Nat} {e : Env} {h : Heap} (hr : (bkeep keep (stepsF nt (stepF A true) h.length f25r7 e (h ++ List.replicate n .free))).isSome = true) : Brun A nt (.region true f25r7 keep n) e h = bkeep keep (stepsF nt (stepF A true) h.length f25r7 e (h ++ List.replicate n .free)) := Brun_drawnS f25r7_s hr
theorem f25r7_u (nt base : Nat) (step : Nat → AOp → Env → Heap → Option (AV × Heap)) (e : Env) (h : Heap) : stepsF nt step base f25r7 e h = stepsF nt step base f25q7 e h := rfl
def f25c : ACode :=
  .seq (.region false f25r0 [0] 0)
  (.seq (.seq (.region false f25r1 [0, 8] 0)
  (.cond (.t 8)
    (.seq (.region false f25r2 [2] 0)
    (.ret))
    (.skip)))
  (.seq (.region false f25r3 [0, 3] 2)
  (.seq (.seq (.region false f25r4 [3] 0)
  (.block 0 (.loop f25l5)))
  (.seq (.region false f25r8 [2] 0)
  (.ret)))))
def f25 : AFn := ⟨1, 31, [.tmp 2], f25c, 0, none⟩
def f25k : List (Nat × List Nat) := [(0, [0]), (1, [0, 8]), (2, [2]), (3, [0, 3]), (4, [3]), (5, [3, 20]), (6, [3, 4, 5]), (7, [3]), (8, [2])]
def f25v : List Nat := []

/-! 26: mortise/ctype.New, parameters [], results [23] -/
def f26r0 : List AOper := [
  ⟨(some 0), .move (.c .nilp), none, 0, 0⟩]
def f26r1 : List AOper := [
  ⟨(some 3), .mkMap, none, 0, 0⟩,
  ⟨(some 4), .build [(.is [] .nil), .nilm] [(1, 1, (.t 3))], none, 1, 1⟩,
  ⟨(some 5), .box false (.t 4), none, 1, 3⟩,
  ⟨(some 1), .move (.t 5), none, 2, 7⟩]
def f26r2 : List AOper := [
  ⟨(some 2), .move (.c (.int .i64 1)), none, 0, 0⟩]
def f26r3 : List AOper := [
  ⟨(some 6), .move (.t 2), none, 0, 0⟩,
  ⟨(some 7), .bin .leq (.t 6) (.c (.int .i64 11)), none, 0, 1⟩]
def f26r4 : List AOper := [
  ⟨(some 10), .move (.t 1), none, 0, 0⟩,
  ⟨(some 11), .move (.t 1), none, 0, 0⟩,
  ⟨(some 12), .nilCheck (.t 11), none, 0, 2⟩,
  ⟨(some 13), .fieldAddr 0 (.t 12), none, 0, 6⟩,
  ⟨(some 14), .load false 1 (.t 13), none, 0, 14⟩,
  ⟨(some 15), .move (.t 2), none, 0, 0⟩,
  ⟨(some 16), .build [(.int .i64 0), (.int .i64 0), (.int .i64 0), (.str []), (.is [] .nil), (.bool false)] [(0, 1, (.t 15))], none, 0, 32⟩,
  ⟨(some 17), .buildSlice false 6 1 [(.int .i64 0), (.int .i64 0), (.int .i64 0), (.str []), (.is [] .nil), (.bool false)] [(0, 6, (.t 16))], none, 0, 96⟩,
  ⟨(some 18), .append false 6 72 (.t 14) (.t 17), none, 1, 254⟩,
  ⟨(some 19), .nilCheck (.t 10), none, 2, 511⟩,
  ⟨(some 20), .fieldAddr 0 (.t 19), none, 2, 1023⟩,
  ⟨none, .store 1 (.t 20) (.t 18), none, 2, 2047⟩]
def f26r5 : List AOper := [
  ⟨(some 8), .move (.t 2), none, 0, 0⟩,
  ⟨(some 9), .bin .add (.t 8) (.c (.int .i64 1)), none, 0, 1⟩,
  ⟨(some 2), .move (.t 9), none, 0, 3⟩]
def f26m3 : ACode :=
  .seq (.seq (.region false f26r3 [1, 2, 7] 0)
  (.cond (.t 7)
    (.skip)
    (.exit 0)))
  (.seq (.block 1 (.region false f26r4 [1, 2] 2))
  (.region false f26r5 [1, 2] 0))
def f26l3 : ACode := f26m3
theorem f26l3_b {A : Tab} {nt : Nat} {e : Env} {h : Heap} : Brun A nt f26l3 e h = Brun A nt f26m3 e h := rfl
def f26r6 : List AOper := [
  ⟨(some 21), .move (.t 1), none, 0, 0⟩,
  ⟨(some 0), .move (.t 21), none, 0, 1⟩]
def f26c : ACode :=
  .seq (.region false f26r0 [] 0)
  (.seq (.region false f26r1 [1] 2)
  (.seq (.seq (.region false f26r2 [1, 2] 0)
  (.block 0 (.loop f26l3)))
  (.seq (.region false f26r6 [0] 0)
  (.ret))))
def f26 : AFn := ⟨0, 22, [.tmp 0], f26c, 0, none⟩
def f26k : List (Nat × List Nat) := [(0, []), (1, [1]), (2, [1, 2]), (3, [1, 2, 7]), (5, [1, 2]), (4, [1, 2]), (6, [0])]
def f26v : List Nat := []

/-! 27: mortise/mortiseref03.Row, parameters [42], results [42] -/
def f27r0 : List AOper := [
  ⟨(some 1), .box false (.t 0), none, 0, 0⟩,
  ⟨(some 2), .alloc false [(.int .i64 0), (.int .i64 0), (.int .i64 0), (.str []), (.is [] .nil), (.bool false)], none, 1, 0⟩]
def f27r1 : List AOper := [
  ⟨(some 3), .move (.c (.is [] .nil)), none, 0, 0⟩]
def f27r2 : List AOper := [
  ⟨(some 4), .move (.t 3), none, 0, 0⟩,
  ⟨(some 5), .fieldAddr 4 (.t 1), none, 0, 0⟩,
  ⟨(some 6), .load false 1 (.t 5), none, 0, 2⟩,
  ⟨(some 7), .append true 3 32 (.t 4) (.t 6), none, 0, 7⟩,
  ⟨(some 3), .move (.t 7), none, 1, 15⟩]
def f27r3 : List AOper := [
  ⟨(some 8), .move (.t 3), none, 0, 0⟩,
  ⟨(some 9), .fieldAddr 4 (.t 1), none, 0, 1⟩,
  ⟨none, .store 1 (.t 9) (.t 8), none, 0, 3⟩]
def f27r4 : List AOper := [
  ⟨(some 10), .load true 6 (.t 1), none, 0, 0⟩,
  ⟨none, .store 6 (.t 2) (.t 10), none, 0, 1⟩]
def f27c : ACode :=
  .seq (.region false f27r0 [1, 2] 2)
  (.seq (.region false f27r1 [1, 2, 3] 0)
  (.seq (.region false f27r2 [1, 2, 3] 1)
  (.seq (.region false f27r3 [1, 2] 0)
  (.seq (.region false f27r4 [2] 0)
  (.ret)))))
def f27 : AFn := ⟨1, 11, [.cell 2 true 6], f27c, 1, none⟩
def f27k : List (Nat × List Nat) := [(0, [1, 2]), (1, [1, 2, 3]), (2, [1, 2, 3]), (3, [1, 2]), (4, [2])]
def f27v : List Nat := [7]

/-! 28: mortise/ctype.twin, parameters [42], results [42] -/
def f28r0 : List AOper := [
  ⟨(some 1), .box false (.t 0), none, 0, 0⟩,
  ⟨(some 2), .alloc false [(.int .i64 0), (.int .i64 0), (.int .i64 0), (.str []), (.is [] .nil), (.bool false)], none, 1, 0⟩]
def f28r1 : List AOper := [
  ⟨(some 3), .fieldAddr 4 (.t 1), none, 0, 0⟩,
  ⟨(some 4), .load false 1 (.t 3), none, 0, 1⟩,
  ⟨(some 5), .call (.c (.fn 46 [] [])) [(.t 4)], none, 0, 3⟩,
  ⟨(some 6), .fieldAddr 4 (.t 1), none, 0, 7⟩,
  ⟨none, .store 1 (.t 6) (.t 5), none, 0, 15⟩]
def f28r2 : List AOper := [
  ⟨(some 7), .load true 6 (.t 1), none, 0, 0⟩,
  ⟨none, .store 6 (.t 2) (.t 7), none, 0, 1⟩]
def f28c : ACode :=
  .seq (.region false f28r0 [1, 2] 2)
  (.seq (.region false f28r1 [1, 2] 0)
  (.seq (.region false f28r2 [2] 0)
  (.ret)))
def f28 : AFn := ⟨1, 8, [.cell 2 true 6], f28c, 1, none⟩
def f28k : List (Nat × List Nat) := [(0, [1, 2]), (1, [1, 2]), (2, [2])]
def f28v : List Nat := []

/-! 29: (*mortise/ctype.Table).shaped, parameters [23, 3], results [4] -/
def f29r0 : List AOper := [
  ⟨(some 4), .move (.c (.bool false)), none, 0, 0⟩]
def f29r1 : List AOper := [
  ⟨(some 9), .move (.t 0), none, 0, 0⟩,
  ⟨(some 10), .nilCheck (.t 9), none, 0, 1⟩,
  ⟨(some 11), .fieldAddr 0 (.t 10), none, 0, 3⟩,
  ⟨(some 12), .load false 1 (.t 11), none, 0, 7⟩,
  ⟨(some 13), .move (.t 1), none, 0, 0⟩,
  ⟨(some 14), .idxAddr 6 (.t 12) (.t 13), none, 0, 31⟩,
  ⟨(some 15), .load true 6 (.t 14), none, 0, 63⟩,
  ⟨(some 5), .alloc false [(.int .i64 0), (.int .i64 0), (.int .i64 0), (.str []), (.is [] .nil), (.bool false)], none, 0, 0⟩,
  ⟨none, .store 6 (.t 5) (.t 15), none, 1, 255⟩]
def f29r2 : List AOper := [
  ⟨(some 16), .load true 6 (.t 5), none, 0, 0⟩,
  ⟨(some 6), .alloc false [(.int .i64 0), (.int .i64 0), (.int .i64 0), (.str []), (.is [] .nil), (.bool false)], none, 0, 0⟩,
  ⟨none, .store 6 (.t 6) (.t 16), none, 1, 3⟩]
def f29r3 : List AOper := [
  ⟨(some 17), .fieldAddr 4 (.t 6), none, 0, 0⟩,
  ⟨none, .store 1 (.t 17) (.c (.is [] .nil)), none, 0, 1⟩]
def f29r4 : List AOper := [
  ⟨(some 18), .fieldAddr 0 (.t 5), none, 0, 0⟩,
  ⟨(some 19), .load false 1 (.t 18), none, 0, 1⟩,
  ⟨(some 20), .build [(.int .i64 0), (.int .i64 0), (.int .i64 0), (.str []), (.is [] .nil), (.bool false)] [(0, 1, (.t 19))], none, 0, 3⟩,
  ⟨(some 7), .alloc false [(.int .i64 0), (.int .i64 0), (.int .i64 0), (.str []), (.is [] .nil), (.bool false)], none, 0, 0⟩,
  ⟨none, .store 6 (.t 7) (.t 20), none, 1, 15⟩]
def f29r5 : List AOper := [
  ⟨(some 21), .fieldAddr 0 (.t 5), none, 0, 0⟩,
  ⟨(some 22), .load false 1 (.t 21), none, 0, 1⟩]
def f29r6 : List AOper := [
  ⟨(some 24), .bin .eql (.t 22) (.c (.int .i64 13)), none, 0, 0⟩,
  ⟨(some 23), .move (.t 24), none, 0, 1⟩]
def f29r7 : List AOper := [
  ⟨(some 25), .fieldAddr 1 (.t 5), none, 0, 0⟩,
  ⟨(some 26), .load false 1 (.t 25), none, 0, 1⟩,
  ⟨(some 27), .fieldAddr 1 (.t 7), none, 0, 3⟩,
  ⟨none, .store 1 (.t 27) (.t 26), none, 0, 7⟩]
def f29r8 : List AOper := [
  ⟨(some 29), .bin .eql (.t 22) (.c (.int .i64 14)), none, 0, 0⟩,
  ⟨(some 28), .move (.t 29), none, 0, 1⟩]
def f29r9 : List AOper := [
  ⟨(some 30), .fieldAddr 1 (.t 5), none, 0, 0⟩,
  ⟨(some 31), .load false 1 (.t 30), none, 0, 1⟩,
  ⟨(some 32), .fieldAddr 2 (.t 5), none, 0, 0⟩,
  ⟨(some 33), .load false 1 (.t 32), none, 0, 4⟩,
  ⟨(some 34), .fieldAddr 1 (.t 7), none, 0, 3⟩,
  ⟨none, .store 1 (.t 34) (.t 31), none, 0, 19⟩,
  ⟨(some 35), .fieldAddr 2 (.t 7), none, 0, 63⟩,
  ⟨none, .store 1 (.t 35) (.t 33), none, 0, 127⟩]
def f29r10 : List AOper := [
  ⟨(some 37), .bin .eql (.t 22) (.c (.int .i64 12)), none, 0, 0⟩,
  ⟨(some 36), .move (.t 37), none, 0, 1⟩]
def f29r11 : List AOper := [
  ⟨(some 38), .fieldAddr 3 (.t 5), none, 0, 0⟩,
  ⟨(some 39), .load false 1 (.t 38), none, 0, 1⟩,
  ⟨(some 40), .fieldAddr 3 (.t 7), none, 0, 3⟩,
  ⟨none, .store 1 (.t 40) (.t 39), none, 0, 7⟩]
def f29r12 : List AOper := [
  ⟨(some 42), .bin .eql (.t 22) (.c (.int .i64 15)), none, 0, 0⟩,
  ⟨(some 41), .move (.t 42), none, 0, 1⟩]
def f29r13 : List AOper := [
  ⟨(some 43), .bin .eql (.t 22) (.c (.int .i64 16)), none, 0, 0⟩,
  ⟨(some 41), .move (.t 43), none, 0, 1⟩]
def f29r14 : List AOper := [
  ⟨(some 44), .fieldAddr 3 (.t 5), none, 0, 0⟩,
  ⟨(some 45), .load false 1 (.t 44), none, 0, 1⟩,
  ⟨(some 46), .fieldAddr 5 (.t 5), none, 0, 0⟩,
  ⟨(some 47), .load false 1 (.t 46), none, 0, 4⟩,
  ⟨(some 48), .fieldAddr 3 (.t 7), none, 0, 3⟩,
  ⟨none, .store 1 (.t 48) (.t 45), none, 0, 19⟩,
  ⟨(some 49), .fieldAddr 5 (.t 7), none, 0, 63⟩,
  ⟨none, .store 1 (.t 49) (.t 47), none, 0, 127⟩]
def f29r15 : List AOper := [
  ⟨(some 4), .move (.c (.bool false)), none, 0, 0⟩]
def f29r16 : List AOper := [
  ⟨(some 50), .fieldAddr 0 (.t 6), none, 0, 0⟩,
  ⟨(some 51), .load false 1 (.t 50), none, 0, 1⟩,
  ⟨(some 52), .fieldAddr 0 (.t 7), none, 0, 0⟩,
  ⟨(some 53), .load false 1 (.t 52), none, 0, 4⟩,
  ⟨(some 54), .bin .eql (.t 51) (.t 53), none, 0, 15⟩,
  ⟨(some 55), .move (.t 54), none, 0, 31⟩,
  ⟨(some 56), .fieldAddr 1 (.t 6), (some (55, true)), 0, 63⟩,
  ⟨(some 57), .load false 1 (.t 56), (some (55, true)), 0, 127⟩,
  ⟨(some 58), .fieldAddr 1 (.t 7), (some (55, true)), 0, 63⟩,
  ⟨(some 59), .load false 1 (.t 58), (some (55, true)), 0, 319⟩,
  ⟨(some 60), .bin .eql (.t 57) (.t 59), (some (55, true)), 0, 1023⟩,
  ⟨(some 61), .pick (.t 55) (.t 60) (.c (.bool false)), none, 0, 2047⟩,
  ⟨(some 62), .move (.t 61), none, 0, 4095⟩,
  ⟨(some 63), .fieldAddr 2 (.t 6), (some (62, true)), 0, 8191⟩,
  ⟨(some 64), .load false 1 (.t 63), (some (62, true)), 0, 16383⟩,
  ⟨(some 65), .fieldAddr 2 (.t 7), (some (62, true)), 0, 8191⟩,
  ⟨(some 66), .load false 1 (.t 65), (some (62, true)), 0, 40959⟩,
  ⟨(some 67), .bin .eql (.t 64) (.t 66), (some (62, true)), 0, 131071⟩,
  ⟨(some 68), .pick (.t 62) (.t 67) (.c (.bool false)), none, 0, 262143⟩,
  ⟨(some 69), .move (.t 68), none, 0, 524287⟩,
  ⟨(some 70), .fieldAddr 3 (.t 6), (some (69, true)), 0, 1048575⟩,
  ⟨(some 71), .load false 1 (.t 70), (some (69, true)), 0, 2097151⟩,
  ⟨(some 72), .fieldAddr 3 (.t 7), (some (69, true)), 0, 1048575⟩,
  ⟨(some 73), .load false 1 (.t 72), (some (69, true)), 0, 5242879⟩,
  ⟨(some 74), .bin .eql (.t 71) (.t 73), (some (69, true)), 0, 16777215⟩,
  ⟨(some 75), .pick (.t 69) (.t 74) (.c (.bool false)), none, 0, 33554431⟩,
  ⟨(some 76), .move (.t 75), none, 0, 67108863⟩,
  ⟨(some 77), .fieldAddr 5 (.t 6), (some (76, true)), 0, 134217727⟩,
  ⟨(some 78), .load false 1 (.t 77), (some (76, true)), 0, 268435455⟩,
  ⟨(some 79), .fieldAddr 5 (.t 7), (some (76, true)), 0, 134217727⟩,
  ⟨(some 80), .load false 1 (.t 79), (some (76, true)), 0, 671088639⟩,
  ⟨(some 81), .eq false .bool (.t 78) (.t 80), (some (76, true)), 0, 2147483647⟩,
  ⟨(some 82), .pick (.t 76) (.t 81) (.c (.bool false)), none, 0, 4294967295⟩,
  ⟨(some 8), .move (.t 82), none, 0, 8589934591⟩]
def f29r17 : List AOper := [
  ⟨(some 83), .move (.t 8), none, 0, 0⟩,
  ⟨(some 84), .un .not (.t 83), none, 0, 1⟩,
  ⟨(some 85), .move (.t 84), none, 0, 3⟩,
  ⟨(some 86), .fieldAddr 5 (.t 5), (some (85, false)), 0, 7⟩,
  ⟨(some 87), .load false 1 (.t 86), (some (85, false)), 0, 15⟩,
  ⟨(some 88), .un .not (.t 87), (some (85, false)), 0, 31⟩,
  ⟨(some 89), .move (.t 88), (some (85, false)), 0, 63⟩,
  ⟨(some 90), .fieldAddr 4 (.t 5), (some (89, true)), 0, 127⟩,
  ⟨(some 91), .load false 1 (.t 90), (some (89, true)), 0, 255⟩,
  ⟨(some 92), .len 1 (.t 91), (some (89, true)), 0, 511⟩,
  ⟨(some 93), .bin .gtr (.t 92) (.c (.int .i64 0)), (some (89, true)), 0, 1023⟩,
  ⟨(some 94), .pick (.t 89) (.t 93) (.c (.bool false)), (some (85, false)), 0, 2047⟩,
  ⟨(some 95), .pick (.t 85) (.c (.bool true)) (.t 94), none, 0, 4095⟩]
def f29r18 : List AOper := [
  ⟨(some 4), .move (.c (.bool false)), none, 0, 0⟩]
def f29r19 : List AOper := [
  ⟨(some 96), .fieldAddr 0 (.t 5), none, 0, 0⟩,
  ⟨(some 97), .load false 1 (.t 96), none, 0, 1⟩]
def f29r20 : List AOper := [
  ⟨(some 99), .bin .eql (.t 97) (.c (.int .i64 13)), none, 0, 0⟩,
  ⟨(some 98), .move (.t 99), none, 0, 1⟩]
def f29r21 : List AOper := [
  ⟨(some 100), .bin .eql (.t 97) (.c (.int .i64 14)), none, 0, 0⟩,
  ⟨(some 98), .move (.t 100), none, 0, 1⟩]
def f29r22 : List AOper := [
  ⟨(some 101), .fieldAddr 1 (.t 5), none, 0, 0⟩,
  ⟨(some 102), .load false 1 (.t 101), none, 0, 1⟩,
  ⟨(some 103), .bin .geq (.t 102) (.c (.int .i64 0)), none, 0, 3⟩,
  ⟨(some 104), .move (.t 103), none, 0, 7⟩,
  ⟨(some 105), .fieldAddr 1 (.t 5), (some (104, true)), 0, 15⟩,
  ⟨(some 106), .load false 1 (.t 105), (some (104, true)), 0, 31⟩,
  ⟨(some 107), .move (.t 1), (some (104, true)), 0, 15⟩,
  ⟨(some 108), .bin .lss (.t 106) (.t 107), (some (104, true)), 0, 127⟩,
  ⟨(some 109), .pick (.t 104) (.t 108) (.c (.bool false)), none, 0, 255⟩,
  ⟨(some 110), .move (.t 109), none, 0, 511⟩,
  ⟨(some 111), .fieldAddr 0 (.t 5), (some (110, true)), 0, 1023⟩,
  ⟨(some 112), .load false 1 (.t 111), (some (110, true)), 0, 2047⟩,
  ⟨(some 113), .bin .eql (.t 112) (.c (.int .i64 13)), (some (110, true)), 0, 4095⟩,
  ⟨(some 114), .move (.t 113), (some (110, true)), 0, 8191⟩,
  ⟨(some 115), .fieldAddr 2 (.t 5), (some (114, false)), 0, 16383⟩,
  ⟨(some 116), .load false 1 (.t 115), (some (114, false)), 0, 32767⟩,
  ⟨(some 117), .call (.c (.fn 40 [] [])) [(.t 116)], (some (114, false)), 0, 65535⟩,
  ⟨(some 118), .pick (.t 114) (.c (.bool true)) (.t 117), (some (110, true)), 0, 131071⟩,
  ⟨(some 119), .pick (.t 110) (.t 118) (.c (.bool false)), none, 0, 262143⟩,
  ⟨(some 4), .move (.t 119), none, 0, 524287⟩]
def f29r23 : List AOper := [
  ⟨(some 120), .fieldAddr 3 (.t 5), none, 0, 0⟩,
  ⟨(some 121), .load false 1 (.t 120), none, 0, 1⟩,
  ⟨(some 122), .call (.c (.fn 41 [] [])) [(.t 121)], none, 0, 3⟩,
  ⟨(some 4), .move (.t 122), none, 0, 7⟩]
def f29c : ACode :=
  .seq (.region false f29r0 [0, 1] 0)
  (.seq (.region false f29r1 [1, 5] 1)
  (.seq (.region false f29r2 [1, 5, 6] 1)
  (.seq (.region false f29r3 [1, 5, 6] 0)
  (.seq (.region false f29r4 [1, 5, 6, 7] 1)
  (.seq (.seq (.region false f29r5 [1, 5, 6, 7, 22] 0)
  (.block 0 (.seq (.region false f29r6 [1, 5, 6, 7, 22, 23] 0)
    (.cond (.t 23)
      (.region false f29r7 [1, 5, 6, 7] 0)
      (.seq (.region false f29r8 [1, 5, 6, 7, 22, 28] 0)
      (.cond (.t 28)
        (.region true f29r9 [1, 5, 6, 7] 0)
        (.seq (.region false f29r10 [1, 5, 6, 7, 22, 36] 0)
        (.cond (.t 36)
          (.region false f29r11 [1, 5, 6, 7] 0)
          (.seq (.seq (.region false f29r12 [1, 5, 6, 7, 22, 41] 0)
          (.cond (.t 41)
            (.skip)
            (.region false f29r13 [1, 5, 6, 7, 41] 0)))
          (.cond (.t 41)
            (.region true f29r14 [1, 5, 6, 7] 0)
            (.seq (.region false f29r15 [4] 0)
            (.ret))))))))))))
  (.seq (.region false f29r16 [1, 5, 8] 0)
  (.seq (.seq (.region false f29r17 [1, 5, 95] 0)
  (.cond (.t 95)
    (.seq (.region false f29r18 [4] 0)
    (.ret))
    (.skip)))
  (.seq (.seq (.region false f29r19 [1, 5, 97] 0)
  (.block 1 (.seq (.seq (.region false f29r20 [1, 5, 97, 98] 0)
    (.cond (.t 98)
      (.skip)
      (.region false f29r21 [1, 5, 98] 0)))
    (.cond (.t 98)
      (.seq (.region false f29r22 [4] 0)
      (.ret))
      (.skip)))))
  (.seq (.region false f29r23 [4] 0)
  (.ret))))))))))
def f29 : AFn := ⟨2, 123, [.tmp 4], f29c, 1, none⟩
def f29k : List (Nat × List Nat) := [(0, [0, 1]), (1, [1, 5]), (2, [1, 5, 6]), (3, [1, 5, 6]), (4, [1, 5, 6, 7]), (5, [1, 5, 6, 7, 22]), (7, [1, 5, 6, 7, 22, 23]), (9, [1, 5, 6, 7, 22, 28]), (11, [1, 5, 6, 7, 22, 36]), (13, [1, 5, 6, 7, 22, 41]), (14, [1, 5, 6, 7, 41]), (6, [4]), (15, [1, 5, 6, 7]), (12, [1, 5, 6, 7]), (10, [1, 5, 6, 7]), (8, [1, 5, 6, 7]), (16, [1, 5, 8]), (17, [1, 5, 95]), (18, [4]), (19, [1, 5, 97]), (20, [1, 5, 97, 98]), (21, [1, 5, 98]), (22, [4]), (23, [4])]
def f29v : List Nat := []

/-! 30: (*mortise/ctype.Table).members, parameters [23, 22], results [35] -/
def f30r0 : List AOper := [
  ⟨(some 4), .move (.c (.int .i64 0)), none, 0, 0⟩]
def f30r1 : List AOper := [
  ⟨(some 8), .move (.t 1), none, 0, 0⟩,
  ⟨(some 9), .len 1 (.t 8), none, 0, 1⟩,
  ⟨(some 10), .bin .lss (.t 9) (.c (.int .i64 1)), none, 0, 3⟩,
  ⟨(some 11), .move (.t 10), none, 0, 7⟩,
  ⟨(some 12), .move (.t 1), (some (11, false)), 0, 15⟩,
  ⟨(some 13), .len 1 (.t 12), (some (11, false)), 0, 31⟩,
  ⟨(some 14), .bin .gtr (.t 13) (.c (.int .i64 64)), (some (11, false)), 0, 63⟩,
  ⟨(some 15), .pick (.t 11) (.c (.bool true)) (.t 14), none, 0, 127⟩]
def f30r2 : List AOper := [
  ⟨(some 4), .move (.c (.int .i64 2)), none, 0, 0⟩]
def f30r3 : List AOper := [
  ⟨(some 16), .mkMap, none, 0, 0⟩,
  ⟨(some 5), .move (.t 16), none, 1, 1⟩]
def f30r4 : List AOper := [
  ⟨(some 17), .move (.t 1), none, 0, 0⟩,
  ⟨(some 18), .len 1 (.t 17), none, 0, 1⟩,
  ⟨(some 19), .move (.c (.int .i64 0)), none, 0, 0⟩]
def f30r5 : List AOper := [
  ⟨(some 20), .bin .lss (.t 19) (.t 18), none, 0, 0⟩]
def f30r6 : List AOper := [
  ⟨(some 21), .idxAddr 3 (.t 17) (.t 19), none, 0, 0⟩,
  ⟨(some 22), .load true 3 (.t 21), none, 0, 1⟩,
  ⟨(some 7), .alloc false [(.str []), (.int .i64 0), (.int .i64 0)], none, 0, 0⟩,
  ⟨none, .store 3 (.t 7) (.t 22), none, 1, 7⟩]
def f30r7 : List AOper := [
  ⟨(some 24), .move (.t 0), none, 0, 0⟩,
  ⟨(some 25), .fieldAddr 1 (.t 7), none, 0, 0⟩,
  ⟨(some 26), .load false 1 (.t 25), none, 0, 2⟩,
  ⟨(some 27), .call (.c (.fn 38 [] [])) [(.t 24), (.t 26)], none, 0, 7⟩,
  ⟨(some 28), .un .not (.t 27), none, 0, 15⟩,
  ⟨(some 23), .move (.t 28), none, 0, 31⟩]
def f30r8 : List AOper := [
  ⟨(some 4), .move (.c (.int .i64 30)), none, 0, 0⟩]
def f30r9 : List AOper := [
  ⟨(some 30), .move (.t 0), none, 0, 0⟩,
  ⟨(some 31), .fieldAddr 1 (.t 7), none, 0, 0⟩,
  ⟨(some 32), .load false 1 (.t 31), none, 0, 2⟩,
  ⟨(some 33), .call (.c (.fn 21 [] [])) [(.t 30), (.t 32)], none, 0, 7⟩,
  ⟨(some 34), .un .not (.t 33), none, 0, 15⟩,
  ⟨(some 29), .move (.t 34), none, 0, 31⟩]
def f30r10 : List AOper := [
  ⟨(some 4), .move (.c (.int .i64 50)), none, 0, 0⟩]
def f30r11 : List AOper := [
  ⟨(some 36), .fieldAddr 2 (.t 7), none, 0, 0⟩,
  ⟨(some 37), .load false 1 (.t 36), none, 0, 1⟩,
  ⟨(some 38), .bin .neq (.t 37) (.c (.int .i64 (-1))), none, 0, 3⟩,
  ⟨(some 39), .move (.t 38), none, 0, 7⟩,
  ⟨(some 40), .move (.t 0), (some (39, true)), 0, 15⟩,
  ⟨(some 41), .fieldAddr 1 (.t 7), (some (39, true)), 0, 15⟩,
  ⟨(some 42), .load false 1 (.t 41), (some (39, true)), 0, 47⟩,
  ⟨(some 43), .fieldAddr 2 (.t 7), (some (39, true)), 0, 15⟩,
  ⟨(some 44), .load false 1 (.t 43), (some (39, true)), 0, 143⟩,
  ⟨(some 45), .call (.c (.fn 47 [] [])) [(.t 40), (.t 42), (.t 44)], (some (39, true)), 0, 511⟩,
  ⟨(some 46), .un .not (.t 45), (some (39, true)), 0, 1023⟩,
  ⟨(some 47), .pick (.t 39) (.t 46) (.c (.bool false)), none, 0, 2047⟩,
  ⟨(some 35), .move (.t 47), none, 0, 4095⟩]
def f30r12 : List AOper := [
  ⟨(some 4), .move (.c (.int .i64 52)), none, 0, 0⟩]
def f30r13 : List AOper := [
  ⟨(some 49), .fieldAddr 0 (.t 7), none, 0, 0⟩,
  ⟨(some 50), .load false 1 (.t 49), none, 0, 1⟩,
  ⟨(some 51), .bin .eql (.t 50) (.c (.str [])), none, 0, 3⟩,
  ⟨(some 52), .move (.t 51), none, 0, 7⟩,
  ⟨(some 53), .fieldAddr 2 (.t 7), (some (52, true)), 0, 15⟩,
  ⟨(some 54), .load false 1 (.t 53), (some (52, true)), 0, 31⟩,
  ⟨(some 55), .bin .lss (.t 54) (.c (.int .i64 0)), (some (52, true)), 0, 63⟩,
  ⟨(some 56), .pick (.t 52) (.t 55) (.c (.bool false)), none, 0, 127⟩,
  ⟨(some 48), .move (.t 56), none, 0, 255⟩]
def f30r14 : List AOper := [
  ⟨(some 57), .fieldAddr 0 (.t 7), none, 0, 0⟩,
  ⟨(some 58), .load false 1 (.t 57), none, 0, 1⟩,
  ⟨(some 59), .bin .neq (.t 58) (.c (.str [])), none, 0, 3⟩,
  ⟨(some 60), .move (.t 59), none, 0, 7⟩,
  ⟨(some 61), .fieldAddr 0 (.t 7), (some (60, true)), 0, 15⟩,
  ⟨(some 62), .load false 1 (.t 61), (some (60, true)), 0, 31⟩,
  ⟨(some 63), .call (.c (.fn 48 [] [])) [(.t 62)], (some (60, true)), 0, 63⟩,
  ⟨(some 64), .un .not (.t 63), (some (60, true)), 0, 127⟩,
  ⟨(some 65), .move (.t 64), (some (60, true)), 0, 255⟩,
  ⟨(some 66), .fieldAddr 2 (.t 7), (some (65, false)), 0, 511⟩,
  ⟨(some 67), .load false 1 (.t 66), (some (65, false)), 0, 1023⟩,
  ⟨(some 68), .bin .eql (.t 67) (.c (.int .i64 0)), (some (65, false)), 0, 2047⟩,
  ⟨(some 69), .pick (.t 65) (.c (.bool true)) (.t 68), (some (60, true)), 0, 4095⟩,
  ⟨(some 70), .move (.t 69), (some (60, true)), 0, 8191⟩,
  ⟨(some 71), .move (.t 5), (some (70, false)), 0, 16383⟩,
  ⟨(some 72), .fieldAddr 0 (.t 7), (some (70, false)), 0, 16383⟩,
  ⟨(some 73), .load false 1 (.t 72), (some (70, false)), 0, 49151⟩,
  ⟨(some 74), .lookup false [.str] (.int .i64 0) false (.t 71) (.t 73), (some (70, false)), 0, 131071⟩,
  ⟨(some 75), .bin .gtr (.t 74) (.c (.int .i64 0)), (some (70, false)), 0, 262143⟩,
  ⟨(some 76), .pick (.t 70) (.c (.bool true)) (.t 75), (some (60, true)), 0, 524287⟩,
  ⟨(some 77), .pick (.t 60) (.t 76) (.c (.bool false)), none, 0, 1048575⟩,
  ⟨(some 48), .move (.t 77), none, 0, 2097151⟩]
def f30r15 : List AOper := [
  ⟨(some 4), .move (.c (.int .i64 31)), none, 0, 0⟩]
def f30r16 : List AOper := [
  ⟨(some 78), .move (.t 5), none, 0, 0⟩,
  ⟨(some 79), .fieldAddr 0 (.t 7), none, 0, 0⟩,
  ⟨(some 80), .load false 1 (.t 79), none, 0, 2⟩,
  ⟨(some 81), .lookup false [.str] (.int .i64 0) false (.t 78) (.t 80), none, 0, 7⟩,
  ⟨(some 82), .bin .add (.t 81) (.c (.int .i64 1)), none, 0, 15⟩,
  ⟨none, .mapUpdate false [.str] (.t 78) (.t 80) (.t 82), none, 0, 31⟩]
def f30r17 : List AOper := [
  ⟨(some 83), .bin .add (.t 19) (.c (.int .i64 1)), none, 0, 0⟩,
  ⟨(some 19), .move (.t 83), none, 0, 1⟩]
def f30m5 : ACode :=
  .seq (.region false f30r5 [0, 5, 17, 18, 19, 20] 0)
  (.seq (.cond (.t 20)
    (.skip)
    (.exit 0))
  (.seq (.block 1 (.seq (.region false f30r6 [0, 5, 7, 17, 18, 19] 1)
    (.seq (.block 2 (.seq (.region false f30r7 [0, 5, 7, 17, 18, 19, 23] 0)
      (.cond (.t 23)
        (.seq (.region false f30r8 [4] 0)
        (.ret))
        (.seq (.region false f30r9 [0, 5, 7, 17, 18, 19, 29] 0)
        (.cond (.t 29)
          (.seq (.region false f30r10 [4] 0)
          (.ret))
          (.seq (.region false f30r11 [0, 5, 7, 17, 18, 19, 35] 0)
          (.cond (.t 35)
            (.seq (.region false f30r12 [4] 0)
            (.ret))
            (.seq (.seq (.region false f30r13 [0, 5, 7, 17, 18, 19, 48] 0)
            (.cond (.t 48)
              (.skip)
              (.region false f30r14 [0, 5, 7, 17, 18, 19, 48] 0)))
            (.cond (.t 48)
              (.seq (.region false f30r15 [4] 0)
              (.ret))
              (.skip))))))))))
    (.region false f30r16 [0, 5, 17, 18, 19] 0))))
  (.region false f30r17 [0, 5, 17, 18, 19] 0)))
def f30l5 : ACode := f30m5
theorem f30l5_b {A : Tab} {nt : Nat} {e : Env} {h : Heap} : Brun A nt f30l5 e h = Brun A nt f30m5 e h := rfl
def f30r18 : List AOper := [
  ⟨(some 4), .move (.c (.int .i64 0)), none, 0, 0⟩]
def f30c : ACode :=
  .seq (.region false f30r0 [0, 1] 0)
  (.seq (.seq (.region false f30r1 [0, 1, 15] 0)
  (.cond (.t 15)
    (.seq (.region false f30r2 [4] 0)
    (.ret))
    (.skip)))
  (.seq (.region false f30r3 [0, 1, 5] 1)
  (.seq (.seq (.region false f30r4 [0, 5, 17, 18, 19] 0)
  (.block 0 (.loop f30l5)))
  (.seq (.region false f30r18 [4] 0)
  (.ret)))))
def f30 : AFn := ⟨2, 84, [.tmp 4], f30c, 1, none⟩
def f30k : List (Nat × List Nat) := [(0, [0, 1]), (1, [0, 1, 15]), (2, [4]), (3, [0, 1, 5]), (4, [0, 5, 17, 18, 19]), (5, [0, 5, 17, 18, 19, 20]), (6, [0, 5, 7, 17, 18, 19]), (7, [0, 5, 7, 17, 18, 19, 23]), (9, [0, 5, 7, 17, 18, 19, 29]), (11, [0, 5, 7, 17, 18, 19, 35]), (13, [0, 5, 7, 17, 18, 19, 48]), (14, [0, 5, 7, 17, 18, 19, 48]), (15, [4]), (12, [4]), (10, [4]), (8, [4]), (16, [0, 5, 17, 18, 19]), (17, [0, 5, 17, 18, 19]), (18, [4])]
def f30v : List Nat := []

/-! 31: (*mortise/ctype.Table).within, parameters [23, 3, 66], results [4] -/
def f31r0 : List AOper := [
  ⟨(some 6), .move (.c (.bool false)), none, 0, 0⟩]
def f31r1 : List AOper := [
  ⟨(some 10), .move (.t 2), none, 0, 0⟩,
  ⟨(some 11), .move (.t 1), none, 0, 0⟩,
  ⟨(some 12), .idxAddr 1 (.t 10) (.t 11), none, 0, 3⟩,
  ⟨(some 13), .load false 1 (.t 12), none, 0, 7⟩]
def f31r2 : List AOper := [
  ⟨(some 15), .bin .eql (.t 13) (.c (.int .i64 1)), none, 0, 0⟩,
  ⟨(some 14), .move (.t 15), none, 0, 1⟩]
def f31r3 : List AOper := [
  ⟨(some 6), .move (.c (.bool false)), none, 0, 0⟩]
def f31r4 : List AOper := [
  ⟨(some 17), .bin .eql (.t 13) (.c (.int .i64 2)), none, 0, 0⟩,
  ⟨(some 16), .move (.t 17), none, 0, 1⟩]
def f31r5 : List AOper := [
  ⟨(some 6), .move (.c (.bool true)), none, 0, 0⟩]
def f31r6 : List AOper := [
  ⟨(some 18), .move (.t 2), none, 0, 0⟩,
  ⟨(some 19), .move (.t 1), none, 0, 0⟩,
  ⟨(some 20), .idxAddr 1 (.t 18) (.t 19), none, 0, 3⟩,
  ⟨none, .store 1 (.t 20) (.c (.int .i64 1)), none, 0, 7⟩]
def f31r7 : List AOper := [
  ⟨(some 21), .move (.t 0), none, 0, 0⟩,
  ⟨(some 22), .nilCheck (.t 21), none, 0, 1⟩,
  ⟨(some 23), .fieldAddr 0 (.t 22), none, 0, 3⟩,
  ⟨(some 24), .load false 1 (.t 23), none, 0, 7⟩,
  ⟨(some 25), .move (.t 1), none, 0, 0⟩,
  ⟨(some 26), .idxAddr 6 (.t 24) (.t 25), none, 0, 31⟩,
  ⟨(some 27), .load true 6 (.t 26), none, 0, 63⟩,
  ⟨(some 7), .alloc false [(.int .i64 0), (.int .i64 0), (.int .i64 0), (.str []), (.is [] .nil), (.bool false)], none, 0, 0⟩,
  ⟨none, .store 6 (.t 7) (.t 27), none, 1, 255⟩]
def f31r8 : List AOper := [
  ⟨(some 28), .fieldAddr 0 (.t 7), none, 0, 0⟩,
  ⟨(some 29), .load false 1 (.t 28), none, 0, 1⟩,
  ⟨(some 30), .bin .eql (.t 29) (.c (.int .i64 14)), none, 0, 3⟩,
  ⟨(some 31), .move (.t 30), none, 0, 7⟩,
  ⟨(some 32), .move (.t 0), (some (31, true)), 0, 15⟩,
  ⟨(some 33), .fieldAddr 1 (.t 7), (some (31, true)), 0, 15⟩,
  ⟨(some 34), .load false 1 (.t 33), (some (31, true)), 0, 47⟩,
  ⟨(some 35), .move (.t 2), (some (31, true)), 0, 15⟩,
  ⟨(some 36), .call (.c (.fn 31 [] [])) [(.t 32), (.t 34), (.t 35)], (some (31, true)), 0, 255⟩,
  ⟨(some 37), .un .not (.t 36), (some (31, true)), 0, 511⟩,
  ⟨(some 38), .pick (.t 31) (.t 37) (.c (.bool false)), none, 0, 1023⟩]
def f31r9 : List AOper := [
  ⟨(some 6), .move (.c (.bool false)), none, 0, 0⟩]
def f31r10 : List AOper := [
  ⟨(some 39), .fieldAddr 4 (.t 7), none, 0, 0⟩,
  ⟨(some 40), .load false 1 (.t 39), none, 0, 1⟩,
  ⟨(some 41), .len 1 (.t 40), none, 0, 3⟩,
  ⟨(some 42), .move (.c (.int .i64 0)), none, 0, 0⟩]
def f31r11 : List AOper := [
  ⟨(some 43), .bin .lss (.t 42) (.t 41), none, 0, 0⟩]
def f31r12 : List AOper := [
  ⟨(some 44), .idxAddr 3 (.t 40) (.t 42), none, 0, 0⟩,
  ⟨(some 45), .load true 3 (.t 44), none, 0, 1⟩,
  ⟨(some 9), .alloc false [(.str []), (.int .i64 0), (.int .i64 0)], none, 0, 0⟩,
  ⟨none, .store 3 (.t 9) (.t 45), none, 1, 7⟩]
def f31r13 : List AOper := [
  ⟨(some 46), .move (.t 0), none, 0, 0⟩,
  ⟨(some 47), .fieldAddr 1 (.t 9), none, 0, 0⟩,
  ⟨(some 48), .load false 1 (.t 47), none, 0, 2⟩,
  ⟨(some 49), .move (.t 2), none, 0, 0⟩,
  ⟨(some 50), .call (.c (.fn 31 [] [])) [(.t 46), (.t 48), (.t 49)], none, 0, 15⟩,
  ⟨(some 51), .un .not (.t 50), none, 0, 31⟩]
def f31r14 : List AOper := [
  ⟨(some 6), .move (.c (.bool false)), none, 0, 0⟩]
def f31r15 : List AOper := [
  ⟨(some 52), .bin .add (.t 42) (.c (.int .i64 1)), none, 0, 0⟩,
  ⟨(some 42), .move (.t 52), none, 0, 1⟩]
def f31m11 : ACode :=
  .seq (.region false f31r11 [0, 1, 2, 40, 41, 42, 43] 0)
  (.seq (.cond (.t 43)
    (.skip)
    (.exit 1))
  (.seq (.block 2 (.seq (.region false f31r12 [0, 1, 2, 9, 40, 41, 42] 1)
    (.seq (.region false f31r13 [0, 1, 2, 40, 41, 42, 51] 0)
    (.cond (.t 51)
      (.seq (.region false f31r14 [6] 0)
      (.ret))
      (.skip)))))
  (.region false f31r15 [0, 1, 2, 40, 41, 42] 0)))
def f31l11 : ACode := f31m11
theorem f31l11_b {A : Tab} {nt : Nat} {e : Env} {h : Heap} : Brun A nt f31l11 e h = Brun A nt f31m11 e h := rfl
def f31r16 : List AOper := [
  ⟨(some 53), .move (.t 2), none, 0, 0⟩,
  ⟨(some 54), .move (.t 1), none, 0, 0⟩,
  ⟨(some 55), .idxAddr 1 (.t 53) (.t 54), none, 0, 3⟩,
  ⟨none, .store 1 (.t 55) (.c (.int .i64 2)), none, 0, 7⟩]
def f31r17 : List AOper := [
  ⟨(some 6), .move (.c (.bool true)), none, 0, 0⟩]
def f31c : ACode :=
  .seq (.region false f31r0 [0, 1, 2] 0)
  (.seq (.seq (.region false f31r1 [0, 1, 2, 13] 0)
  (.block 0 (.seq (.region false f31r2 [0, 1, 2, 13, 14] 0)
    (.cond (.t 14)
      (.seq (.region false f31r3 [6] 0)
      (.ret))
      (.seq (.region false f31r4 [0, 1, 2, 16] 0)
      (.cond (.t 16)
        (.seq (.region false f31r5 [6] 0)
        (.ret))
        (.skip)))))))
  (.seq (.region false f31r6 [0, 1, 2] 0)
  (.seq (.region false f31r7 [0, 1, 2, 7] 1)
  (.seq (.seq (.region false f31r8 [0, 1, 2, 7, 38] 0)
  (.cond (.t 38)
    (.seq (.region false f31r9 [6] 0)
    (.ret))
    (.skip)))
  (.seq (.seq (.region false f31r10 [0, 1, 2, 40, 41, 42] 0)
  (.block 1 (.loop f31l11)))
  (.seq (.region false f31r16 [] 0)
  (.seq (.region false f31r17 [6] 0)
  (.ret))))))))
def f31 : AFn := ⟨3, 56, [.tmp 6], f31c, 1, none⟩
def f31k : List (Nat × List Nat) := [(0, [0, 1, 2]), (1, [0, 1, 2, 13]), (2, [0, 1, 2, 13, 14]), (4, [0, 1, 2, 16]), (5, [6]), (3, [6]), (6, [0, 1, 2]), (7, [0, 1, 2, 7]), (8, [0, 1, 2, 7, 38]), (9, [6]), (10, [0, 1, 2, 40, 41, 42]), (11, [0, 1, 2, 40, 41, 42, 43]), (12, [0, 1, 2, 9, 40, 41, 42]), (13, [0, 1, 2, 40, 41, 42, 51]), (14, [6]), (15, [0, 1, 2, 40, 41, 42]), (16, []), (17, [6])]
def f31v : List Nat := []

/-! 32: (*mortise/mortiseref03.T).shaped, parameters [33, 3], results [4] -/
def f32r0 : List AOper := [
  ⟨(some 4), .move (.c (.bool false)), none, 0, 0⟩]
def f32r1 : List AOper := [
  ⟨(some 7), .move (.t 0), none, 0, 0⟩,
  ⟨(some 8), .nilCheck (.t 7), none, 0, 1⟩,
  ⟨(some 9), .fieldAddr 0 (.t 8), none, 0, 3⟩,
  ⟨(some 10), .load false 1 (.t 9), none, 0, 7⟩,
  ⟨(some 11), .move (.t 1), none, 0, 0⟩,
  ⟨(some 12), .idxAddr 6 (.t 10) (.t 11), none, 0, 31⟩,
  ⟨(some 13), .load true 6 (.t 12), none, 0, 63⟩,
  ⟨(some 5), .alloc false [(.int .i64 0), (.int .i64 0), (.int .i64 0), (.str []), (.is [] .nil), (.bool false)], none, 0, 0⟩,
  ⟨none, .store 6 (.t 5) (.t 13), none, 1, 255⟩]
def f32r2 : List AOper := [
  ⟨(some 14), .move (.t 1), none, 0, 0⟩,
  ⟨(some 15), .bin .lss (.t 14) (.c (.int .i64 11)), none, 0, 1⟩]
def f32r3 : List AOper := [
  ⟨(some 16), .load true 6 (.t 5), none, 0, 0⟩,
  ⟨(some 17), .move (.t 1), none, 0, 0⟩,
  ⟨(some 18), .bin .add (.t 17) (.c (.int .i64 1)), none, 0, 2⟩,
  ⟨(some 19), .build [(.int .i64 0), (.int .i64 0), (.int .i64 0), (.str []), (.is [] .nil), (.bool false)] [(0, 1, (.t 18))], none, 0, 6⟩,
  ⟨(some 20), .call (.c (.fn 20 [] [])) [(.t 16), (.t 19)], none, 0, 15⟩,
  ⟨(some 4), .move (.t 20), none, 0, 31⟩]
def f32r4 : List AOper := [
  ⟨(some 21), .fieldAddr 4 (.t 5), none, 0, 0⟩,
  ⟨(some 22), .load false 1 (.t 21), none, 0, 1⟩,
  ⟨(some 23), .len 1 (.t 22), none, 0, 3⟩,
  ⟨(some 24), .bin .eql (.t 23) (.c (.int .i64 0)), none, 0, 7⟩,
  ⟨(some 25), .move (.t 24), none, 0, 15⟩,
  ⟨(some 26), .fieldAddr 5 (.t 5), (some (25, true)), 0, 31⟩,
  ⟨(some 27), .load false 1 (.t 26), (some (25, true)), 0, 63⟩,
  ⟨(some 28), .un .not (.t 27), (some (25, true)), 0, 127⟩,
  ⟨(some 29), .pick (.t 25) (.t 28) (.c (.bool false)), none, 0, 255⟩,
  ⟨(some 6), .move (.t 29), none, 0, 511⟩]
def f32r5 : List AOper := [
  ⟨(some 30), .fieldAddr 0 (.t 5), none, 0, 0⟩,
  ⟨(some 31), .load false 1 (.t 30), none, 0, 1⟩]
def f32r6 : List AOper := [
  ⟨(some 33), .bin .eql (.t 31) (.c (.int .i64 12)), none, 0, 0⟩,
  ⟨(some 32), .move (.t 33), none, 0, 1⟩]
def f32r7 : List AOper := [
  ⟨(some 34), .fieldAddr 1 (.t 5), none, 0, 0⟩,
  ⟨(some 35), .load false 1 (.t 34), none, 0, 1⟩,
  ⟨(some 36), .bin .eql (.t 35) (.c (.int .i64 0)), none, 0, 3⟩,
  ⟨(some 37), .move (.t 36), none, 0, 7⟩,
  ⟨(some 38), .fieldAddr 2 (.t 5), (some (37, true)), 0, 15⟩,
  ⟨(some 39), .load false 1 (.t 38), (some (37, true)), 0, 31⟩,
  ⟨(some 40), .bin .eql (.t 39) (.c (.int .i64 0)), (some (37, true)), 0, 63⟩,
  ⟨(some 41), .pick (.t 37) (.t 40) (.c (.bool false)), none, 0, 127⟩,
  ⟨(some 42), .move (.t 41), none, 0, 255⟩,
  ⟨(some 43), .fieldAddr 3 (.t 5), (some (42, true)), 0, 511⟩,
  ⟨(some 44), .load false 1 (.t 43), (some (42, true)), 0, 1023⟩,
  ⟨(some 45), .call (.c (.fn 49 [] [])) [(.t 44)], (some (42, true)), 0, 2047⟩,
  ⟨(some 46), .pick (.t 42) (.t 45) (.c (.bool false)), none, 0, 4095⟩,
  ⟨(some 47), .move (.t 46), none, 0, 8191⟩,
  ⟨(some 48), .move (.t 6), (some (47, true)), 0, 16383⟩,
  ⟨(some 49), .pick (.t 47) (.t 48) (.c (.bool false)), none, 0, 32767⟩,
  ⟨(some 4), .move (.t 49), none, 0, 65535⟩]
def f32r8 : List AOper := [
  ⟨(some 51), .bin .eql (.t 31) (.c (.int .i64 15)), none, 0, 0⟩,
  ⟨(some 50), .move (.t 51), none, 0, 1⟩]
def f32r9 : List AOper := [
  ⟨(some 52), .bin .eql (.t 31) (.c (.int .i64 16)), none, 0, 0⟩,
  ⟨(some 50), .move (.t 52), none, 0, 1⟩]
def f32r10 : List AOper := [
  ⟨(some 53), .fieldAddr 1 (.t 5), none, 0, 0⟩,
  ⟨(some 54), .load false 1 (.t 53), none, 0, 1⟩,
  ⟨(some 55), .bin .eql (.t 54) (.c (.int .i64 0)), none, 0, 3⟩,
  ⟨(some 56), .move (.t 55), none, 0, 7⟩,
  ⟨(some 57), .fieldAddr 2 (.t 5), (some (56, true)), 0, 15⟩,
  ⟨(some 58), .load false 1 (.t 57), (some (56, true)), 0, 31⟩,
  ⟨(some 59), .bin .eql (.t 58) (.c (.int .i64 0)), (some (56, true)), 0, 63⟩,
  ⟨(some 60), .pick (.t 56) (.t 59) (.c (.bool false)), none, 0, 127⟩,
  ⟨(some 61), .move (.t 60), none, 0, 255⟩,
  ⟨(some 62), .fieldAddr 3 (.t 5), (some (61, true)), 0, 511⟩,
  ⟨(some 63), .load false 1 (.t 62), (some (61, true)), 0, 1023⟩,
  ⟨(some 64), .call (.c (.fn 49 [] [])) [(.t 63)], (some (61, true)), 0, 2047⟩,
  ⟨(some 65), .pick (.t 61) (.t 64) (.c (.bool false)), none, 0, 4095⟩,
  ⟨(some 66), .move (.t 65), none, 0, 8191⟩,
  ⟨(some 67), .move (.t 6), (some (66, true)), 0, 16383⟩,
  ⟨(some 68), .move (.t 67), (some (66, true)), 0, 32767⟩,
  ⟨(some 69), .fieldAddr 5 (.t 5), (some (68, false)), 0, 65535⟩,
  ⟨(some 70), .load false 1 (.t 69), (some (68, false)), 0, 131071⟩,
  ⟨(some 71), .move (.t 70), (some (68, false)), 0, 262143⟩,
  ⟨(some 72), .move (.t 0), (some (71, true)), 0, 524287⟩,
  ⟨(some 73), .fieldAddr 4 (.t 5), (some (71, true)), 0, 524287⟩,
  ⟨(some 74), .load false 1 (.t 73), (some (71, true)), 0, 1572863⟩,
  ⟨(some 75), .call (.c (.fn 50 [] [])) [(.t 72), (.t 74)], (some (71, true)), 0, 4194303⟩,
  ⟨(some 76), .bin .eql (.t 75) (.c (.int .i64 0)), (some (71, true)), 0, 8388607⟩,
  ⟨(some 77), .pick (.t 71) (.t 76) (.c (.bool false)), (some (68, false)), 0, 16777215⟩,
  ⟨(some 78), .pick (.t 68) (.c (.bool true)) (.t 77), (some (66, true)), 0, 33554431⟩,
  ⟨(some 79), .pick (.t 66) (.t 78) (.c (.bool false)), none, 0, 67108863⟩,
  ⟨(some 4), .move (.t 79), none, 0, 134217727⟩]
def f32r11 : List AOper := [
  ⟨(some 81), .bin .eql (.t 31) (.c (.int .i64 13)), none, 0, 0⟩,
  ⟨(some 80), .move (.t 81), none, 0, 1⟩]
def f32r12 : List AOper := [
  ⟨(some 82), .fieldAddr 1 (.t 5), none, 0, 0⟩,
  ⟨(some 83), .load false 1 (.t 82), none, 0, 1⟩,
  ⟨(some 84), .bin .geq (.t 83) (.c (.int .i64 0)), none, 0, 3⟩,
  ⟨(some 85), .move (.t 84), none, 0, 7⟩,
  ⟨(some 86), .fieldAddr 1 (.t 5), (some (85, true)), 0, 15⟩,
  ⟨(some 87), .load false 1 (.t 86), (some (85, true)), 0, 31⟩,
  ⟨(some 88), .move (.t 1), (some (85, true)), 0, 15⟩,
  ⟨(some 89), .bin .lss (.t 87) (.t 88), (some (85, true)), 0, 127⟩,
  ⟨(some 90), .pick (.t 85) (.t 89) (.c (.bool false)), none, 0, 255⟩,
  ⟨(some 91), .move (.t 90), none, 0, 511⟩,
  ⟨(some 92), .fieldAddr 2 (.t 5), (some (91, true)), 0, 1023⟩,
  ⟨(some 93), .load false 1 (.t 92), (some (91, true)), 0, 2047⟩,
  ⟨(some 94), .bin .eql (.t 93) (.c (.int .i64 0)), (some (91, true)), 0, 4095⟩,
  ⟨(some 95), .pick (.t 91) (.t 94) (.c (.bool false)), none, 0, 8191⟩,
  ⟨(some 96), .move (.t 95), none, 0, 16383⟩,
  ⟨(some 97), .fieldAddr 3 (.t 5), (some (96, true)), 0, 32767⟩,
  ⟨(some 98), .load false 1 (.t 97), (some (96, true)), 0, 65535⟩,
  ⟨(some 99), .bin .eql (.t 98) (.c (.str [])), (some (96, true)), 0, 131071⟩,
  ⟨(some 100), .pick (.t 96) (.t 99) (.c (.bool false)), none, 0, 262143⟩,
  ⟨(some 101), .move (.t 100), none, 0, 524287⟩,
  ⟨(some 102), .move (.t 6), (some (101, true)), 0, 1048575⟩,
  ⟨(some 103), .pick (.t 101) (.t 102) (.c (.bool false)), none, 0, 2097151⟩,
  ⟨(some 4), .move (.t 103), none, 0, 4194303⟩]
def f32r13 : List AOper := [
  ⟨(some 105), .bin .eql (.t 31) (.c (.int .i64 14)), none, 0, 0⟩,
  ⟨(some 104), .move (.t 105), none, 0, 1⟩]
def f32r14 : List AOper := [
  ⟨(some 106), .fieldAddr 1 (.t 5), none, 0, 0⟩,
  ⟨(some 107), .load false 1 (.t 106), none, 0, 1⟩,
  ⟨(some 108), .bin .geq (.t 107) (.c (.int .i64 0)), none, 0, 3⟩,
  ⟨(some 109), .move (.t 108), none, 0, 7⟩,
  ⟨(some 110), .fieldAddr 1 (.t 5), (some (109, true)), 0, 15⟩,
  ⟨(some 111), .load false 1 (.t 110), (some (109, true)), 0, 31⟩,
  ⟨(some 112), .move (.t 1), (some (109, true)), 0, 15⟩,
  ⟨(some 113), .bin .lss (.t 111) (.t 112), (some (109, true)), 0, 127⟩,
  ⟨(some 114), .pick (.t 109) (.t 113) (.c (.bool false)), none, 0, 255⟩,
  ⟨(some 115), .move (.t 114), none, 0, 511⟩,
  ⟨(some 116), .fieldAddr 2 (.t 5), (some (115, true)), 0, 1023⟩,
  ⟨(some 117), .load false 1 (.t 116), (some (115, true)), 0, 2047⟩,
  ⟨(some 118), .call (.c (.fn 51 [] [])) [(.t 117)], (some (115, true)), 0, 4095⟩,
  ⟨(some 119), .pick (.t 115) (.t 118) (.c (.bool false)), none, 0, 8191⟩,
  ⟨(some 120), .move (.t 119), none, 0, 16383⟩,
  ⟨(some 121), .fieldAddr 3 (.t 5), (some (120, true)), 0, 32767⟩,
  ⟨(some 122), .load false 1 (.t 121), (some (120, true)), 0, 65535⟩,
  ⟨(some 123), .bin .eql (.t 122) (.c (.str [])), (some (120, true)), 0, 131071⟩,
  ⟨(some 124), .pick (.t 120) (.t 123) (.c (.bool false)), none, 0, 262143⟩,
  ⟨(some 125), .move (.t 124), none, 0, 524287⟩,
  ⟨(some 126), .move (.t 6), (some (125, true)), 0, 1048575⟩,
  ⟨(some 127), .pick (.t 125) (.t 126) (.c (.bool false)), none, 0, 2097151⟩,
  ⟨(some 128), .move (.t 127), none, 0, 4194303⟩,
  ⟨(some 129), .move (.t 0), (some (128, true)), 0, 8388607⟩,
  ⟨(some 130), .fieldAddr 1 (.t 5), (some (128, true)), 0, 8388607⟩,
  ⟨(some 131), .load false 1 (.t 130), (some (128, true)), 0, 25165823⟩,
  ⟨(some 132), .call (.c (.fn 52 [] [])) [(.t 129), (.t 131)], (some (128, true)), 0, 67108863⟩,
  ⟨(some 133), .pick (.t 128) (.t 132) (.c (.bool false)), none, 0, 134217727⟩,
  ⟨(some 4), .move (.t 133), none, 0, 268435455⟩]
def f32r15 : List AOper := [
  ⟨(some 4), .move (.c (.bool false)), none, 0, 0⟩]
def f32c : ACode :=
  .seq (.region false f32r0 [0, 1] 0)
  (.seq (.region false f32r1 [0, 1, 5] 1)
  (.seq (.seq (.region false f32r2 [0, 1, 5, 15] 0)
  (.cond (.t 15)
    (.seq (.region false f32r3 [4] 0)
    (.ret))
    (.skip)))
  (.seq (.region false f32r4 [0, 1, 5, 6] 0)
  (.seq (.seq (.region false f32r5 [0, 1, 5, 6, 31] 0)
  (.block 0 (.seq (.region false f32r6 [0, 1, 5, 6, 31, 32] 0)
    (.cond (.t 32)
      (.seq (.region false f32r7 [4] 0)
      (.ret))
      (.seq (.seq (.region false f32r8 [0, 1, 5, 6, 31, 50] 0)
      (.cond (.t 50)
        (.skip)
        (.region false f32r9 [0, 1, 5, 6, 31, 50] 0)))
      (.cond (.t 50)
        (.seq (.region false f32r10 [4] 0)
        (.ret))
        (.seq (.region false f32r11 [0, 1, 5, 6, 31, 80] 0)
        (.cond (.t 80)
          (.seq (.region false f32r12 [4] 0)
          (.ret))
          (.seq (.region false f32r13 [0, 1, 5, 6, 104] 0)
          (.cond (.t 104)
            (.seq (.region false f32r14 [4] 0)
            (.ret))
            (.skip)))))))))))
  (.seq (.region false f32r15 [4] 0)
  (.ret))))))
def f32 : AFn := ⟨2, 134, [.tmp 4], f32c, 1, none⟩
def f32k : List (Nat × List Nat) := [(0, [0, 1]), (1, [0, 1, 5]), (2, [0, 1, 5, 15]), (3, [4]), (4, [0, 1, 5, 6]), (5, [0, 1, 5, 6, 31]), (6, [0, 1, 5, 6, 31, 32]), (8, [0, 1, 5, 6, 31, 50]), (9, [0, 1, 5, 6, 31, 50]), (11, [0, 1, 5, 6, 31, 80]), (13, [0, 1, 5, 6, 104]), (14, [4]), (12, [4]), (10, [4]), (7, [4]), (15, [4])]
def f32v : List Nat := []

/-! 33: (*mortise/mortiseref03.T).twice, parameters [33, 3], results [4] -/
def f33r0 : List AOper := [
  ⟨(some 4), .move (.c (.bool false)), none, 0, 0⟩]
def f33r1 : List AOper := [
  ⟨(some 7), .move (.t 0), none, 0, 0⟩,
  ⟨(some 8), .nilCheck (.t 7), none, 0, 1⟩,
  ⟨(some 9), .fieldAddr 0 (.t 8), none, 0, 3⟩,
  ⟨(some 10), .load false 1 (.t 9), none, 0, 7⟩,
  ⟨(some 11), .move (.t 1), none, 0, 0⟩,
  ⟨(some 12), .idxAddr 6 (.t 10) (.t 11), none, 0, 31⟩,
  ⟨(some 13), .load true 6 (.t 12), none, 0, 63⟩,
  ⟨(some 5), .alloc false [(.int .i64 0), (.int .i64 0), (.int .i64 0), (.str []), (.is [] .nil), (.bool false)], none, 0, 0⟩,
  ⟨none, .store 6 (.t 5) (.t 13), none, 1, 255⟩]
def f33r2 : List AOper := [
  ⟨(some 14), .fieldAddr 0 (.t 5), none, 0, 0⟩,
  ⟨(some 15), .load false 1 (.t 14), none, 0, 1⟩,
  ⟨(some 16), .bin .neq (.t 15) (.c (.int .i64 13)), none, 0, 3⟩,
  ⟨(some 17), .move (.t 16), none, 0, 7⟩,
  ⟨(some 18), .fieldAddr 0 (.t 5), (some (17, true)), 0, 15⟩,
  ⟨(some 19), .load false 1 (.t 18), (some (17, true)), 0, 31⟩,
  ⟨(some 20), .bin .neq (.t 19) (.c (.int .i64 14)), (some (17, true)), 0, 63⟩,
  ⟨(some 21), .pick (.t 17) (.t 20) (.c (.bool false)), none, 0, 127⟩]
def f33r3 : List AOper := [
  ⟨(some 4), .move (.c (.bool false)), none, 0, 0⟩]
def f33r4 : List AOper := [
  ⟨(some 6), .move (.c (.int .i64 0)), none, 0, 0⟩]
def f33r5 : List AOper := [
  ⟨(some 22), .move (.t 6), none, 0, 0⟩,
  ⟨(some 23), .move (.t 1), none, 0, 0⟩,
  ⟨(some 24), .bin .lss (.t 22) (.t 23), none, 0, 3⟩]
def f33q6 : List AOper := [
  ⟨(some 27), .move (.t 0), none, 0, 0⟩,
  ⟨(some 28), .nilCheck (.t 27), none, 0, 1⟩,
  ⟨(some 29), .fieldAddr 0 (.t 28), none, 0, 3⟩,
  ⟨(some 30), .load false 1 (.t 29), none, 0, 7⟩,
  ⟨(some 31), .move (.t 6), none, 0, 0⟩,
  ⟨(some 32), .idxAddr 6 (.t 30) (.t 31), none, 0, 31⟩,
  ⟨(some 33), .fieldAddr 0 (.t 32), none, 0, 63⟩,
  ⟨(some 34), .load false 1 (.t 33), none, 0, 127⟩,
  ⟨(some 35), .fieldAddr 0 (.t 5), none, 0, 0⟩,
  ⟨(some 36), .load false 1 (.t 35), none, 0, 256⟩,
  ⟨(some 37), .bin .eql (.t 34) (.t 36), none, 0, 1023⟩,
  ⟨(some 38), .move (.t 37), none, 0, 2047⟩,
  ⟨(some 39), .move (.t 0), (some (38, true)), 0, 4095⟩,
  ⟨(some 40), .nilCheck (.t 39), (some (38, true)), 0, 8191⟩,
  ⟨(some 41), .fieldAddr 0 (.t 40), (some (38, true)), 0, 16383⟩,
  ⟨(some 42), .load false 1 (.t 41), (some (38, true)), 0, 32767⟩,
  ⟨(some 43), .move (.t 6), (some (38, true)), 0, 4095⟩,
  ⟨(some 44), .idxAddr 6 (.t 42) (.t 43), (some (38, true)), 0, 131071⟩,
  ⟨(some 45), .fieldAddr 1 (.t 44), (some (38, true)), 0, 262143⟩,
  ⟨(some 46), .load false 1 (.t 45), (some (38, true)), 0, 524287⟩,
  ⟨(some 47), .fieldAddr 1 (.t 5), (some (38, true)), 0, 4095⟩,
  ⟨(some 48), .load false 1 (.t 47), (some (38, true)), 0, 1052671⟩,
  ⟨(some 49), .bin .eql (.t 46) (.t 48), (some (38, true)), 0, 4194303⟩,
  ⟨(some 50), .pick (.t 38) (.t 49) (.c (.bool false)), none, 0, 8388607⟩,
  ⟨(some 51), .move (.t 50), none, 0, 16777215⟩,
  ⟨(some 52), .move (.t 0), (some (51, true)), 0, 33554431⟩,
  ⟨(some 53), .nilCheck (.t 52), (some (51, true)), 0, 67108863⟩,
  ⟨(some 54), .fieldAddr 0 (.t 53), (some (51, true)), 0, 134217727⟩,
  ⟨(some 55), .load false 1 (.t 54), (some (51, true)), 0, 268435455⟩,
  ⟨(some 56), .move (.t 6), (some (51, true)), 0, 33554431⟩,
  ⟨(some 57), .idxAddr 6 (.t 55) (.t 56), (some (51, true)), 0, 1073741823⟩,
  ⟨(some 58), .fieldAddr 2 (.t 57), (some (51, true)), 0, 2147483647⟩,
  ⟨(some 59), .load false 1 (.t 58), (some (51, true)), 0, 4294967295⟩,
  ⟨(some 60), .fieldAddr 2 (.t 5), (some (51, true)), 0, 33554431⟩,
  ⟨(some 61), .load false 1 (.t 60), (some (51, true)), 0, 8623489023⟩,
  ⟨(some 62), .bin .eql (.t 59) (.t 61), (some (51, true)), 0, 34359738367⟩,
  ⟨(some 63), .pick (.t 51) (.t 62) (.c (.bool false)), none, 0, 68719476735⟩]
def f33r6 : List AOper := f33q6
def f33r7 : List AOper := [
  ⟨(some 4), .move (.c (.bool true)), none, 0, 0⟩]
def f33r8 : List AOper := [
  ⟨(some 25), .move (.t 6), none, 0, 0⟩,
  ⟨(some 26), .bin .add (.t 25) (.c (.int .i64 1)), none, 0, 1⟩,
  ⟨(some 6), .move (.t 26), none, 0, 3⟩]
def f33m5 : ACode :=
  .seq (.seq (.region false f33r5 [0, 1, 5, 6, 24] 0)
  (.cond (.t 24)
    (.skip)
    (.exit 0)))
  (.seq (.block 1 (.seq (.region true f33r6 [0, 1, 5, 6, 63] 0)
    (.cond (.t 63)
      (.seq (.region false f33r7 [4] 0)
      (.ret))
      (.skip))))
  (.region false f33r8 [0, 1, 5, 6] 0))
def f33l5 : ACode := f33m5
theorem f33l5_b {A : Tab} {nt : Nat} {e : Env} {h : Heap} : Brun A nt f33l5 e h = Brun A nt f33m5 e h := rfl
def f33r9 : List AOper := [
  ⟨(some 4), .move (.c (.bool false)), none, 0, 0⟩]
theorem f33r6_s : staticOK 0 f33r6 = true := by rfl
theorem f33r6_w {A : Tab} {nt : Nat} {keep : List Nat} {n : Nat} {e : Env} {h : Heap} (hr : (bkeep keep (stepsF nt (stepF A true) h.length f33r6 e (h ++ List.replicate n .free))).isSome = true) : Brun A nt (.region true f33r6 keep n) e h = bkeep keep (stepsF nt (stepF A true) h.length f33r6 e (h ++ List.replicate n .free)) := Brun_drawnS f33r6_s hr
theorem f33r6_u (nt base : Nat) (step : Nat → AOp → Env → Heap → Option (AV × Heap)) (e : Env) (h : Heap) : stepsF nt step base f33r6 e h = stepsF nt step base f33q6 e h := rfl
def f33c : ACode :=
  .seq (.region false f33r0 [0, 1] 0)
  (.seq (.region false f33r1 [0, 1, 5] 1)
  (.seq (.seq (.region false f33r2 [0, 1, 5, 21] 0)
  (.cond (.t 21)
    (.seq (.region false f33r3 [4] 0)
    (.ret))
    (.skip)))
  (.seq (.seq (.region false f33r4 [0, 1, 5, 6] 0)
  (.block 0 (.loop f33l5)))
  (.seq (.region false f33r9 [4] 0)
  (.ret)))))
def f33 : AFn := ⟨2, 64, [.tmp 4], f33c, 1, none⟩
def f33k : List (Nat × List Nat) := [(0, [0, 1]), (1, [0, 1, 5]), (2, [0, 1, 5, 21]), (3, [4]), (4, [0, 1, 5, 6]), (5, [0, 1, 5, 6, 24]), (7, [0, 1, 5, 6, 63]), (8, [4]), (6, [0, 1, 5, 6]), (9, [4])]
def f33v : List Nat := []

/-! 34: (*mortise/mortiseref03.T).grounded, parameters [33], results [69] -/
def f34r0 : List AOper := [
  ⟨(some 2), .move (.c (.is [] .nil)), none, 0, 0⟩]
def f34r1 : List AOper := [
  ⟨(some 9), .move (.t 0), none, 0, 0⟩,
  ⟨(some 10), .nilCheck (.t 9), none, 0, 1⟩,
  ⟨(some 11), .fieldAddr 0 (.t 10), none, 0, 3⟩,
  ⟨(some 12), .load false 1 (.t 11), none, 0, 7⟩,
  ⟨(some 13), .len 1 (.t 12), none, 0, 15⟩,
  ⟨(some 14), .mkSlice false 1 1 [(.bool false)] (.t 13) (.t 13), none, 0, 31⟩,
  ⟨(some 3), .move (.t 14), none, 1, 63⟩]
def f34r2 : List AOper := [
  ⟨(some 4), .move (.c (.bool true)), none, 0, 0⟩]
def f34r3 : List AOper := [
  ⟨(some 15), .move (.t 4), none, 0, 0⟩]
def f34r4 : List AOper := [
  ⟨(some 4), .move (.c (.bool false)), none, 0, 0⟩]
def f34r5 : List AOper := [
  ⟨(some 5), .move (.c (.int .i64 0)), none, 0, 0⟩]
def f34r6 : List AOper := [
  ⟨(some 16), .move (.t 5), none, 0, 0⟩,
  ⟨(some 17), .move (.t 0), none, 0, 0⟩,
  ⟨(some 18), .nilCheck (.t 17), none, 0, 2⟩,
  ⟨(some 19), .fieldAddr 0 (.t 18), none, 0, 6⟩,
  ⟨(some 20), .load false 1 (.t 19), none, 0, 14⟩,
  ⟨(some 21), .len 1 (.t 20), none, 0, 30⟩,
  ⟨(some 22), .bin .lss (.t 16) (.t 21), none, 0, 63⟩]
def f34r7 : List AOper := [
  ⟨(some 6), .move (.c (.bool true)), none, 0, 0⟩]
def f34r8 : List AOper := [
  ⟨(some 25), .move (.t 0), none, 0, 0⟩,
  ⟨(some 26), .nilCheck (.t 25), none, 0, 1⟩,
  ⟨(some 27), .fieldAddr 0 (.t 26), none, 0, 3⟩,
  ⟨(some 28), .load false 1 (.t 27), none, 0, 7⟩,
  ⟨(some 29), .move (.t 5), none, 0, 0⟩,
  ⟨(some 30), .idxAddr 6 (.t 28) (.t 29), none, 0, 31⟩,
  ⟨(some 31), .load true 6 (.t 30), none, 0, 63⟩,
  ⟨(some 7), .alloc false [(.int .i64 0), (.int .i64 0), (.int .i64 0), (.str []), (.is [] .nil), (.bool false)], none, 0, 0⟩,
  ⟨none, .store 6 (.t 7) (.t 31), none, 1, 255⟩]
def f34r9 : List AOper := [
  ⟨(some 32), .fieldAddr 0 (.t 7), none, 0, 0⟩,
  ⟨(some 33), .load false 1 (.t 32), none, 0, 1⟩,
  ⟨(some 34), .bin .eql (.t 33) (.c (.int .i64 14)), none, 0, 3⟩]
def f34r10 : List AOper := [
  ⟨(some 35), .move (.t 3), none, 0, 0⟩,
  ⟨(some 36), .fieldAddr 1 (.t 7), none, 0, 0⟩,
  ⟨(some 37), .load false 1 (.t 36), none, 0, 2⟩,
  ⟨(some 38), .idxAddr 1 (.t 35) (.t 37), none, 0, 7⟩,
  ⟨(some 39), .load false 1 (.t 38), none, 0, 15⟩,
  ⟨(some 6), .move (.t 39), none, 0, 31⟩]
def f34r11 : List AOper := [
  ⟨(some 8), .move (.c (.int .i64 0)), none, 0, 0⟩]
def f34r12 : List AOper := [
  ⟨(some 40), .move (.t 8), none, 0, 0⟩,
  ⟨(some 41), .fieldAddr 4 (.t 7), none, 0, 0⟩,
  ⟨(some 42), .load false 1 (.t 41), none, 0, 2⟩,
  ⟨(some 43), .len 1 (.t 42), none, 0, 6⟩,
  ⟨(some 44), .bin .lss (.t 40) (.t 43), none, 0, 15⟩]
def f34r13 : List AOper := [
  ⟨(some 47), .move (.t 6), none, 0, 0⟩,
  ⟨(some 48), .move (.t 47), none, 0, 1⟩,
  ⟨(some 49), .move (.t 3), (some (48, true)), 0, 3⟩,
  ⟨(some 50), .fieldAddr 4 (.t 7), (some (48, true)), 0, 3⟩,
  ⟨(some 51), .load false 1 (.t 50), (some (48, true)), 0, 11⟩,
  ⟨(some 52), .move (.t 8), (some (48, true)), 0, 3⟩,
  ⟨(some 53), .idxAddr 3 (.t 51) (.t 52), (some (48, true)), 0, 59⟩,
  ⟨(some 54), .fieldAddr 1 (.t 53), (some (48, true)), 0, 123⟩,
  ⟨(some 55), .load false 1 (.t 54), (some (48, true)), 0, 251⟩,
  ⟨(some 56), .idxAddr 1 (.t 49) (.t 55), (some (48, true)), 0, 511⟩,
  ⟨(some 57), .load false 1 (.t 56), (some (48, true)), 0, 1023⟩,
  ⟨(some 58), .pick (.t 48) (.t 57) (.c (.bool false)), none, 0, 2047⟩,
  ⟨(some 6), .move (.t 58), none, 0, 4095⟩]
def f34r14 : List AOper := [
  ⟨(some 45), .move (.t 8), none, 0, 0⟩,
  ⟨(some 46), .bin .add (.t 45) (.c (.int .i64 1)), none, 0, 1⟩,
  ⟨(some 8), .move (.t 46), none, 0, 3⟩]
def f34m12 : ACode :=
  .seq (.seq (.region false f34r12 [0, 3, 4, 5, 6, 7, 8, 44] 0)
  (.cond (.t 44)
    (.skip)
    (.exit 4)))
  (.seq (.block 5 (.region false f34r13 [0, 3, 4, 5, 6, 7, 8] 0))
  (.region false f34r14 [0, 3, 4, 5, 6, 7, 8] 0))
def f34l12 : ACode := f34m12
theorem f34l12_b {A : Tab} {nt : Nat} {e : Env} {h : Heap} : Brun A nt f34l12 e h = Brun A nt f34m12 e h := rfl
def f34r15 : List AOper := [
  ⟨(some 59), .move (.t 6), none, 0, 0⟩,
  ⟨(some 60), .move (.t 59), none, 0, 1⟩,
  ⟨(some 61), .move (.t 3), (some (60, true)), 0, 3⟩,
  ⟨(some 62), .move (.t 5), (some (60, true)), 0, 3⟩,
  ⟨(some 63), .idxAddr 1 (.t 61) (.t 62), (some (60, true)), 0, 15⟩,
  ⟨(some 64), .load false 1 (.t 63), (some (60, true)), 0, 31⟩,
  ⟨(some 65), .un .not (.t 64), (some (60, true)), 0, 63⟩,
  ⟨(some 66), .pick (.t 60) (.t 65) (.c (.bool false)), none, 0, 127⟩]
def f34r16 : List AOper := [
  ⟨(some 67), .move (.t 3), none, 0, 0⟩,
  ⟨(some 68), .move (.t 5), none, 0, 0⟩,
  ⟨(some 69), .idxAddr 1 (.t 67) (.t 68), none, 0, 3⟩,
  ⟨none, .store 1 (.t 69) (.c (.bool true)), none, 0, 7⟩]
def f34r17 : List AOper := [
  ⟨(some 4), .move (.c (.bool true)), none, 0, 0⟩]
def f34r18 : List AOper := [
  ⟨(some 23), .move (.t 5), none, 0, 0⟩,
  ⟨(some 24), .bin .add (.t 23) (.c (.int .i64 1)), none, 0, 1⟩,
  ⟨(some 5), .move (.t 24), none, 0, 3⟩]
def f34m6 : ACode :=
  .seq (.seq (.region false f34r6 [0, 3, 4, 5, 22] 0)
  (.cond (.t 22)
    (.skip)
    (.exit 2)))
  (.seq (.block 3 (.seq (.region false f34r7 [0, 3, 4, 5, 6] 0)
    (.seq (.region false f34r8 [0, 3, 4, 5, 6, 7] 1)
    (.seq (.seq (.region false f34r9 [0, 3, 4, 5, 6, 7, 34] 0)
    (.cond (.t 34)
      (.region false f34r10 [0, 3, 4, 5, 6, 7] 0)
      (.skip)))
    (.seq (.seq (.region false f34r11 [0, 3, 4, 5, 6, 7, 8] 0)
    (.block 4 (.loop f34l12)))
    (.seq (.region false f34r15 [0, 3, 4, 5, 66] 0)
    (.cond (.t 66)
      (.seq (.region false f34r16 [0, 3, 5] 0)
      (.region false f34r17 [0, 3, 4, 5] 0))
      (.skip))))))))
  (.region false f34r18 [0, 3, 4, 5] 0))
def f34l6 : ACode := f34m6
theorem f34l6_b {A : Tab} {nt : Nat} {e : Env} {h : Heap} : Brun A nt f34l6 e h = Brun A nt f34m6 e h := rfl
def f34m3 : ACode :=
  .seq (.seq (.region false f34r3 [0, 3, 15] 0)
  (.cond (.t 15)
    (.skip)
    (.exit 0)))
  (.block 1 (.seq (.region false f34r4 [0, 3, 4] 0)
    (.seq (.region false f34r5 [0, 3, 4, 5] 0)
    (.block 2 (.loop f34l6)))))
def f34l3 : ACode := f34m3
theorem f34l3_b {A : Tab} {nt : Nat} {e : Env} {h : Heap} : Brun A nt f34l3 e h = Brun A nt f34m3 e h := rfl
def f34r19 : List AOper := [
  ⟨(some 70), .move (.t 3), none, 0, 0⟩,
  ⟨(some 2), .move (.t 70), none, 0, 1⟩]
def f34c : ACode :=
  .seq (.region false f34r0 [0] 0)
  (.seq (.region false f34r1 [0, 3] 1)
  (.seq (.region false f34r2 [0, 3, 4] 0)
  (.seq (.block 0 (.loop f34l3))
  (.seq (.region false f34r19 [2] 0)
  (.ret)))))
def f34 : AFn := ⟨1, 71, [.tmp 2], f34c, 1, none⟩
def f34k : List (Nat × List Nat) := [(0, [0]), (1, [0, 3]), (2, [0, 3, 4]), (3, [0, 3, 15]), (4, [0, 3, 4]), (5, [0, 3, 4, 5]), (6, [0, 3, 4, 5, 22]), (8, [0, 3, 4, 5, 6]), (9, [0, 3, 4, 5, 6, 7]), (10, [0, 3, 4, 5, 6, 7, 34]), (11, [0, 3, 4, 5, 6, 7]), (12, [0, 3, 4, 5, 6, 7, 8]), (13, [0, 3, 4, 5, 6, 7, 8, 44]), (15, [0, 3, 4, 5, 6, 7, 8]), (14, [0, 3, 4, 5, 6, 7, 8]), (16, [0, 3, 4, 5, 66]), (17, [0, 3, 5]), (18, [0, 3, 4, 5]), (7, [0, 3, 4, 5]), (19, [2])]
def f34v : List Nat := []

/-! 35: mortise/mortiseref03.Same, parameters [25, 25], results [4] -/
def f35r0 : List AOper := [
  ⟨(some 4), .move (.c (.bool false)), none, 0, 0⟩]
def f35r1 : List AOper := [
  ⟨(some 6), .move (.t 0), none, 0, 0⟩,
  ⟨(some 7), .len 1 (.t 6), none, 0, 1⟩,
  ⟨(some 8), .move (.t 1), none, 0, 0⟩,
  ⟨(some 9), .len 1 (.t 8), none, 0, 4⟩,
  ⟨(some 10), .bin .neq (.t 7) (.t 9), none, 0, 15⟩]
def f35r2 : List AOper := [
  ⟨(some 4), .move (.c (.bool false)), none, 0, 0⟩]
def f35r3 : List AOper := [
  ⟨(some 5), .move (.c (.int .i64 0)), none, 0, 0⟩]
def f35r4 : List AOper := [
  ⟨(some 11), .move (.t 5), none, 0, 0⟩,
  ⟨(some 12), .move (.t 0), none, 0, 0⟩,
  ⟨(some 13), .len 1 (.t 12), none, 0, 2⟩,
  ⟨(some 14), .bin .lss (.t 11) (.t 13), none, 0, 7⟩]
def f35q5 : List AOper := [
  ⟨(some 17), .move (.t 0), none, 0, 0⟩,
  ⟨(some 18), .move (.t 5), none, 0, 0⟩,
  ⟨(some 19), .idxAddr 6 (.t 17) (.t 18), none, 0, 3⟩,
  ⟨(some 20), .load true 6 (.t 19), none, 0, 7⟩,
  ⟨(some 21), .move (.t 1), none, 0, 0⟩,
  ⟨(some 22), .move (.t 5), none, 0, 0⟩,
  ⟨(some 23), .idxAddr 6 (.t 21) (.t 22), none, 0, 48⟩,
  ⟨(some 24), .load true 6 (.t 23), none, 0, 112⟩,
  ⟨(some 25), .call (.c (.fn 20 [] [])) [(.t 20), (.t 24)], none, 0, 255⟩,
  ⟨(some 26), .un .not (.t 25), none, 0, 511⟩]
def f35r5 : List AOper := f35q5
def f35r6 : List AOper := [
  ⟨(some 4), .move (.c (.bool false)), none, 0, 0⟩]
def f35r7 : List AOper := [
  ⟨(some 15), .move (.t 5), none, 0, 0⟩,
  ⟨(some 16), .bin .add (.t 15) (.c (.int .i64 1)), none, 0, 1⟩,
  ⟨(some 5), .move (.t 16), none, 0, 3⟩]
def f35m4 : ACode :=
  .seq (.seq (.region false f35r4 [0, 1, 5, 14] 0)
  (.cond (.t 14)
    (.skip)
    (.exit 0)))
  (.seq (.block 1 (.seq (.region true f35r5 [0, 1, 5, 26] 0)
    (.cond (.t 26)
      (.seq (.region false f35r6 [4] 0)
      (.ret))
      (.skip))))
  (.region false f35r7 [0, 1, 5] 0))
def f35l4 : ACode := f35m4
theorem f35l4_b {A : Tab} {nt : Nat} {e : Env} {h : Heap} : Brun A nt f35l4 e h = Brun A nt f35m4 e h := rfl
def f35r8 : List AOper := [
  ⟨(some 4), .move (.c (.bool true)), none, 0, 0⟩]
theorem f35r5_s : staticOK 0 f35r5 = true := by rfl
theorem f35r5_w {A : Tab} {nt : Nat} {keep : List Nat} {n : Nat} {e : Env} {h : Heap} (hr : (bkeep keep (stepsF nt (stepF A true) h.length f35r5 e (h ++ List.replicate n .free))).isSome = true) : Brun A nt (.region true f35r5 keep n) e h = bkeep keep (stepsF nt (stepF A true) h.length f35r5 e (h ++ List.replicate n .free)) := Brun_drawnS f35r5_s hr
theorem f35r5_u (nt base : Nat) (step : Nat → AOp → Env → Heap → Option (AV × Heap)) (e : Env) (h : Heap) : stepsF nt step base f35r5 e h = stepsF nt step base f35q5 e h := rfl
def f35c : ACode :=
  .seq (.region false f35r0 [0, 1] 0)
  (.seq (.seq (.region false f35r1 [0, 1, 10] 0)
  (.cond (.t 10)
    (.seq (.region false f35r2 [4] 0)
    (.ret))
    (.skip)))
  (.seq (.seq (.region false f35r3 [0, 1, 5] 0)
  (.block 0 (.loop f35l4)))
  (.seq (.region false f35r8 [4] 0)
  (.ret))))
def f35 : AFn := ⟨2, 27, [.tmp 4], f35c, 1, none⟩
def f35k : List (Nat × List Nat) := [(0, [0, 1]), (1, [0, 1, 10]), (2, [4]), (3, [0, 1, 5]), (4, [0, 1, 5, 14]), (6, [0, 1, 5, 26]), (7, [4]), (5, [0, 1, 5]), (8, [4])]
def f35v : List Nat := []

/-! 36: (*mortise/ctype.Table).alive, parameters [23], results [4] -/
def f36r0 : List AOper := [
  ⟨(some 2), .move (.c (.bool false)), none, 0, 0⟩]
def f36r1 : List AOper := [
  ⟨(some 3), .move (.t 0), none, 0, 0⟩,
  ⟨(some 4), .eq true .ptr (.t 3) (.c .nilp), none, 0, 1⟩,
  ⟨(some 5), .move (.t 4), none, 0, 3⟩,
  ⟨(some 6), .move (.t 0), (some (5, true)), 0, 7⟩,
  ⟨(some 7), .nilCheck (.t 6), (some (5, true)), 0, 15⟩,
  ⟨(some 8), .fieldAddr 1 (.t 7), (some (5, true)), 0, 31⟩,
  ⟨(some 9), .load false 1 (.t 8), (some (5, true)), 0, 63⟩,
  ⟨(some 10), .eq true .map (.t 9) (.c .nilm), (some (5, true)), 0, 127⟩,
  ⟨(some 11), .pick (.t 5) (.t 10) (.c (.bool false)), none, 0, 255⟩,
  ⟨(some 2), .move (.t 11), none, 0, 511⟩]
def f36c : ACode :=
  .seq (.region false f36r0 [0] 0)
  (.seq (.region false f36r1 [2] 0)
  (.ret))
def f36 : AFn := ⟨1, 12, [.tmp 2], f36c, 1, none⟩
def f36k : List (Nat × List Nat) := [(0, [0]), (1, [2])]
def f36v : List Nat := []

/-! 37: (*mortise/ctype.Table).tagged, parameters [23, 40, 9], results [3, 35] -/
def f37r0 : List AOper := [
  ⟨(some 6), .move (.c (.int .i64 0)), none, 0, 0⟩,
  ⟨(some 7), .move (.c (.int .i64 0)), none, 0, 1⟩]
def f37r1 : List AOper := [
  ⟨(some 9), .move (.t 0), none, 0, 0⟩,
  ⟨(some 10), .call (.c (.fn 36 [] [])) [(.t 9)], none, 0, 1⟩,
  ⟨(some 11), .un .not (.t 10), none, 0, 3⟩,
  ⟨(some 8), .move (.t 11), none, 0, 7⟩]
def f37r2 : List AOper := [
  ⟨(some 6), .move (.c (.int .i64 0)), none, 0, 0⟩,
  ⟨(some 7), .move (.c (.int .i64 1)), none, 0, 1⟩]
def f37r3 : List AOper := [
  ⟨(some 13), .move (.t 2), none, 0, 0⟩,
  ⟨(some 14), .call (.c (.fn 41 [] [])) [(.t 13)], none, 0, 1⟩,
  ⟨(some 15), .un .not (.t 14), none, 0, 3⟩,
  ⟨(some 12), .move (.t 15), none, 0, 7⟩]
def f37r4 : List AOper := [
  ⟨(some 6), .move (.c (.int .i64 0)), none, 0, 0⟩,
  ⟨(some 7), .move (.c (.int .i64 31)), none, 0, 1⟩]
def f37r5 : List AOper := [
  ⟨(some 16), .move (.t 0), none, 0, 0⟩,
  ⟨(some 17), .move (.t 1), none, 0, 0⟩,
  ⟨(some 18), .move (.t 2), none, 0, 0⟩,
  ⟨(some 19), .build [(.int .i64 0), (.int .i64 0), (.int .i64 0), (.str []), (.is [] .nil), (.bool false)] [(0, 1, (.t 17)), (3, 1, (.t 18))], none, 0, 6⟩,
  ⟨(some 20), .call (.c (.fn 53 [] [])) [(.t 16), (.t 19)], none, 0, 15⟩,
  ⟨(some 21), .extract (.t 20) 0, none, 0, 31⟩,
  ⟨(some 22), .extract (.t 20) 1, none, 0, 31⟩,
  ⟨(some 6), .move (.t 21), none, 0, 127⟩,
  ⟨(some 7), .move (.t 22), none, 0, 255⟩]
def f37c : ACode :=
  .seq (.region false f37r0 [0, 1, 2] 0)
  (.seq (.block 0 (.seq (.region false f37r1 [0, 1, 2, 8] 0)
    (.cond (.t 8)
      (.seq (.region false f37r2 [6, 7] 0)
      (.ret))
      (.seq (.region false f37r3 [0, 1, 2, 12] 0)
      (.cond (.t 12)
        (.seq (.region false f37r4 [6, 7] 0)
        (.ret))
        (.skip))))))
  (.seq (.region false f37r5 [6, 7] 0)
  (.ret)))
def f37 : AFn := ⟨3, 23, [.tmp 6, .tmp 7], f37c, 1, none⟩
def f37k : List (Nat × List Nat) := [(0, [0, 1, 2]), (1, [0, 1, 2, 8]), (3, [0, 1, 2, 12]), (4, [6, 7]), (2, [6, 7]), (5, [6, 7])]
def f37v : List Nat := []

/-! 38: (*mortise/ctype.Table).has, parameters [23, 3], results [4] -/
def f38r0 : List AOper := [
  ⟨(some 4), .move (.c (.bool false)), none, 0, 0⟩]
def f38r1 : List AOper := [
  ⟨(some 5), .move (.t 0), none, 0, 0⟩,
  ⟨(some 6), .call (.c (.fn 36 [] [])) [(.t 5)], none, 0, 1⟩,
  ⟨(some 7), .move (.t 6), none, 0, 3⟩,
  ⟨(some 8), .move (.t 1), (some (7, true)), 0, 7⟩,
  ⟨(some 9), .bin .geq (.t 8) (.c (.int .i64 0)), (some (7, true)), 0, 15⟩,
  ⟨(some 10), .pick (.t 7) (.t 9) (.c (.bool false)), none, 0, 31⟩,
  ⟨(some 11), .move (.t 10), none, 0, 63⟩,
  ⟨(some 12), .move (.t 1), (some (11, true)), 0, 127⟩,
  ⟨(some 13), .move (.t 0), (some (11, true)), 0, 127⟩,
  ⟨(some 14), .nilCheck (.t 13), (some (11, true)), 0, 383⟩,
  ⟨(some 15), .fieldAddr 0 (.t 14), (some (11, true)), 0, 895⟩,
  ⟨(some 16), .load false 1 (.t 15), (some (11, true)), 0, 1919⟩,
  ⟨(some 17), .len 1 (.t 16), (some (11, true)), 0, 3967⟩,
  ⟨(some 18), .bin .lss (.t 12) (.t 17), (some (11, true)), 0, 8191⟩,
  ⟨(some 19), .pick (.t 11) (.t 18) (.c (.bool false)), none, 0, 16383⟩,
  ⟨(some 4), .move (.t 19), none, 0, 32767⟩]
def f38c : ACode :=
  .seq (.region false f38r0 [0, 1] 0)
  (.seq (.region false f38r1 [4] 0)
  (.ret))
def f38 : AFn := ⟨2, 20, [.tmp 4], f38c, 1, none⟩
def f38k : List (Nat × List Nat) := [(0, [0, 1]), (1, [4])]
def f38v : List Nat := []

/-! 39: (*mortise/ctype.Table).derived, parameters [23, 64], results [3, 35] -/
def f39r0 : List AOper := [
  ⟨(some 3), .box true (.t 1), none, 0, 0⟩,
  ⟨(some 4), .move (.c (.int .i64 0)), none, 0, 0⟩,
  ⟨(some 5), .move (.c (.int .i64 0)), none, 0, 2⟩]
def f39q1 : List AOper := [
  ⟨(some 11), .move (.t 0), none, 0, 0⟩,
  ⟨(some 12), .nilCheck (.t 11), none, 0, 1⟩,
  ⟨(some 13), .fieldAddr 1 (.t 12), none, 0, 3⟩,
  ⟨(some 14), .load false 1 (.t 13), none, 0, 7⟩,
  ⟨(some 15), .load true 3 (.t 3), none, 0, 0⟩,
  ⟨(some 16), .lookup true [.int .i64, .int .i64, .int .i64] (.int .i64 0) true (.t 14) (.t 15), none, 0, 31⟩,
  ⟨(some 10), .move (.t 16), none, 0, 63⟩,
  ⟨(some 17), .extract (.t 10) 0, none, 0, 127⟩,
  ⟨(some 18), .extract (.t 10) 1, none, 0, 127⟩,
  ⟨(some 6), .move (.t 17), none, 0, 255⟩,
  ⟨(some 7), .move (.t 18), none, 0, 1023⟩]
def f39r1 : List AOper := f39q1
def f39r2 : List AOper := [
  ⟨(some 19), .move (.t 7), none, 0, 0⟩]
def f39r3 : List AOper := [
  ⟨(some 20), .move (.t 6), none, 0, 0⟩,
  ⟨(some 4), .move (.t 20), none, 0, 1⟩,
  ⟨(some 5), .move (.c (.int .i64 0)), none, 0, 3⟩]
def f39r4 : List AOper := [
  ⟨(some 22), .move (.t 0), none, 0, 0⟩,
  ⟨(some 23), .fieldAddr 0 (.t 3), none, 0, 0⟩,
  ⟨(some 24), .load false 1 (.t 23), none, 0, 2⟩,
  ⟨(some 25), .fieldAddr 1 (.t 3), none, 0, 0⟩,
  ⟨(some 26), .load false 1 (.t 25), none, 0, 8⟩,
  ⟨(some 27), .fieldAddr 2 (.t 3), none, 0, 0⟩,
  ⟨(some 28), .load false 1 (.t 27), none, 0, 32⟩,
  ⟨(some 29), .build [(.int .i64 0), (.int .i64 0), (.int .i64 0), (.str []), (.is [] .nil), (.bool false)] [(0, 1, (.t 24)), (1, 1, (.t 26)), (2, 1, (.t 28))], none, 0, 126⟩,
  ⟨(some 30), .call (.c (.fn 53 [] [])) [(.t 22), (.t 29)], none, 0, 255⟩,
  ⟨(some 21), .move (.t 30), none, 0, 511⟩,
  ⟨(some 31), .extract (.t 21) 0, none, 0, 1023⟩,
  ⟨(some 32), .extract (.t 21) 1, none, 0, 1023⟩,
  ⟨(some 8), .move (.t 31), none, 0, 2047⟩,
  ⟨(some 9), .move (.t 32), none, 0, 8191⟩]
def f39r5 : List AOper := [
  ⟨(some 33), .move (.t 9), none, 0, 0⟩,
  ⟨(some 34), .bin .eql (.t 33) (.c (.int .i64 0)), none, 0, 1⟩]
def f39q6 : List AOper := [
  ⟨(some 35), .move (.t 0), none, 0, 0⟩,
  ⟨(some 36), .nilCheck (.t 35), none, 0, 1⟩,
  ⟨(some 37), .fieldAddr 1 (.t 36), none, 0, 3⟩,
  ⟨(some 38), .load false 1 (.t 37), none, 0, 7⟩,
  ⟨(some 39), .load true 3 (.t 3), none, 0, 0⟩,
  ⟨(some 40), .move (.t 8), none, 0, 0⟩,
  ⟨none, .mapUpdate true [.int .i64, .int .i64, .int .i64] (.t 38) (.t 39) (.t 40), none, 0, 63⟩]
def f39r6 : List AOper := f39q6
def f39r7 : List AOper := [
  ⟨(some 41), .move (.t 8), none, 0, 0⟩,
  ⟨(some 42), .move (.t 9), none, 0, 0⟩,
  ⟨(some 4), .move (.t 41), none, 0, 1⟩,
  ⟨(some 5), .move (.t 42), none, 0, 7⟩]
theorem f39r1_s : staticOK 0 f39r1 = true := by rfl
theorem f39r1_w {A : Tab} {nt : Nat} {keep : List Nat} {n : Nat} {e : Env} {h : Heap} (hr : (bkeep keep (stepsF nt (stepF A true) h.length f39r1 e (h ++ List.replicate n .free))).isSome = true) : Brun A nt (.region true f39r1 keep n) e h = bkeep keep (stepsF nt (stepF A true) h.length f39r1 e (h ++ List.replicate n .free)) := Brun_drawnS f39r1_s hr
theorem f39r1_u (nt base : Nat) (step : Nat → AOp → Env → Heap → Option (AV × Heap)) (e : Env) (h : Heap) : stepsF nt step base f39r1 e h = stepsF nt step base f39q1 e h := rfl
theorem f39r6_s : staticOK 0 f39r6 = true := by rfl
theorem f39r6_w {A : Tab} {nt : Nat} {keep : List Nat} {n : Nat} {e : Env} {h : Heap} (hr : (bkeep keep (stepsF nt (stepF A true) h.length f39r6 e (h ++ List.replicate n .free))).isSome = true) : Brun A nt (.region true f39r6 keep n) e h = bkeep keep (stepsF nt (stepF A true) h.length f39r6 e (h ++ List.replicate n .free)) := Brun_drawnS f39r6_s hr
theorem f39r6_u (nt base : Nat) (step : Nat → AOp → Env → Heap → Option (AV × Heap)) (e : Env) (h : Heap) : stepsF nt step base f39r6 e h = stepsF nt step base f39q6 e h := rfl
def f39c : ACode :=
  .seq (.region false f39r0 [0, 3] 0)
  (.seq (.seq (.region true f39r1 [0, 3, 6, 7] 0)
  (.seq (.region false f39r2 [0, 3, 6, 19] 0)
  (.cond (.t 19)
    (.seq (.region false f39r3 [4, 5] 0)
    (.ret))
    (.skip))))
  (.seq (.region false f39r4 [0, 3, 8, 9] 0)
  (.seq (.seq (.region false f39r5 [0, 3, 8, 9, 34] 0)
  (.cond (.t 34)
    (.region true f39r6 [8, 9] 0)
    (.skip)))
  (.seq (.region false f39r7 [4, 5] 0)
  (.ret)))))
def f39 : AFn := ⟨2, 43, [.tmp 4, .tmp 5], f39c, 1, none⟩
def f39k : List (Nat × List Nat) := [(0, [0, 3]), (1, [0, 3, 6, 7]), (2, [0, 3, 6, 19]), (3, [4, 5]), (4, [0, 3, 8, 9]), (5, [0, 3, 8, 9, 34]), (6, [8, 9]), (7, [4, 5])]
def f39v : List Nat := [3]

/-! 40: mortise/ctype.long, parameters [3], results [4] -/
def f40r0 : List AOper := [
  ⟨(some 2), .move (.c (.bool false)), none, 0, 0⟩]
def f40r1 : List AOper := [
  ⟨(some 3), .move (.t 0), none, 0, 0⟩,
  ⟨(some 4), .bin .eql (.t 3) (.c (.int .i64 (-1))), none, 0, 1⟩,
  ⟨(some 5), .move (.t 4), none, 0, 3⟩,
  ⟨(some 6), .move (.t 0), (some (5, false)), 0, 7⟩,
  ⟨(some 7), .bin .geq (.t 6) (.c (.int .i64 1)), (some (5, false)), 0, 15⟩,
  ⟨(some 8), .move (.t 7), (some (5, false)), 0, 31⟩,
  ⟨(some 9), .move (.t 0), (some (8, true)), 0, 63⟩,
  ⟨(some 10), .bin .leq (.t 9) (.c (.int .i64 16384)), (some (8, true)), 0, 127⟩,
  ⟨(some 11), .pick (.t 8) (.t 10) (.c (.bool false)), (some (5, false)), 0, 255⟩,
  ⟨(some 12), .pick (.t 5) (.c (.bool true)) (.t 11), none, 0, 511⟩,
  ⟨(some 2), .move (.t 12), none, 0, 1023⟩]
def f40c : ACode :=
  .seq (.region false f40r0 [0] 0)
  (.seq (.region false f40r1 [2] 0)
  (.ret))
def f40 : AFn := ⟨1, 13, [.tmp 2], f40c, 1, none⟩
def f40k : List (Nat × List Nat) := [(0, [0]), (1, [2])]
def f40v : List Nat := []

/-! 41: mortise/ctype.Tag, parameters [9], results [4] -/
def f41r0 : List AOper := [
  ⟨(some 2), .move (.c (.bool false)), none, 0, 0⟩]
def f41r1 : List AOper := [
  ⟨(some 6), .move (.t 0), none, 0, 0⟩,
  ⟨(some 7), .call (.c (.fn 54 [] [])) [(.t 6), (.c (.str [35]))], none, 0, 1⟩,
  ⟨(some 5), .move (.t 7), none, 0, 3⟩,
  ⟨(some 8), .extract (.t 5) 0, none, 0, 7⟩,
  ⟨(some 9), .extract (.t 5) 1, none, 0, 7⟩,
  ⟨(some 3), .move (.t 8), none, 0, 15⟩,
  ⟨(some 4), .move (.t 9), none, 0, 63⟩]
def f41r2 : List AOper := [
  ⟨(some 10), .move (.t 4), none, 0, 0⟩]
def f41r3 : List AOper := [
  ⟨(some 11), .move (.t 3), none, 0, 0⟩,
  ⟨(some 12), .bin .neq (.t 11) (.c (.str [])), none, 0, 1⟩,
  ⟨(some 13), .move (.t 12), none, 0, 3⟩,
  ⟨(some 14), .move (.t 3), (some (13, true)), 0, 7⟩,
  ⟨(some 15), .len 0 (.t 14), (some (13, true)), 0, 15⟩,
  ⟨(some 16), .bin .leq (.t 15) (.c (.int .i64 9)), (some (13, true)), 0, 31⟩,
  ⟨(some 17), .pick (.t 13) (.t 16) (.c (.bool false)), none, 0, 63⟩,
  ⟨(some 18), .move (.t 17), none, 0, 127⟩,
  ⟨(some 19), .move (.t 3), (some (18, true)), 0, 255⟩,
  ⟨(some 20), .call (.c (.fn 55 [] [])) [(.t 19), (.c (.str [48, 49, 50, 51, 52, 53, 54, 55, 56, 57]))], (some (18, true)), 0, 511⟩,
  ⟨(some 21), .bin .eql (.t 20) (.c (.str [])), (some (18, true)), 0, 1023⟩,
  ⟨(some 22), .pick (.t 18) (.t 21) (.c (.bool false)), none, 0, 2047⟩,
  ⟨(some 2), .move (.t 22), none, 0, 4095⟩]
def f41r4 : List AOper := [
  ⟨(some 23), .move (.t 0), none, 0, 0⟩,
  ⟨(some 24), .call (.c (.fn 48 [] [])) [(.t 23)], none, 0, 1⟩,
  ⟨(some 2), .move (.t 24), none, 0, 3⟩]
def f41c : ACode :=
  .seq (.region false f41r0 [0] 0)
  (.seq (.seq (.region false f41r1 [0, 3, 4] 0)
  (.seq (.region false f41r2 [0, 3, 10] 0)
  (.cond (.t 10)
    (.seq (.region false f41r3 [2] 0)
    (.ret))
    (.skip))))
  (.seq (.region false f41r4 [2] 0)
  (.ret)))
def f41 : AFn := ⟨1, 25, [.tmp 2], f41c, 1, none⟩
def f41k : List (Nat × List Nat) := [(0, [0]), (1, [0, 3, 4]), (2, [0, 3, 10]), (3, [2]), (4, [2])]
def f41v : List Nat := []

/-! 42: (*mortise/ctype.Table).kind, parameters [23, 3], results [40] -/
def f42r0 : List AOper := [
  ⟨(some 4), .move (.c (.int .i64 0)), none, 0, 0⟩]
def f42r1 : List AOper := [
  ⟨(some 5), .move (.t 0), none, 0, 0⟩,
  ⟨(some 6), .move (.t 1), none, 0, 0⟩,
  ⟨(some 7), .call (.c (.fn 38 [] [])) [(.t 5), (.t 6)], none, 0, 3⟩,
  ⟨(some 8), .un .not (.t 7), none, 0, 7⟩]
def f42r2 : List AOper := [
  ⟨(some 4), .move (.c (.int .i64 0)), none, 0, 0⟩]
def f42r3 : List AOper := [
  ⟨(some 9), .move (.t 0), none, 0, 0⟩,
  ⟨(some 10), .nilCheck (.t 9), none, 0, 1⟩,
  ⟨(some 11), .fieldAddr 0 (.t 10), none, 0, 3⟩,
  ⟨(some 12), .load false 1 (.t 11), none, 0, 7⟩,
  ⟨(some 13), .move (.t 1), none, 0, 0⟩,
  ⟨(some 14), .idxAddr 6 (.t 12) (.t 13), none, 0, 31⟩,
  ⟨(some 15), .fieldAddr 0 (.t 14), none, 0, 63⟩,
  ⟨(some 16), .load false 1 (.t 15), none, 0, 127⟩,
  ⟨(some 4), .move (.t 16), none, 0, 255⟩]
def f42c : ACode :=
  .seq (.region false f42r0 [0, 1] 0)
  (.seq (.seq (.region false f42r1 [0, 1, 8] 0)
  (.cond (.t 8)
    (.seq (.region false f42r2 [4] 0)
    (.ret))
    (.skip)))
  (.seq (.region false f42r3 [4] 0)
  (.ret)))
def f42 : AFn := ⟨2, 17, [.tmp 4], f42c, 1, none⟩
def f42k : List (Nat × List Nat) := [(0, [0, 1]), (1, [0, 1, 8]), (2, [4]), (3, [4])]
def f42v : List Nat := []

/-! 43: strconv.Itoa, parameters [3], results [9] -/
def f43r0 : List AOper := [
  ⟨(some 2), .move (.c (.str [])), none, 0, 0⟩]
def f43r1 : List AOper := [
  ⟨(some 3), .move (.t 0), none, 0, 0⟩,
  ⟨(some 4), .call (.c (.fn 56 [] [])) [(.t 3)], none, 0, 1⟩,
  ⟨(some 2), .move (.t 4), none, 0, 3⟩]
def f43c : ACode :=
  .seq (.region false f43r0 [0] 0)
  (.seq (.region false f43r1 [2] 0)
  (.ret))
def f43 : AFn := ⟨1, 5, [.tmp 2], f43c, 1, none⟩
def f43k : List (Nat × List Nat) := [(0, [0]), (1, [2])]
def f43v : List Nat := []

/-! 44: (*mortise/ctype.Table).base, parameters [23, 3], results [9] -/
def f44r0 : List AOper := [
  ⟨(some 4), .move (.c (.str [])), none, 0, 0⟩]
def f44r1 : List AOper := [
  ⟨(some 7), .move (.t 0), none, 0, 0⟩,
  ⟨(some 8), .nilCheck (.t 7), none, 0, 1⟩,
  ⟨(some 9), .fieldAddr 0 (.t 8), none, 0, 3⟩,
  ⟨(some 10), .load false 1 (.t 9), none, 0, 7⟩,
  ⟨(some 11), .move (.t 1), none, 0, 0⟩,
  ⟨(some 12), .idxAddr 6 (.t 10) (.t 11), none, 0, 31⟩,
  ⟨(some 13), .load true 6 (.t 12), none, 0, 63⟩,
  ⟨(some 5), .alloc false [(.int .i64 0), (.int .i64 0), (.int .i64 0), (.str []), (.is [] .nil), (.bool false)], none, 0, 0⟩,
  ⟨none, .store 6 (.t 5) (.t 13), none, 1, 255⟩]
def f44r2 : List AOper := [
  ⟨(some 14), .fieldAddr 0 (.t 5), none, 0, 0⟩,
  ⟨(some 15), .load false 1 (.t 14), none, 0, 1⟩]
def f44r3 : List AOper := [
  ⟨(some 17), .bin .eql (.t 15) (.c (.int .i64 12)), none, 0, 0⟩,
  ⟨(some 16), .move (.t 17), none, 0, 1⟩]
def f44r4 : List AOper := [
  ⟨(some 18), .fieldAddr 3 (.t 5), none, 0, 0⟩,
  ⟨(some 19), .load false 1 (.t 18), none, 0, 1⟩,
  ⟨(some 20), .bin .add (.c (.str [101, 110, 117, 109, 32])) (.t 19), none, 0, 3⟩,
  ⟨(some 4), .move (.t 20), none, 0, 7⟩]
def f44r5 : List AOper := [
  ⟨(some 22), .bin .eql (.t 15) (.c (.int .i64 15)), none, 0, 0⟩,
  ⟨(some 21), .move (.t 22), none, 0, 1⟩]
def f44r6 : List AOper := [
  ⟨(some 23), .fieldAddr 3 (.t 5), none, 0, 0⟩,
  ⟨(some 24), .load false 1 (.t 23), none, 0, 1⟩,
  ⟨(some 25), .bin .add (.c (.str [115, 116, 114, 117, 99, 116, 32])) (.t 24), none, 0, 3⟩,
  ⟨(some 4), .move (.t 25), none, 0, 7⟩]
def f44r7 : List AOper := [
  ⟨(some 27), .bin .eql (.t 15) (.c (.int .i64 16)), none, 0, 0⟩,
  ⟨(some 26), .move (.t 27), none, 0, 1⟩]
def f44r8 : List AOper := [
  ⟨(some 28), .fieldAddr 3 (.t 5), none, 0, 0⟩,
  ⟨(some 29), .load false 1 (.t 28), none, 0, 1⟩,
  ⟨(some 30), .bin .add (.c (.str [117, 110, 105, 111, 110, 32])) (.t 29), none, 0, 3⟩,
  ⟨(some 4), .move (.t 30), none, 0, 7⟩]
def f44r9 : List AOper := [
  ⟨(some 31), .build (List.replicate 11 (.str [])) [(0, 1, (.c (.str [118, 111, 105, 100]))), (1, 1, (.c (.str [95, 66, 111, 111, 108]))), (2, 1, (.c (.str [99, 104, 97, 114]))), (3, 1, (.c (.str [115, 105, 103, 110, 101, 100, 32, 99, 104, 97, 114]))), (4, 1, (.c (.str [117, 110, 115, 105, 103, 110, 101, 100, 32, 99, 104, 97, 114]))), (5, 1, (.c (.str [115, 104, 111, 114, 116]))), (6, 1, (.c (.str [117, 110, 115, 105, 103, 110, 101, 100, 32, 115, 104, 111, 114, 116]))), (7, 1, (.c (.str [105, 110, 116]))), (8, 1, (.c (.str [117, 110, 115, 105, 103, 110, 101, 100, 32, 105, 110, 116]))), (9, 1, (.c (.str [108, 111, 110, 103]))), (10, 1, (.c (.str [117, 110, 115, 105, 103, 110, 101, 100, 32, 108, 111, 110, 103])))], none, 0, 0⟩,
  ⟨(some 6), .alloc false (List.replicate 11 (.str [])), none, 0, 0⟩,
  ⟨none, .store 11 (.t 6) (.t 31), none, 1, 3⟩]
def f44r10 : List AOper := [
  ⟨(some 32), .fieldAddr 0 (.t 5), none, 0, 0⟩,
  ⟨(some 33), .load false 1 (.t 32), none, 0, 1⟩,
  ⟨(some 34), .bin .sub (.t 33) (.c (.int .i64 1)), none, 0, 3⟩,
  ⟨(some 35), .idxArr 11 1 (.t 6) (.t 34), none, 0, 7⟩,
  ⟨(some 36), .load false 1 (.t 35), none, 0, 15⟩,
  ⟨(some 4), .move (.t 36), none, 0, 31⟩]
def f44c : ACode :=
  .seq (.region false f44r0 [0, 1] 0)
  (.seq (.region false f44r1 [5] 1)
  (.seq (.seq (.region false f44r2 [5, 15] 0)
  (.block 0 (.seq (.region false f44r3 [5, 15, 16] 0)
    (.cond (.t 16)
      (.seq (.region false f44r4 [4] 0)
      (.ret))
      (.seq (.region false f44r5 [5, 15, 21] 0)
      (.cond (.t 21)
        (.seq (.region false f44r6 [4] 0)
        (.ret))
        (.seq (.region false f44r7 [5, 26] 0)
        (.cond (.t 26)
          (.seq (.region false f44r8 [4] 0)
          (.ret))
          (.skip)))))))))
  (.seq (.region false f44r9 [5, 6] 1)
  (.seq (.region false f44r10 [4] 0)
  (.ret)))))
def f44 : AFn := ⟨2, 37, [.tmp 4], f44c, 1, none⟩
def f44k : List (Nat × List Nat) := [(0, [0, 1]), (1, [5]), (2, [5, 15]), (3, [5, 15, 16]), (5, [5, 15, 21]), (7, [5, 26]), (8, [4]), (6, [4]), (4, [4]), (9, [5, 6]), (10, [4])]
def f44v : List Nat := []

/-! 45: (*mortise/ctype.Table).record, parameters [23, 3], results [4] -/
def f45r0 : List AOper := [
  ⟨(some 4), .move (.c (.bool false)), none, 0, 0⟩]
def f45r1 : List AOper := [
  ⟨(some 6), .move (.t 0), none, 0, 0⟩,
  ⟨(some 7), .move (.t 1), none, 0, 0⟩,
  ⟨(some 8), .call (.c (.fn 42 [] [])) [(.t 6), (.t 7)], none, 0, 3⟩,
  ⟨(some 5), .move (.t 8), none, 0, 7⟩]
def f45r2 : List AOper := [
  ⟨(some 9), .move (.t 5), none, 0, 0⟩,
  ⟨(some 10), .bin .eql (.t 9) (.c (.int .i64 15)), none, 0, 1⟩,
  ⟨(some 11), .move (.t 10), none, 0, 3⟩,
  ⟨(some 12), .move (.t 5), (some (11, false)), 0, 7⟩,
  ⟨(some 13), .bin .eql (.t 12) (.c (.int .i64 16)), (some (11, false)), 0, 15⟩,
  ⟨(some 14), .pick (.t 11) (.c (.bool true)) (.t 13), none, 0, 31⟩,
  ⟨(some 4), .move (.t 14), none, 0, 63⟩]
def f45c : ACode :=
  .seq (.region false f45r0 [0, 1] 0)
  (.seq (.region false f45r1 [5] 0)
  (.seq (.region false f45r2 [4] 0)
  (.ret)))
def f45 : AFn := ⟨2, 15, [.tmp 4], f45c, 1, none⟩
def f45k : List (Nat × List Nat) := [(0, [0, 1]), (1, [5]), (2, [4])]
def f45v : List Nat := []

/-! 46: slices.Clone[[]mortise/api.Member,mortise/api.Member], parameters [22], results [22] -/
def f46r0 : List AOper := [
  ⟨(some 2), .move (.c (.is [] .nil)), none, 0, 0⟩]
def f46r1 : List AOper := [
  ⟨(some 3), .move (.t 0), none, 0, 0⟩,
  ⟨(some 4), .eq false .slice (.t 3) (.c (.is [] .nil)), none, 0, 1⟩]
def f46r2 : List AOper := [
  ⟨(some 2), .move (.c (.is [] .nil)), none, 0, 0⟩]
def f46r3 : List AOper := [
  ⟨(some 5), .buildSlice true 3 0 [] [], none, 0, 0⟩,
  ⟨(some 6), .move (.t 0), none, 0, 0⟩,
  ⟨(some 7), .append true 3 32 (.t 5) (.t 6), none, 0, 3⟩,
  ⟨(some 2), .move (.t 7), none, 1, 7⟩]
def f46c : ACode :=
  .seq (.region false f46r0 [0] 0)
  (.seq (.seq (.region false f46r1 [0, 4] 0)
  (.cond (.t 4)
    (.seq (.region false f46r2 [2] 0)
    (.ret))
    (.skip)))
  (.seq (.region false f46r3 [2] 1)
  (.ret)))
def f46 : AFn := ⟨1, 8, [.tmp 2], f46c, 3, none⟩
def f46k : List (Nat × List Nat) := [(0, [0]), (1, [0, 4]), (2, [2]), (3, [2])]
def f46v : List Nat := [7, 5]

/-! 47: (*mortise/ctype.Table).wide, parameters [23, 3, 3], results [4] -/
def f47r0 : List AOper := [
  ⟨(some 6), .move (.c (.bool false)), none, 0, 0⟩]
def f47r1 : List AOper := [
  ⟨(some 8), .move (.t 0), none, 0, 0⟩,
  ⟨(some 9), .move (.t 1), none, 0, 0⟩,
  ⟨(some 10), .call (.c (.fn 42 [] [])) [(.t 8), (.t 9)], none, 0, 3⟩,
  ⟨(some 7), .move (.t 10), none, 0, 7⟩]
def f47r2 : List AOper := [
  ⟨(some 11), .move (.t 7), none, 0, 0⟩,
  ⟨(some 12), .bin .lss (.t 11) (.c (.int .i64 2)), none, 0, 1⟩,
  ⟨(some 13), .move (.t 12), none, 0, 3⟩,
  ⟨(some 14), .move (.t 7), (some (13, false)), 0, 7⟩,
  ⟨(some 15), .bin .gtr (.t 14) (.c (.int .i64 12)), (some (13, false)), 0, 15⟩,
  ⟨(some 16), .pick (.t 13) (.c (.bool true)) (.t 15), none, 0, 31⟩,
  ⟨(some 17), .move (.t 16), none, 0, 63⟩,
  ⟨(some 18), .move (.t 2), (some (17, false)), 0, 127⟩,
  ⟨(some 19), .bin .lss (.t 18) (.c (.int .i64 0)), (some (17, false)), 0, 255⟩,
  ⟨(some 20), .pick (.t 17) (.c (.bool true)) (.t 19), none, 0, 511⟩]
def f47r3 : List AOper := [
  ⟨(some 6), .move (.c (.bool false)), none, 0, 0⟩]
def f47r4 : List AOper := [
  ⟨(some 21), .move (.t 7), none, 0, 0⟩,
  ⟨(some 22), .bin .eql (.t 21) (.c (.int .i64 2)), none, 0, 1⟩]
def f47r5 : List AOper := [
  ⟨(some 23), .move (.t 2), none, 0, 0⟩,
  ⟨(some 24), .bin .leq (.t 23) (.c (.int .i64 1)), none, 0, 1⟩,
  ⟨(some 6), .move (.t 24), none, 0, 3⟩]
def f47r6 : List AOper := [
  ⟨(some 25), .move (.t 2), none, 0, 0⟩,
  ⟨(some 26), .move (.t 7), none, 0, 0⟩,
  ⟨(some 27), .call (.c (.fn 57 [] [])) [(.t 26)], none, 0, 2⟩,
  ⟨(some 28), .bin .mul (.c (.int .i64 8)) (.t 27), none, 0, 6⟩,
  ⟨(some 29), .bin .leq (.t 25) (.t 28), none, 0, 15⟩,
  ⟨(some 6), .move (.t 29), none, 0, 31⟩]
def f47c : ACode :=
  .seq (.region false f47r0 [0, 1, 2] 0)
  (.seq (.region false f47r1 [2, 7] 0)
  (.seq (.seq (.region false f47r2 [2, 7, 20] 0)
  (.cond (.t 20)
    (.seq (.region false f47r3 [6] 0)
    (.ret))
    (.skip)))
  (.seq (.seq (.region false f47r4 [2, 7, 22] 0)
  (.cond (.t 22)
    (.seq (.region false f47r5 [6] 0)
    (.ret))
    (.skip)))
  (.seq (.region false f47r6 [6] 0)
  (.ret)))))
def f47 : AFn := ⟨3, 30, [.tmp 6], f47c, 1, none⟩
def f47k : List (Nat × List Nat) := [(0, [0, 1, 2]), (1, [2, 7]), (2, [2, 7, 20]), (3, [6]), (4, [2, 7, 22]), (5, [6]), (6, [6])]
def f47v : List Nat := []

/-! 48: mortise/ctype.letters, parameters [9], results [4] -/
def f48r0 : List AOper := [
  ⟨(some 2), .move (.c (.bool false)), none, 0, 0⟩]
def f48r1 : List AOper := [
  ⟨(some 5), .move (.t 0), none, 0, 0⟩,
  ⟨(some 6), .bin .eql (.t 5) (.c (.str [])), none, 0, 1⟩,
  ⟨(some 7), .move (.t 6), none, 0, 3⟩,
  ⟨(some 8), .move (.t 0), (some (7, false)), 0, 7⟩,
  ⟨(some 9), .len 0 (.t 8), (some (7, false)), 0, 15⟩,
  ⟨(some 10), .bin .gtr (.t 9) (.c (.int .i64 63)), (some (7, false)), 0, 31⟩,
  ⟨(some 11), .pick (.t 7) (.c (.bool true)) (.t 10), none, 0, 63⟩]
def f48r2 : List AOper := [
  ⟨(some 2), .move (.c (.bool false)), none, 0, 0⟩]
def f48r3 : List AOper := [
  ⟨(some 12), .move (.t 0), none, 0, 0⟩,
  ⟨(some 13), .len 0 (.t 12), none, 0, 1⟩,
  ⟨(some 14), .move (.c (.int .i64 0)), none, 0, 0⟩]
def f48r4 : List AOper := [
  ⟨(some 15), .bin .lss (.t 14) (.t 13), none, 0, 0⟩]
def f48r5 : List AOper := [
  ⟨(some 16), .move (.t 14), none, 0, 0⟩,
  ⟨(some 3), .move (.t 16), none, 0, 1⟩]
def f48r6 : List AOper := [
  ⟨(some 17), .move (.t 0), none, 0, 0⟩,
  ⟨(some 18), .move (.t 3), none, 0, 0⟩,
  ⟨(some 19), .strIndex (.t 17) (.t 18), none, 0, 3⟩,
  ⟨(some 4), .move (.t 19), none, 0, 7⟩]
def f48r7 : List AOper := [
  ⟨(some 20), .move (.t 4), none, 0, 0⟩,
  ⟨(some 21), .bin .neq (.t 20) (.c (.int .u8 95)), none, 0, 1⟩,
  ⟨(some 22), .move (.t 21), none, 0, 3⟩,
  ⟨(some 23), .move (.t 4), (some (22, true)), 0, 7⟩,
  ⟨(some 24), .bin .or (.t 23) (.c (.int .u8 32)), (some (22, true)), 0, 15⟩,
  ⟨(some 25), .bin .lss (.t 24) (.c (.int .u8 97)), (some (22, true)), 0, 31⟩,
  ⟨(some 26), .move (.t 25), (some (22, true)), 0, 63⟩,
  ⟨(some 27), .move (.t 4), (some (26, false)), 0, 127⟩,
  ⟨(some 28), .bin .or (.t 27) (.c (.int .u8 32)), (some (26, false)), 0, 255⟩,
  ⟨(some 29), .bin .gtr (.t 28) (.c (.int .u8 122)), (some (26, false)), 0, 511⟩,
  ⟨(some 30), .pick (.t 26) (.c (.bool true)) (.t 29), (some (22, true)), 0, 1023⟩,
  ⟨(some 31), .pick (.t 22) (.t 30) (.c (.bool false)), none, 0, 2047⟩,
  ⟨(some 32), .move (.t 31), none, 0, 4095⟩,
  ⟨(some 33), .move (.t 3), (some (32, true)), 0, 8191⟩,
  ⟨(some 34), .bin .eql (.t 33) (.c (.int .i64 0)), (some (32, true)), 0, 16383⟩,
  ⟨(some 35), .move (.t 34), (some (32, true)), 0, 32767⟩,
  ⟨(some 36), .move (.t 4), (some (35, false)), 0, 65535⟩,
  ⟨(some 37), .bin .lss (.t 36) (.c (.int .u8 48)), (some (35, false)), 0, 131071⟩,
  ⟨(some 38), .pick (.t 35) (.c (.bool true)) (.t 37), (some (32, true)), 0, 262143⟩,
  ⟨(some 39), .move (.t 38), (some (32, true)), 0, 524287⟩,
  ⟨(some 40), .move (.t 4), (some (39, false)), 0, 1048575⟩,
  ⟨(some 41), .bin .gtr (.t 40) (.c (.int .u8 57)), (some (39, false)), 0, 2097151⟩,
  ⟨(some 42), .pick (.t 39) (.c (.bool true)) (.t 41), (some (32, true)), 0, 4194303⟩,
  ⟨(some 43), .pick (.t 32) (.t 42) (.c (.bool false)), none, 0, 8388607⟩]
def f48r8 : List AOper := [
  ⟨(some 2), .move (.c (.bool false)), none, 0, 0⟩]
def f48r9 : List AOper := [
  ⟨(some 44), .bin .add (.t 14) (.c (.int .i64 1)), none, 0, 0⟩,
  ⟨(some 14), .move (.t 44), none, 0, 1⟩]
def f48m4 : ACode :=
  .seq (.region false f48r4 [0, 13, 14, 15] 0)
  (.seq (.cond (.t 15)
    (.skip)
    (.exit 0))
  (.seq (.block 1 (.seq (.region false f48r5 [0, 3, 13, 14] 0)
    (.seq (.region false f48r6 [0, 3, 4, 13, 14] 0)
    (.seq (.region false f48r7 [0, 13, 14, 43] 0)
    (.cond (.t 43)
      (.seq (.region false f48r8 [2] 0)
      (.ret))
      (.skip))))))
  (.region false f48r9 [0, 13, 14] 0)))
def f48l4 : ACode := f48m4
theorem f48l4_b {A : Tab} {nt : Nat} {e : Env} {h : Heap} : Brun A nt f48l4 e h = Brun A nt f48m4 e h := rfl
def f48r10 : List AOper := [
  ⟨(some 2), .move (.c (.bool true)), none, 0, 0⟩]
def f48c : ACode :=
  .seq (.region false f48r0 [0] 0)
  (.seq (.seq (.region false f48r1 [0, 11] 0)
  (.cond (.t 11)
    (.seq (.region false f48r2 [2] 0)
    (.ret))
    (.skip)))
  (.seq (.seq (.region false f48r3 [0, 13, 14] 0)
  (.block 0 (.loop f48l4)))
  (.seq (.region false f48r10 [2] 0)
  (.ret))))
def f48 : AFn := ⟨1, 45, [.tmp 2], f48c, 1, none⟩
def f48k : List (Nat × List Nat) := [(0, [0]), (1, [0, 11]), (2, [2]), (3, [0, 13, 14]), (4, [0, 13, 14, 15]), (5, [0, 3, 13, 14]), (6, [0, 3, 4, 13, 14]), (7, [0, 13, 14, 43]), (8, [2]), (9, [0, 13, 14]), (10, [2])]
def f48v : List Nat := []

/-! 49: mortise/mortiseref03.Tag, parameters [9], results [4] -/
def f49r0 : List AOper := [
  ⟨(some 2), .move (.c (.bool false)), none, 0, 0⟩]
def f49r1 : List AOper := [
  ⟨(some 4), .move (.t 0), none, 0, 0⟩,
  ⟨(some 5), .len 0 (.t 4), none, 0, 1⟩,
  ⟨(some 6), .bin .lss (.t 5) (.c (.int .i64 2)), none, 0, 3⟩,
  ⟨(some 7), .move (.t 6), none, 0, 7⟩,
  ⟨(some 8), .move (.t 0), (some (7, false)), 0, 15⟩,
  ⟨(some 9), .len 0 (.t 8), (some (7, false)), 0, 31⟩,
  ⟨(some 10), .bin .gtr (.t 9) (.c (.int .i64 10)), (some (7, false)), 0, 63⟩,
  ⟨(some 11), .pick (.t 7) (.c (.bool true)) (.t 10), none, 0, 127⟩,
  ⟨(some 12), .move (.t 11), none, 0, 255⟩,
  ⟨(some 13), .move (.t 0), (some (12, false)), 0, 511⟩,
  ⟨(some 14), .strIndex (.t 13) (.c (.int .i64 0)), (some (12, false)), 0, 1023⟩,
  ⟨(some 15), .bin .neq (.t 14) (.c (.int .u8 35)), (some (12, false)), 0, 2047⟩,
  ⟨(some 16), .pick (.t 12) (.c (.bool true)) (.t 15), none, 0, 4095⟩]
def f49r2 : List AOper := [
  ⟨(some 17), .move (.t 0), none, 0, 0⟩,
  ⟨(some 18), .call (.c (.fn 58 [] [])) [(.t 17)], none, 0, 1⟩,
  ⟨(some 2), .move (.t 18), none, 0, 3⟩]
def f49r3 : List AOper := [
  ⟨(some 3), .move (.c (.int .i64 1)), none, 0, 0⟩]
def f49r4 : List AOper := [
  ⟨(some 19), .move (.t 3), none, 0, 0⟩,
  ⟨(some 20), .move (.t 0), none, 0, 0⟩,
  ⟨(some 21), .len 0 (.t 20), none, 0, 2⟩,
  ⟨(some 22), .bin .lss (.t 19) (.t 21), none, 0, 7⟩]
def f49r5 : List AOper := [
  ⟨(some 25), .move (.t 0), none, 0, 0⟩,
  ⟨(some 26), .move (.t 3), none, 0, 0⟩,
  ⟨(some 27), .strIndex (.t 25) (.t 26), none, 0, 3⟩,
  ⟨(some 28), .call (.c (.fn 59 [] [])) [(.t 27)], none, 0, 7⟩,
  ⟨(some 29), .un .not (.t 28), none, 0, 15⟩]
def f49r6 : List AOper := [
  ⟨(some 2), .move (.c (.bool false)), none, 0, 0⟩]
def f49r7 : List AOper := [
  ⟨(some 23), .move (.t 3), none, 0, 0⟩,
  ⟨(some 24), .bin .add (.t 23) (.c (.int .i64 1)), none, 0, 1⟩,
  ⟨(some 3), .move (.t 24), none, 0, 3⟩]
def f49m4 : ACode :=
  .seq (.seq (.region false f49r4 [0, 3, 22] 0)
  (.cond (.t 22)
    (.skip)
    (.exit 0)))
  (.seq (.block 1 (.seq (.region false f49r5 [0, 3, 29] 0)
    (.cond (.t 29)
      (.seq (.region false f49r6 [2] 0)
      (.ret))
      (.skip))))
  (.region false f49r7 [0, 3] 0))
def f49l4 : ACode := f49m4
theorem f49l4_b {A : Tab} {nt : Nat} {e : Env} {h : Heap} : Brun A nt f49l4 e h = Brun A nt f49m4 e h := rfl
def f49r8 : List AOper := [
  ⟨(some 2), .move (.c (.bool true)), none, 0, 0⟩]
def f49c : ACode :=
  .seq (.region false f49r0 [0] 0)
  (.seq (.seq (.region false f49r1 [0, 16] 0)
  (.cond (.t 16)
    (.seq (.region false f49r2 [2] 0)
    (.ret))
    (.skip)))
  (.seq (.seq (.region false f49r3 [0, 3] 0)
  (.block 0 (.loop f49l4)))
  (.seq (.region false f49r8 [2] 0)
  (.ret))))
def f49 : AFn := ⟨1, 30, [.tmp 2], f49c, 1, none⟩
def f49k : List (Nat × List Nat) := [(0, [0]), (1, [0, 16]), (2, [2]), (3, [0, 3]), (4, [0, 3, 22]), (6, [0, 3, 29]), (7, [2]), (5, [0, 3]), (8, [2])]
def f49v : List Nat := []

/-! 50: (*mortise/mortiseref03.T).members, parameters [33, 22], results [3] -/
def f50r0 : List AOper := [
  ⟨(some 4), .move (.c (.int .i64 0)), none, 0, 0⟩]
def f50r1 : List AOper := [
  ⟨(some 7), .move (.t 1), none, 0, 0⟩,
  ⟨(some 8), .len 1 (.t 7), none, 0, 1⟩,
  ⟨(some 9), .bin .lss (.t 8) (.c (.int .i64 1)), none, 0, 3⟩,
  ⟨(some 10), .move (.t 9), none, 0, 7⟩,
  ⟨(some 11), .move (.t 1), (some (10, false)), 0, 15⟩,
  ⟨(some 12), .len 1 (.t 11), (some (10, false)), 0, 31⟩,
  ⟨(some 13), .bin .gtr (.t 12) (.c (.int .i64 64)), (some (10, false)), 0, 63⟩,
  ⟨(some 14), .pick (.t 10) (.c (.bool true)) (.t 13), none, 0, 127⟩]
def f50r2 : List AOper := [
  ⟨(some 4), .move (.c (.int .i64 2)), none, 0, 0⟩]
def f50r3 : List AOper := [
  ⟨(some 5), .move (.c (.int .i64 0)), none, 0, 0⟩]
def f50r4 : List AOper := [
  ⟨(some 15), .move (.t 5), none, 0, 0⟩,
  ⟨(some 16), .move (.t 1), none, 0, 0⟩,
  ⟨(some 17), .len 1 (.t 16), none, 0, 2⟩,
  ⟨(some 18), .bin .lss (.t 15) (.t 17), none, 0, 7⟩]
def f50r5 : List AOper := [
  ⟨(some 21), .move (.t 0), none, 0, 0⟩,
  ⟨(some 22), .move (.t 1), none, 0, 0⟩,
  ⟨(some 23), .move (.t 5), none, 0, 0⟩,
  ⟨(some 24), .call (.c (.fn 60 [] [])) [(.t 21), (.t 22), (.t 23)], none, 0, 7⟩,
  ⟨(some 6), .move (.t 24), none, 0, 15⟩]
def f50r6 : List AOper := [
  ⟨(some 25), .move (.t 6), none, 0, 0⟩,
  ⟨(some 26), .bin .neq (.t 25) (.c (.int .i64 0)), none, 0, 1⟩]
def f50r7 : List AOper := [
  ⟨(some 27), .move (.t 6), none, 0, 0⟩,
  ⟨(some 4), .move (.t 27), none, 0, 1⟩]
def f50r8 : List AOper := [
  ⟨(some 19), .move (.t 5), none, 0, 0⟩,
  ⟨(some 20), .bin .add (.t 19) (.c (.int .i64 1)), none, 0, 1⟩,
  ⟨(some 5), .move (.t 20), none, 0, 3⟩]
def f50m4 : ACode :=
  .seq (.seq (.region false f50r4 [0, 1, 5, 18] 0)
  (.cond (.t 18)
    (.skip)
    (.exit 0)))
  (.seq (.block 1 (.seq (.region false f50r5 [0, 1, 5, 6] 0)
    (.seq (.region false f50r6 [0, 1, 5, 6, 26] 0)
    (.cond (.t 26)
      (.seq (.region false f50r7 [4] 0)
      (.ret))
      (.skip)))))
  (.region false f50r8 [0, 1, 5] 0))
def f50l4 : ACode := f50m4
theorem f50l4_b {A : Tab} {nt : Nat} {e : Env} {h : Heap} : Brun A nt f50l4 e h = Brun A nt f50m4 e h := rfl
def f50r9 : List AOper := [
  ⟨(some 4), .move (.c (.int .i64 0)), none, 0, 0⟩]
def f50c : ACode :=
  .seq (.region false f50r0 [0, 1] 0)
  (.seq (.seq (.region false f50r1 [0, 1, 14] 0)
  (.cond (.t 14)
    (.seq (.region false f50r2 [4] 0)
    (.ret))
    (.skip)))
  (.seq (.seq (.region false f50r3 [0, 1, 5] 0)
  (.block 0 (.loop f50l4)))
  (.seq (.region false f50r9 [4] 0)
  (.ret))))
def f50 : AFn := ⟨2, 28, [.tmp 4], f50c, 1, none⟩
def f50k : List (Nat × List Nat) := [(0, [0, 1]), (1, [0, 1, 14]), (2, [4]), (3, [0, 1, 5]), (4, [0, 1, 5, 18]), (6, [0, 1, 5, 6]), (7, [0, 1, 5, 6, 26]), (8, [4]), (5, [0, 1, 5]), (9, [4])]
def f50v : List Nat := []

/-! 51: mortise/mortiseref03.length, parameters [3], results [4] -/
def f51r0 : List AOper := [
  ⟨(some 2), .move (.c (.bool false)), none, 0, 0⟩]
def f51r1 : List AOper := [
  ⟨(some 3), .move (.t 0), none, 0, 0⟩,
  ⟨(some 4), .bin .eql (.t 3) (.c (.int .i64 (-1))), none, 0, 1⟩,
  ⟨(some 5), .move (.t 4), none, 0, 3⟩,
  ⟨(some 6), .move (.t 0), (some (5, false)), 0, 7⟩,
  ⟨(some 7), .bin .geq (.t 6) (.c (.int .i64 1)), (some (5, false)), 0, 15⟩,
  ⟨(some 8), .move (.t 7), (some (5, false)), 0, 31⟩,
  ⟨(some 9), .move (.t 0), (some (8, true)), 0, 63⟩,
  ⟨(some 10), .bin .leq (.t 9) (.c (.int .i64 16384)), (some (8, true)), 0, 127⟩,
  ⟨(some 11), .pick (.t 8) (.t 10) (.c (.bool false)), (some (5, false)), 0, 255⟩,
  ⟨(some 12), .pick (.t 5) (.c (.bool true)) (.t 11), none, 0, 511⟩,
  ⟨(some 2), .move (.t 12), none, 0, 1023⟩]
def f51c : ACode :=
  .seq (.region false f51r0 [0] 0)
  (.seq (.region false f51r1 [2] 0)
  (.ret))
def f51 : AFn := ⟨1, 13, [.tmp 2], f51c, 1, none⟩
def f51k : List (Nat × List Nat) := [(0, [0]), (1, [2])]
def f51v : List Nat := []

/-! 52: (*mortise/mortiseref03.T).Whole, parameters [33, 3], results [4] -/
def f52r0 : List AOper := [
  ⟨(some 4), .move (.c (.bool false)), none, 0, 0⟩]
def f52r1 : List AOper := [
  ⟨(some 6), .move (.t 0), none, 0, 0⟩,
  ⟨(some 7), .move (.t 1), none, 0, 0⟩,
  ⟨(some 8), .call (.c (.fn 61 [] [])) [(.t 6), (.t 7)], none, 0, 3⟩,
  ⟨(some 5), .move (.t 8), none, 0, 7⟩]
def f52r2 : List AOper := [
  ⟨(some 10), .move (.t 5), none, 0, 0⟩,
  ⟨(some 11), .bin .eql (.t 10) (.c (.int .i64 14)), none, 0, 1⟩,
  ⟨(some 9), .move (.t 11), none, 0, 3⟩]
def f52r3 : List AOper := [
  ⟨(some 12), .move (.t 0), none, 0, 0⟩,
  ⟨(some 13), .nilCheck (.t 12), none, 0, 1⟩,
  ⟨(some 14), .fieldAddr 0 (.t 13), none, 0, 3⟩,
  ⟨(some 15), .load false 1 (.t 14), none, 0, 7⟩,
  ⟨(some 16), .move (.t 1), none, 0, 0⟩,
  ⟨(some 17), .idxAddr 6 (.t 15) (.t 16), none, 0, 31⟩,
  ⟨(some 18), .fieldAddr 2 (.t 17), none, 0, 63⟩,
  ⟨(some 19), .load false 1 (.t 18), none, 0, 127⟩,
  ⟨(some 20), .bin .geq (.t 19) (.c (.int .i64 1)), none, 0, 255⟩,
  ⟨(some 4), .move (.t 20), none, 0, 511⟩]
def f52r4 : List AOper := [
  ⟨(some 22), .move (.t 0), none, 0, 0⟩,
  ⟨(some 23), .move (.t 1), none, 0, 0⟩,
  ⟨(some 24), .call (.c (.fn 62 [] [])) [(.t 22), (.t 23)], none, 0, 3⟩,
  ⟨(some 21), .move (.t 24), none, 0, 7⟩]
def f52r5 : List AOper := [
  ⟨(some 25), .move (.t 0), none, 0, 0⟩,
  ⟨(some 26), .nilCheck (.t 25), none, 0, 1⟩,
  ⟨(some 27), .fieldAddr 0 (.t 26), none, 0, 3⟩,
  ⟨(some 28), .load false 1 (.t 27), none, 0, 7⟩,
  ⟨(some 29), .move (.t 1), none, 0, 0⟩,
  ⟨(some 30), .idxAddr 6 (.t 28) (.t 29), none, 0, 31⟩,
  ⟨(some 31), .fieldAddr 5 (.t 30), none, 0, 63⟩,
  ⟨(some 32), .load false 1 (.t 31), none, 0, 127⟩,
  ⟨(some 4), .move (.t 32), none, 0, 255⟩]
def f52r6 : List AOper := [
  ⟨(some 33), .move (.t 5), none, 0, 0⟩,
  ⟨(some 34), .bin .gtr (.t 33) (.c (.int .i64 1)), none, 0, 1⟩,
  ⟨(some 4), .move (.t 34), none, 0, 3⟩]
def f52c : ACode :=
  .seq (.region false f52r0 [0, 1] 0)
  (.seq (.region false f52r1 [0, 1, 5] 0)
  (.seq (.block 0 (.seq (.region false f52r2 [0, 1, 5, 9] 0)
    (.cond (.t 9)
      (.seq (.region false f52r3 [4] 0)
      (.ret))
      (.seq (.region false f52r4 [0, 1, 5, 21] 0)
      (.cond (.t 21)
        (.seq (.region false f52r5 [4] 0)
        (.ret))
        (.skip))))))
  (.seq (.region false f52r6 [4] 0)
  (.ret))))
def f52 : AFn := ⟨2, 35, [.tmp 4], f52c, 1, none⟩
def f52k : List (Nat × List Nat) := [(0, [0, 1]), (1, [0, 1, 5]), (2, [0, 1, 5, 9]), (4, [0, 1, 5, 21]), (5, [4]), (3, [4]), (6, [4])]
def f52v : List Nat := []

/-! 53: (*mortise/ctype.Table).add, parameters [23, 42], results [3, 35] -/
def f53r0 : List AOper := [
  ⟨(some 3), .box true (.t 1), none, 0, 0⟩,
  ⟨(some 4), .move (.c (.int .i64 0)), none, 0, 0⟩,
  ⟨(some 5), .move (.c (.int .i64 0)), none, 0, 2⟩]
def f53r1 : List AOper := [
  ⟨(some 6), .move (.t 0), none, 0, 0⟩,
  ⟨(some 7), .nilCheck (.t 6), none, 0, 1⟩,
  ⟨(some 8), .fieldAddr 0 (.t 7), none, 0, 3⟩,
  ⟨(some 9), .load false 1 (.t 8), none, 0, 7⟩,
  ⟨(some 10), .len 1 (.t 9), none, 0, 15⟩,
  ⟨(some 11), .bin .geq (.t 10) (.c (.int .i64 512)), none, 0, 31⟩]
def f53r2 : List AOper := [
  ⟨(some 4), .move (.c (.int .i64 0)), none, 0, 0⟩,
  ⟨(some 5), .move (.c (.int .i64 32)), none, 0, 1⟩]
def f53r3 : List AOper := [
  ⟨(some 12), .move (.t 0), none, 0, 0⟩,
  ⟨(some 13), .move (.t 0), none, 0, 0⟩,
  ⟨(some 14), .nilCheck (.t 13), none, 0, 2⟩,
  ⟨(some 15), .fieldAddr 0 (.t 14), none, 0, 6⟩,
  ⟨(some 16), .load false 1 (.t 15), none, 0, 14⟩,
  ⟨(some 17), .load true 6 (.t 3), none, 0, 0⟩,
  ⟨(some 18), .buildSlice false 6 1 [(.int .i64 0), (.int .i64 0), (.int .i64 0), (.str []), (.is [] .nil), (.bool false)] [(0, 6, (.t 17))], none, 0, 32⟩,
  ⟨(some 19), .append false 6 72 (.t 16) (.t 18), none, 1, 126⟩,
  ⟨(some 20), .nilCheck (.t 12), none, 2, 255⟩,
  ⟨(some 21), .fieldAddr 0 (.t 20), none, 2, 511⟩,
  ⟨none, .store 1 (.t 21) (.t 19), none, 2, 1023⟩]
def f53r4 : List AOper := [
  ⟨(some 22), .move (.t 0), none, 0, 0⟩,
  ⟨(some 23), .nilCheck (.t 22), none, 0, 1⟩,
  ⟨(some 24), .fieldAddr 0 (.t 23), none, 0, 3⟩,
  ⟨(some 25), .load false 1 (.t 24), none, 0, 7⟩,
  ⟨(some 26), .len 1 (.t 25), none, 0, 15⟩,
  ⟨(some 27), .bin .sub (.t 26) (.c (.int .i64 1)), none, 0, 31⟩,
  ⟨(some 4), .move (.t 27), none, 0, 63⟩,
  ⟨(some 5), .move (.c (.int .i64 0)), none, 0, 127⟩]
def f53c : ACode :=
  .seq (.region false f53r0 [0, 3] 0)
  (.seq (.seq (.region false f53r1 [0, 3, 11] 0)
  (.cond (.t 11)
    (.seq (.region false f53r2 [4, 5] 0)
    (.ret))
    (.skip)))
  (.seq (.region true f53r3 [0] 2)
  (.seq (.region false f53r4 [4, 5] 0)
  (.ret))))
def f53 : AFn := ⟨2, 28, [.tmp 4, .tmp 5], f53c, 1, none⟩
def f53k : List (Nat × List Nat) := [(0, [0, 3]), (1, [0, 3, 11]), (2, [4, 5]), (3, [0]), (4, [4, 5])]
def f53v : List Nat := [3]

/-! 54: strings.CutPrefix, parameters [9, 9], results [9, 4] -/
def f54r0 : List AOper := [
  ⟨(some 4), .move (.c (.str [])), none, 0, 0⟩,
  ⟨(some 5), .move (.c (.bool false)), none, 0, 1⟩]
def f54r1 : List AOper := [
  ⟨(some 6), .move (.t 0), none, 0, 0⟩,
  ⟨(some 7), .move (.t 1), none, 0, 0⟩,
  ⟨(some 8), .call (.c (.fn 63 [] [])) [(.t 6), (.t 7)], none, 0, 3⟩,
  ⟨(some 9), .extract (.t 8) 0, none, 0, 7⟩,
  ⟨(some 10), .extract (.t 8) 1, none, 0, 7⟩,
  ⟨(some 4), .move (.t 9), none, 0, 31⟩,
  ⟨(some 5), .move (.t 10), none, 0, 63⟩]
def f54c : ACode :=
  .seq (.region false f54r0 [0, 1] 0)
  (.seq (.region false f54r1 [4, 5] 0)
  (.ret))
def f54 : AFn := ⟨2, 11, [.tmp 4, .tmp 5], f54c, 1, none⟩
def f54k : List (Nat × List Nat) := [(0, [0, 1]), (1, [4, 5])]
def f54v : List Nat := []

/-! 55: strings.Trim, parameters [9, 9], results [9] -/
def f55r0 : List AOper := [
  ⟨(some 4), .move (.c (.str [])), none, 0, 0⟩]
def f55r1 : List AOper := [
  ⟨(some 7), .move (.t 0), none, 0, 0⟩,
  ⟨(some 8), .bin .eql (.t 7) (.c (.str [])), none, 0, 1⟩,
  ⟨(some 9), .move (.t 8), none, 0, 3⟩,
  ⟨(some 10), .move (.t 1), (some (9, false)), 0, 7⟩,
  ⟨(some 11), .bin .eql (.t 10) (.c (.str [])), (some (9, false)), 0, 15⟩,
  ⟨(some 12), .pick (.t 9) (.c (.bool true)) (.t 11), none, 0, 31⟩]
def f55r2 : List AOper := [
  ⟨(some 13), .move (.t 0), none, 0, 0⟩,
  ⟨(some 4), .move (.t 13), none, 0, 1⟩]
def f55r3 : List AOper := [
  ⟨(some 14), .move (.t 1), none, 0, 0⟩,
  ⟨(some 15), .len 0 (.t 14), none, 0, 1⟩,
  ⟨(some 16), .bin .eql (.t 15) (.c (.int .i64 1)), none, 0, 3⟩,
  ⟨(some 17), .move (.t 16), none, 0, 7⟩,
  ⟨(some 18), .move (.t 1), (some (17, true)), 0, 15⟩,
  ⟨(some 19), .strIndex (.t 18) (.c (.int .i64 0)), (some (17, true)), 0, 31⟩,
  ⟨(some 20), .bin .lss (.t 19) (.c (.int .u8 128)), (some (17, true)), 0, 63⟩,
  ⟨(some 21), .pick (.t 17) (.t 20) (.c (.bool false)), none, 0, 127⟩]
def f55q4 : List AOper := [
  ⟨(some 22), .move (.t 0), none, 0, 0⟩,
  ⟨(some 23), .move (.t 1), none, 0, 0⟩,
  ⟨(some 24), .strIndex (.t 23) (.c (.int .i64 0)), none, 0, 2⟩,
  ⟨(some 25), .call (.c (.fn 65 [] [])) [(.t 22), (.t 24)], none, 0, 7⟩,
  ⟨(some 26), .move (.t 1), none, 0, 0⟩,
  ⟨(some 27), .strIndex (.t 26) (.c (.int .i64 0)), none, 0, 16⟩,
  ⟨(some 28), .call (.c (.fn 64 [] [])) [(.t 25), (.t 27)], none, 0, 63⟩,
  ⟨(some 4), .move (.t 28), none, 0, 127⟩]
def f55r4 : List AOper := f55q4
def f55r5 : List AOper := [
  ⟨(some 30), .move (.t 1), none, 0, 0⟩,
  ⟨(some 31), .call (.c (.fn 66 [] [])) [(.t 30)], none, 0, 1⟩,
  ⟨(some 29), .move (.t 31), none, 0, 3⟩,
  ⟨(some 32), .extract (.t 29) 0, none, 0, 7⟩,
  ⟨(some 33), .extract (.t 29) 1, none, 0, 7⟩,
  ⟨(some 5), .alloc false (List.replicate 256 (.bool false)), none, 0, 0⟩,
  ⟨none, .store 256 (.t 5) (.t 32), none, 1, 47⟩,
  ⟨(some 6), .move (.t 33), none, 1, 127⟩]
def f55r6 : List AOper := [
  ⟨(some 34), .move (.t 6), none, 0, 0⟩]
def f55r7 : List AOper := [
  ⟨(some 35), .move (.t 0), none, 0, 0⟩,
  ⟨(some 36), .call (.c (.fn 68 [] [])) [(.t 35), (.t 5)], none, 0, 1⟩,
  ⟨(some 37), .call (.c (.fn 67 [] [])) [(.t 36), (.t 5)], none, 0, 3⟩,
  ⟨(some 4), .move (.t 37), none, 0, 7⟩]
def f55r8 : List AOper := [
  ⟨(some 38), .move (.t 0), none, 0, 0⟩,
  ⟨(some 39), .move (.t 1), none, 0, 0⟩,
  ⟨(some 40), .call (.c (.fn 70 [] [])) [(.t 38), (.t 39)], none, 0, 3⟩,
  ⟨(some 41), .move (.t 1), none, 0, 0⟩,
  ⟨(some 42), .call (.c (.fn 69 [] [])) [(.t 40), (.t 41)], none, 0, 15⟩,
  ⟨(some 4), .move (.t 42), none, 0, 31⟩]
theorem f55r4_s : staticOK 0 f55r4 = true := by rfl
theorem f55r4_w {A : Tab} {nt : Nat} {keep : List Nat} {n : Nat} {e : Env} {h : Heap} (hr : (bkeep keep (stepsF nt (stepF A true) h.length f55r4 e (h ++ List.replicate n .free))).isSome = true) : Brun A nt (.region true f55r4 keep n) e h = bkeep keep (stepsF nt (stepF A true) h.length f55r4 e (h ++ List.replicate n .free)) := Brun_drawnS f55r4_s hr
theorem f55r4_u (nt base : Nat) (step : Nat → AOp → Env → Heap → Option (AV × Heap)) (e : Env) (h : Heap) : stepsF nt step base f55r4 e h = stepsF nt step base f55q4 e h := rfl
def f55c : ACode :=
  .seq (.region false f55r0 [0, 1] 0)
  (.seq (.seq (.region false f55r1 [0, 1, 12] 0)
  (.cond (.t 12)
    (.seq (.region false f55r2 [4] 0)
    (.ret))
    (.skip)))
  (.seq (.seq (.region false f55r3 [0, 1, 21] 0)
  (.cond (.t 21)
    (.seq (.region true f55r4 [4] 0)
    (.ret))
    (.skip)))
  (.seq (.seq (.region false f55r5 [0, 1, 5, 6] 1)
  (.seq (.region false f55r6 [0, 1, 5, 34] 0)
  (.cond (.t 34)
    (.seq (.region false f55r7 [4] 0)
    (.ret))
    (.skip))))
  (.seq (.region false f55r8 [4] 0)
  (.ret)))))
def f55 : AFn := ⟨2, 43, [.tmp 4], f55c, 1, none⟩
def f55k : List (Nat × List Nat) := [(0, [0, 1]), (1, [0, 1, 12]), (2, [4]), (3, [0, 1, 21]), (4, [4]), (5, [0, 1, 5, 6]), (6, [0, 1, 5, 34]), (7, [4]), (8, [4])]
def f55v : List Nat := []

/-! 56: internal/strconv.Itoa, parameters [3], results [9] -/
def f56r0 : List AOper := [
  ⟨(some 2), .move (.c (.str [])), none, 0, 0⟩]
def f56r1 : List AOper := [
  ⟨(some 3), .move (.t 0), none, 0, 0⟩,
  ⟨(some 4), .call (.c (.fn 71 [] [])) [(.t 3), (.c (.int .i64 10))], none, 0, 1⟩,
  ⟨(some 2), .move (.t 4), none, 0, 3⟩]
def f56c : ACode :=
  .seq (.region false f56r0 [0] 0)
  (.seq (.region false f56r1 [2] 0)
  (.ret))
def f56 : AFn := ⟨1, 5, [.tmp 2], f56c, 1, none⟩
def f56k : List (Nat × List Nat) := [(0, [0]), (1, [2])]
def f56v : List Nat := []

/-! 57: mortise/word.Width, parameters [40], results [3] -/
def f57r0 : List AOper := [
  ⟨(some 2), .move (.c (.int .i64 0)), none, 0, 0⟩]
def f57r1 : List AOper := [
  ⟨(some 3), .move (.t 0), none, 0, 0⟩]
def f57r2 : List AOper := [
  ⟨(some 5), .bin .eql (.t 3) (.c (.int .i64 2)), none, 0, 0⟩,
  ⟨(some 4), .move (.t 5), none, 0, 1⟩]
def f57r3 : List AOper := [
  ⟨(some 6), .bin .eql (.t 3) (.c (.int .i64 3)), none, 0, 0⟩,
  ⟨(some 4), .move (.t 6), none, 0, 1⟩]
def f57r4 : List AOper := [
  ⟨(some 7), .bin .eql (.t 3) (.c (.int .i64 4)), none, 0, 0⟩,
  ⟨(some 4), .move (.t 7), none, 0, 1⟩]
def f57r5 : List AOper := [
  ⟨(some 8), .bin .eql (.t 3) (.c (.int .i64 5)), none, 0, 0⟩,
  ⟨(some 4), .move (.t 8), none, 0, 1⟩]
def f57r6 : List AOper := [
  ⟨(some 2), .move (.c (.int .i64 1)), none, 0, 0⟩]
def f57r7 : List AOper := [
  ⟨(some 10), .bin .eql (.t 3) (.c (.int .i64 6)), none, 0, 0⟩,
  ⟨(some 9), .move (.t 10), none, 0, 1⟩]
def f57r8 : List AOper := [
  ⟨(some 11), .bin .eql (.t 3) (.c (.int .i64 7)), none, 0, 0⟩,
  ⟨(some 9), .move (.t 11), none, 0, 1⟩]
def f57r9 : List AOper := [
  ⟨(some 2), .move (.c (.int .i64 2)), none, 0, 0⟩]
def f57r10 : List AOper := [
  ⟨(some 13), .bin .eql (.t 3) (.c (.int .i64 8)), none, 0, 0⟩,
  ⟨(some 12), .move (.t 13), none, 0, 1⟩]
def f57r11 : List AOper := [
  ⟨(some 14), .bin .eql (.t 3) (.c (.int .i64 9)), none, 0, 0⟩,
  ⟨(some 12), .move (.t 14), none, 0, 1⟩]
def f57r12 : List AOper := [
  ⟨(some 15), .bin .eql (.t 3) (.c (.int .i64 10)), none, 0, 0⟩,
  ⟨(some 12), .move (.t 15), none, 0, 1⟩]
def f57r13 : List AOper := [
  ⟨(some 16), .bin .eql (.t 3) (.c (.int .i64 11)), none, 0, 0⟩,
  ⟨(some 12), .move (.t 16), none, 0, 1⟩]
def f57r14 : List AOper := [
  ⟨(some 17), .bin .eql (.t 3) (.c (.int .i64 12)), none, 0, 0⟩,
  ⟨(some 12), .move (.t 17), none, 0, 1⟩]
def f57r15 : List AOper := [
  ⟨(some 18), .bin .eql (.t 3) (.c (.int .i64 13)), none, 0, 0⟩,
  ⟨(some 12), .move (.t 18), none, 0, 1⟩]
def f57r16 : List AOper := [
  ⟨(some 2), .move (.c (.int .i64 4)), none, 0, 0⟩]
def f57r17 : List AOper := [
  ⟨(some 2), .move (.c (.int .i64 0)), none, 0, 0⟩]
def f57c : ACode :=
  .seq (.region false f57r0 [0] 0)
  (.seq (.seq (.region false f57r1 [3] 0)
  (.block 0 (.seq (.seq (.region false f57r2 [3, 4] 0)
    (.cond (.t 4)
      (.skip)
      (.seq (.region false f57r3 [3, 4] 0)
      (.cond (.t 4)
        (.skip)
        (.seq (.region false f57r4 [3, 4] 0)
        (.cond (.t 4)
          (.skip)
          (.region false f57r5 [3, 4] 0)))))))
    (.cond (.t 4)
      (.seq (.region false f57r6 [2] 0)
      (.ret))
      (.seq (.seq (.region false f57r7 [3, 9] 0)
      (.cond (.t 9)
        (.skip)
        (.region false f57r8 [3, 9] 0)))
      (.cond (.t 9)
        (.seq (.region false f57r9 [2] 0)
        (.ret))
        (.seq (.seq (.region false f57r10 [3, 12] 0)
        (.cond (.t 12)
          (.skip)
          (.seq (.region false f57r11 [3, 12] 0)
          (.cond (.t 12)
            (.skip)
            (.seq (.region false f57r12 [3, 12] 0)
            (.cond (.t 12)
              (.skip)
              (.seq (.region false f57r13 [3, 12] 0)
              (.cond (.t 12)
                (.skip)
                (.seq (.region false f57r14 [3, 12] 0)
                (.cond (.t 12)
                  (.skip)
                  (.region false f57r15 [12] 0)))))))))))
        (.cond (.t 12)
          (.seq (.region false f57r16 [2] 0)
          (.ret))
          (.skip)))))))))
  (.seq (.region false f57r17 [2] 0)
  (.ret)))
def f57 : AFn := ⟨1, 19, [.tmp 2], f57c, 1, none⟩
def f57k : List (Nat × List Nat) := [(0, [0]), (1, [3]), (2, [3, 4]), (3, [3, 4]), (4, [3, 4]), (5, [3, 4]), (7, [3, 9]), (8, [3, 9]), (10, [3, 12]), (11, [3, 12]), (12, [3, 12]), (13, [3, 12]), (14, [3, 12]), (15, [12]), (16, [2]), (9, [2]), (6, [2]), (17, [2])]
def f57v : List Nat := []

/-! 58: mortise/mortiseref03.Word, parameters [9], results [4] -/
def f58r0 : List AOper := [
  ⟨(some 2), .move (.c (.bool false)), none, 0, 0⟩]
def f58r1 : List AOper := [
  ⟨(some 4), .move (.t 0), none, 0, 0⟩,
  ⟨(some 5), .len 0 (.t 4), none, 0, 1⟩,
  ⟨(some 6), .bin .lss (.t 5) (.c (.int .i64 1)), none, 0, 3⟩,
  ⟨(some 7), .move (.t 6), none, 0, 7⟩,
  ⟨(some 8), .move (.t 0), (some (7, false)), 0, 15⟩,
  ⟨(some 9), .len 0 (.t 8), (some (7, false)), 0, 31⟩,
  ⟨(some 10), .bin .gtr (.t 9) (.c (.int .i64 63)), (some (7, false)), 0, 63⟩,
  ⟨(some 11), .pick (.t 7) (.c (.bool true)) (.t 10), none, 0, 127⟩,
  ⟨(some 12), .move (.t 11), none, 0, 255⟩,
  ⟨(some 13), .move (.t 0), (some (12, false)), 0, 511⟩,
  ⟨(some 14), .strIndex (.t 13) (.c (.int .i64 0)), (some (12, false)), 0, 1023⟩,
  ⟨(some 15), .call (.c (.fn 72 [] [])) [(.t 14)], (some (12, false)), 0, 2047⟩,
  ⟨(some 16), .un .not (.t 15), (some (12, false)), 0, 4095⟩,
  ⟨(some 17), .pick (.t 12) (.c (.bool true)) (.t 16), none, 0, 8191⟩]
def f58r2 : List AOper := [
  ⟨(some 2), .move (.c (.bool false)), none, 0, 0⟩]
def f58r3 : List AOper := [
  ⟨(some 3), .move (.c (.int .i64 1)), none, 0, 0⟩]
def f58r4 : List AOper := [
  ⟨(some 18), .move (.t 3), none, 0, 0⟩,
  ⟨(some 19), .move (.t 0), none, 0, 0⟩,
  ⟨(some 20), .len 0 (.t 19), none, 0, 2⟩,
  ⟨(some 21), .bin .lss (.t 18) (.t 20), none, 0, 7⟩]
def f58r5 : List AOper := [
  ⟨(some 24), .move (.t 0), none, 0, 0⟩,
  ⟨(some 25), .move (.t 3), none, 0, 0⟩,
  ⟨(some 26), .strIndex (.t 24) (.t 25), none, 0, 3⟩,
  ⟨(some 27), .call (.c (.fn 72 [] [])) [(.t 26)], none, 0, 7⟩,
  ⟨(some 28), .un .not (.t 27), none, 0, 15⟩,
  ⟨(some 29), .move (.t 28), none, 0, 31⟩,
  ⟨(some 30), .move (.t 0), (some (29, true)), 0, 63⟩,
  ⟨(some 31), .move (.t 3), (some (29, true)), 0, 63⟩,
  ⟨(some 32), .strIndex (.t 30) (.t 31), (some (29, true)), 0, 255⟩,
  ⟨(some 33), .call (.c (.fn 59 [] [])) [(.t 32)], (some (29, true)), 0, 511⟩,
  ⟨(some 34), .un .not (.t 33), (some (29, true)), 0, 1023⟩,
  ⟨(some 35), .pick (.t 29) (.t 34) (.c (.bool false)), none, 0, 2047⟩]
def f58r6 : List AOper := [
  ⟨(some 2), .move (.c (.bool false)), none, 0, 0⟩]
def f58r7 : List AOper := [
  ⟨(some 22), .move (.t 3), none, 0, 0⟩,
  ⟨(some 23), .bin .add (.t 22) (.c (.int .i64 1)), none, 0, 1⟩,
  ⟨(some 3), .move (.t 23), none, 0, 3⟩]
def f58m4 : ACode :=
  .seq (.seq (.region false f58r4 [0, 3, 21] 0)
  (.cond (.t 21)
    (.skip)
    (.exit 0)))
  (.seq (.block 1 (.seq (.region false f58r5 [0, 3, 35] 0)
    (.cond (.t 35)
      (.seq (.region false f58r6 [2] 0)
      (.ret))
      (.skip))))
  (.region false f58r7 [0, 3] 0))
def f58l4 : ACode := f58m4
theorem f58l4_b {A : Tab} {nt : Nat} {e : Env} {h : Heap} : Brun A nt f58l4 e h = Brun A nt f58m4 e h := rfl
def f58r8 : List AOper := [
  ⟨(some 2), .move (.c (.bool true)), none, 0, 0⟩]
def f58c : ACode :=
  .seq (.region false f58r0 [0] 0)
  (.seq (.seq (.region false f58r1 [0, 17] 0)
  (.cond (.t 17)
    (.seq (.region false f58r2 [2] 0)
    (.ret))
    (.skip)))
  (.seq (.seq (.region false f58r3 [0, 3] 0)
  (.block 0 (.loop f58l4)))
  (.seq (.region false f58r8 [2] 0)
  (.ret))))
def f58 : AFn := ⟨1, 36, [.tmp 2], f58c, 1, none⟩
def f58k : List (Nat × List Nat) := [(0, [0]), (1, [0, 17]), (2, [2]), (3, [0, 3]), (4, [0, 3, 21]), (6, [0, 3, 35]), (7, [2]), (5, [0, 3]), (8, [2])]
def f58v : List Nat := []

/-! 59: mortise/mortiseref03.digit, parameters [5], results [4] -/
def f59r0 : List AOper := [
  ⟨(some 2), .move (.c (.bool false)), none, 0, 0⟩]
def f59r1 : List AOper := [
  ⟨(some 3), .move (.t 0), none, 0, 0⟩,
  ⟨(some 4), .bin .geq (.t 3) (.c (.int .u8 48)), none, 0, 1⟩,
  ⟨(some 5), .move (.t 4), none, 0, 3⟩,
  ⟨(some 6), .move (.t 0), (some (5, true)), 0, 7⟩,
  ⟨(some 7), .bin .leq (.t 6) (.c (.int .u8 57)), (some (5, true)), 0, 15⟩,
  ⟨(some 8), .pick (.t 5) (.t 7) (.c (.bool false)), none, 0, 31⟩,
  ⟨(some 2), .move (.t 8), none, 0, 63⟩]
def f59c : ACode :=
  .seq (.region false f59r0 [0] 0)
  (.seq (.region false f59r1 [2] 0)
  (.ret))
def f59 : AFn := ⟨1, 9, [.tmp 2], f59c, 1, none⟩
def f59k : List (Nat × List Nat) := [(0, [0]), (1, [2])]
def f59v : List Nat := []

end Go.Proofs.YthfiajonommodaaDoor
