/- The seat's functions as the machine's, part 0. Printed by a program. -/
import Derived.Test.YtfhijkapcdmdnaaGlob
namespace Go.Proofs.Ytfhijkapcdmdnaa
open Go.AM
set_option maxRecDepth 100000
/-! 3: mortise/mortiselaw23.FrameMoves, parameters [22, 3], results [4] -/
def f3r0 : List AOper := [
  ⟨(some 4), .move (.c (.bool false)), none, 0, 0⟩]
def f3r1 : List AOper := [
  ⟨(some 16), .buildSlice true 2 0 [] [], none, 0, 0⟩,
  ⟨(some 17), .move (.t 0), none, 0, 0⟩,
  ⟨(some 18), .append true 2 16 (.t 16) (.t 17), none, 0, 3⟩,
  ⟨(some 5), .move (.t 18), none, 1, 7⟩]
def f3r2 : List AOper := [
  ⟨(some 20), .move (.t 5), none, 0, 0⟩,
  ⟨(some 21), .move (.t 1), none, 0, 0⟩,
  ⟨(some 22), .call (.c (.fn 4 [] [])) [(.t 20), (.t 21)], none, 0, 3⟩,
  ⟨(some 19), .move (.t 22), none, 0, 7⟩,
  ⟨(some 23), .extract (.t 19) 0, none, 0, 15⟩,
  ⟨(some 24), .extract (.t 19) 1, none, 0, 15⟩,
  ⟨(some 6), .move (.t 23), none, 0, 31⟩,
  ⟨(some 7), .move (.t 24), none, 0, 127⟩]
def f3r3 : List AOper := [
  ⟨(some 8), .move (.c (.int .i64 0)), none, 0, 0⟩]
def f3r4 : List AOper := [
  ⟨(some 25), .move (.t 8), none, 0, 0⟩,
  ⟨(some 26), .move (.t 0), none, 0, 0⟩,
  ⟨(some 27), .len 1 (.t 26), none, 0, 2⟩,
  ⟨(some 28), .bin .lss (.t 25) (.t 27), none, 0, 7⟩]
def f3q5 : List AOper := [
  ⟨(some 31), .move (.t 5), none, 0, 0⟩,
  ⟨(some 32), .move (.t 8), none, 0, 0⟩,
  ⟨(some 33), .idxAddr 2 (.t 31) (.t 32), none, 0, 3⟩,
  ⟨(some 34), .load true 2 (.t 33), none, 0, 7⟩,
  ⟨(some 35), .move (.t 0), none, 0, 0⟩,
  ⟨(some 36), .move (.t 8), none, 0, 0⟩,
  ⟨(some 37), .idxAddr 2 (.t 35) (.t 36), none, 0, 48⟩,
  ⟨(some 38), .load true 2 (.t 37), none, 0, 112⟩,
  ⟨(some 39), .eq true (.agg [.int .i64, .int .i64]) (.t 34) (.t 38), none, 0, 255⟩]
def f3r5 : List AOper := f3q5
def f3r6 : List AOper := [
  ⟨(some 4), .move (.c (.bool false)), none, 0, 0⟩]
def f3r7 : List AOper := [
  ⟨(some 29), .move (.t 8), none, 0, 0⟩,
  ⟨(some 30), .bin .add (.t 29) (.c (.int .i64 1)), none, 0, 1⟩,
  ⟨(some 8), .move (.t 30), none, 0, 3⟩]
def f3m4 : ACode :=
  .seq (.seq (.region false f3r4 [0, 1, 5, 6, 7, 8, 28] 0)
  (.cond (.t 28)
    (.skip)
    (.exit 0)))
  (.seq (.block 1 (.seq (.region true f3r5 [0, 1, 5, 6, 7, 8, 39] 0)
    (.cond (.t 39)
      (.seq (.region false f3r6 [4] 0)
      (.ret))
      (.skip))))
  (.region false f3r7 [0, 1, 5, 6, 7, 8] 0))
def f3l4 : ACode := f3m4
theorem f3l4_b {A : Tab} {nt : Nat} {e : Env} {h : Heap} : Brun A nt f3l4 e h = Brun A nt f3m4 e h := rfl
def f3r8 : List AOper := [
  ⟨(some 40), .move (.t 0), none, 0, 0⟩,
  ⟨(some 41), .move (.t 1), none, 0, 0⟩,
  ⟨(some 42), .call (.c (.fn 5 [] [])) [(.t 40), (.t 41)], none, 0, 3⟩,
  ⟨(some 43), .un .not (.t 42), none, 0, 7⟩]
def f3r9 : List AOper := [
  ⟨(some 44), .move (.t 7), none, 0, 0⟩,
  ⟨(some 45), .bin .eql (.t 44) (.c (.int .i64 2)), none, 0, 1⟩,
  ⟨(some 46), .move (.t 45), none, 0, 3⟩,
  ⟨(some 47), .move (.t 6), (some (46, true)), 0, 7⟩,
  ⟨(some 48), .len 1 (.t 47), (some (46, true)), 0, 15⟩,
  ⟨(some 49), .bin .eql (.t 48) (.c (.int .i64 0)), (some (46, true)), 0, 31⟩,
  ⟨(some 50), .pick (.t 46) (.t 49) (.c (.bool false)), none, 0, 63⟩,
  ⟨(some 51), .move (.t 50), none, 0, 127⟩,
  ⟨(some 52), .call (.c (.fn 6 [] [])) [], (some (51, true)), 0, 255⟩,
  ⟨(some 53), .pick (.t 51) (.t 52) (.c (.bool false)), none, 0, 511⟩,
  ⟨(some 4), .move (.t 53), none, 0, 1023⟩]
def f3r10 : List AOper := [
  ⟨(some 54), .move (.t 7), none, 0, 0⟩,
  ⟨(some 55), .bin .neq (.t 54) (.c (.int .i64 0)), none, 0, 1⟩]
def f3r11 : List AOper := [
  ⟨(some 4), .move (.c (.bool false)), none, 0, 0⟩]
def f3r12 : List AOper := [
  ⟨(some 9), .alloc false (List.replicate 16 (.int .i64 0)), none, 0, 0⟩,
  ⟨(some 10), .alloc false (List.replicate 16 (.int .i64 0)), none, 1, 0⟩]
def f3r13 : List AOper := [
  ⟨(some 11), .move (.c (.int .i64 0)), none, 0, 0⟩]
def f3r14 : List AOper := [
  ⟨(some 56), .move (.t 11), none, 0, 0⟩,
  ⟨(some 57), .bin .lss (.t 56) (.c (.int .i64 16)), none, 0, 1⟩]
def f3r15 : List AOper := [
  ⟨(some 60), .move (.t 11), none, 0, 0⟩,
  ⟨(some 61), .move (.t 11), none, 0, 0⟩,
  ⟨(some 62), .idxArr 16 1 (.t 9) (.t 60), none, 0, 3⟩,
  ⟨none, .store 1 (.t 62) (.t 61), none, 0, 7⟩]
def f3r16 : List AOper := [
  ⟨(some 63), .move (.t 11), none, 0, 0⟩,
  ⟨(some 64), .move (.t 11), none, 0, 0⟩,
  ⟨(some 65), .idxArr 16 1 (.t 10) (.t 63), none, 0, 3⟩,
  ⟨none, .store 1 (.t 65) (.t 64), none, 0, 7⟩]
def f3r17 : List AOper := [
  ⟨(some 58), .move (.t 11), none, 0, 0⟩,
  ⟨(some 59), .bin .add (.t 58) (.c (.int .i64 1)), none, 0, 1⟩,
  ⟨(some 11), .move (.t 59), none, 0, 3⟩]
def f3m14 : ACode :=
  .seq (.seq (.region false f3r14 [0, 1, 6, 9, 10, 11, 57] 0)
  (.cond (.t 57)
    (.skip)
    (.exit 2)))
  (.seq (.block 3 (.seq (.region false f3r15 [0, 1, 6, 9, 10, 11] 0)
    (.region false f3r16 [0, 1, 6, 9, 10, 11] 0)))
  (.region false f3r17 [0, 1, 6, 9, 10, 11] 0))
def f3l14 : ACode := f3m14
theorem f3l14_b {A : Tab} {nt : Nat} {e : Env} {h : Heap} : Brun A nt f3l14 e h = Brun A nt f3m14 e h := rfl
def f3r18 : List AOper := [
  ⟨(some 66), .move (.t 0), none, 0, 0⟩,
  ⟨(some 67), .call (.c (.fn 7 [] [])) [(.t 66)], none, 0, 1⟩,
  ⟨(some 12), .move (.t 67), none, 0, 3⟩]
def f3r19 : List AOper := [
  ⟨(some 13), .move (.c (.int .i64 0)), none, 0, 0⟩]
def f3r20 : List AOper := [
  ⟨(some 68), .move (.t 13), none, 0, 0⟩,
  ⟨(some 69), .move (.t 0), none, 0, 0⟩,
  ⟨(some 70), .len 1 (.t 69), none, 0, 2⟩,
  ⟨(some 71), .bin .lss (.t 68) (.t 70), none, 0, 7⟩]
def f3q21 : List AOper := [
  ⟨(some 74), .move (.t 0), none, 0, 0⟩,
  ⟨(some 75), .move (.t 13), none, 0, 0⟩,
  ⟨(some 76), .idxAddr 2 (.t 74) (.t 75), none, 0, 3⟩,
  ⟨(some 77), .fieldAddr 0 (.t 76), none, 0, 7⟩,
  ⟨(some 78), .load false 1 (.t 77), none, 0, 15⟩,
  ⟨(some 79), .move (.t 0), none, 0, 0⟩,
  ⟨(some 80), .move (.t 13), none, 0, 0⟩,
  ⟨(some 81), .idxAddr 2 (.t 79) (.t 80), none, 0, 96⟩,
  ⟨(some 82), .fieldAddr 1 (.t 81), none, 0, 224⟩,
  ⟨(some 83), .load false 1 (.t 82), none, 0, 480⟩,
  ⟨(some 84), .idxArr 16 1 (.t 10) (.t 78), none, 0, 1023⟩,
  ⟨none, .store 1 (.t 84) (.t 83), none, 0, 2047⟩]
def f3r21 : List AOper := f3q21
def f3q22 : List AOper := [
  ⟨(some 85), .move (.t 0), none, 0, 0⟩,
  ⟨(some 86), .move (.t 13), none, 0, 0⟩,
  ⟨(some 87), .idxAddr 2 (.t 85) (.t 86), none, 0, 3⟩,
  ⟨(some 88), .fieldAddr 0 (.t 87), none, 0, 7⟩,
  ⟨(some 89), .load false 1 (.t 88), none, 0, 15⟩,
  ⟨(some 90), .move (.t 0), none, 0, 0⟩,
  ⟨(some 91), .move (.t 13), none, 0, 0⟩,
  ⟨(some 92), .idxAddr 2 (.t 90) (.t 91), none, 0, 96⟩,
  ⟨(some 93), .fieldAddr 1 (.t 92), none, 0, 224⟩,
  ⟨(some 94), .load false 1 (.t 93), none, 0, 480⟩,
  ⟨(some 95), .bin .neq (.t 89) (.t 94), none, 0, 1023⟩]
def f3r22 : List AOper := f3q22
def f3r23 : List AOper := [
  ⟨(some 96), .move (.t 12), none, 0, 0⟩,
  ⟨(some 97), .bin .add (.t 96) (.c (.int .i64 1)), none, 0, 1⟩,
  ⟨(some 12), .move (.t 97), none, 0, 3⟩]
def f3r24 : List AOper := [
  ⟨(some 72), .move (.t 13), none, 0, 0⟩,
  ⟨(some 73), .bin .add (.t 72) (.c (.int .i64 1)), none, 0, 1⟩,
  ⟨(some 13), .move (.t 73), none, 0, 3⟩]
def f3m20 : ACode :=
  .seq (.seq (.region false f3r20 [0, 1, 6, 9, 10, 12, 13, 71] 0)
  (.cond (.t 71)
    (.skip)
    (.exit 4)))
  (.seq (.block 5 (.seq (.region true f3r21 [0, 1, 6, 9, 10, 12, 13] 0)
    (.seq (.region true f3r22 [0, 1, 6, 9, 10, 12, 13, 95] 0)
    (.cond (.t 95)
      (.region false f3r23 [0, 1, 6, 9, 10, 12, 13] 0)
      (.skip)))))
  (.region false f3r24 [0, 1, 6, 9, 10, 12, 13] 0))
def f3l20 : ACode := f3m20
theorem f3l20_b {A : Tab} {nt : Nat} {e : Env} {h : Heap} : Brun A nt f3l20 e h = Brun A nt f3m20 e h := rfl
def f3r25 : List AOper := [
  ⟨(some 14), .move (.c (.int .i64 0)), none, 0, 0⟩]
def f3r26 : List AOper := [
  ⟨(some 98), .move (.t 14), none, 0, 0⟩,
  ⟨(some 99), .move (.t 6), none, 0, 0⟩,
  ⟨(some 100), .len 1 (.t 99), none, 0, 2⟩,
  ⟨(some 101), .bin .lss (.t 98) (.t 100), none, 0, 7⟩]
def f3r27 : List AOper := [
  ⟨(some 104), .move (.t 6), none, 0, 0⟩,
  ⟨(some 105), .move (.t 14), none, 0, 0⟩,
  ⟨(some 106), .idxAddr 2 (.t 104) (.t 105), none, 0, 3⟩,
  ⟨(some 107), .fieldAddr 0 (.t 106), none, 0, 7⟩,
  ⟨(some 108), .load false 1 (.t 107), none, 0, 15⟩,
  ⟨(some 109), .bin .lss (.t 108) (.c (.int .i64 0)), none, 0, 31⟩,
  ⟨(some 110), .move (.t 109), none, 0, 63⟩,
  ⟨(some 111), .move (.t 6), (some (110, false)), 0, 127⟩,
  ⟨(some 112), .move (.t 14), (some (110, false)), 0, 127⟩,
  ⟨(some 113), .idxAddr 2 (.t 111) (.t 112), (some (110, false)), 0, 511⟩,
  ⟨(some 114), .fieldAddr 0 (.t 113), (some (110, false)), 0, 1023⟩,
  ⟨(some 115), .load false 1 (.t 114), (some (110, false)), 0, 2047⟩,
  ⟨(some 116), .bin .gtr (.t 115) (.c (.int .i64 15)), (some (110, false)), 0, 4095⟩,
  ⟨(some 117), .pick (.t 110) (.c (.bool true)) (.t 116), none, 0, 8191⟩,
  ⟨(some 118), .move (.t 117), none, 0, 16383⟩,
  ⟨(some 119), .move (.t 6), (some (118, false)), 0, 32767⟩,
  ⟨(some 120), .move (.t 14), (some (118, false)), 0, 32767⟩,
  ⟨(some 121), .idxAddr 2 (.t 119) (.t 120), (some (118, false)), 0, 131071⟩,
  ⟨(some 122), .fieldAddr 1 (.t 121), (some (118, false)), 0, 262143⟩,
  ⟨(some 123), .load false 1 (.t 122), (some (118, false)), 0, 524287⟩,
  ⟨(some 124), .bin .lss (.t 123) (.c (.int .i64 0)), (some (118, false)), 0, 1048575⟩,
  ⟨(some 125), .pick (.t 118) (.c (.bool true)) (.t 124), none, 0, 2097151⟩,
  ⟨(some 126), .move (.t 125), none, 0, 4194303⟩,
  ⟨(some 127), .move (.t 6), (some (126, false)), 0, 8388607⟩,
  ⟨(some 128), .move (.t 14), (some (126, false)), 0, 8388607⟩,
  ⟨(some 129), .idxAddr 2 (.t 127) (.t 128), (some (126, false)), 0, 33554431⟩,
  ⟨(some 130), .fieldAddr 1 (.t 129), (some (126, false)), 0, 67108863⟩,
  ⟨(some 131), .load false 1 (.t 130), (some (126, false)), 0, 134217727⟩,
  ⟨(some 132), .bin .gtr (.t 131) (.c (.int .i64 15)), (some (126, false)), 0, 268435455⟩,
  ⟨(some 133), .pick (.t 126) (.c (.bool true)) (.t 132), none, 0, 536870911⟩]
def f3r28 : List AOper := [
  ⟨(some 4), .move (.c (.bool false)), none, 0, 0⟩]
def f3q29 : List AOper := [
  ⟨(some 134), .move (.t 6), none, 0, 0⟩,
  ⟨(some 135), .move (.t 14), none, 0, 0⟩,
  ⟨(some 136), .idxAddr 2 (.t 134) (.t 135), none, 0, 3⟩,
  ⟨(some 137), .fieldAddr 0 (.t 136), none, 0, 7⟩,
  ⟨(some 138), .load false 1 (.t 137), none, 0, 15⟩,
  ⟨(some 139), .move (.t 6), none, 0, 0⟩,
  ⟨(some 140), .move (.t 14), none, 0, 0⟩,
  ⟨(some 141), .idxAddr 2 (.t 139) (.t 140), none, 0, 96⟩,
  ⟨(some 142), .fieldAddr 1 (.t 141), none, 0, 224⟩,
  ⟨(some 143), .load false 1 (.t 142), none, 0, 480⟩,
  ⟨(some 144), .idxArr 16 1 (.t 9) (.t 143), none, 0, 992⟩,
  ⟨(some 145), .load false 1 (.t 144), none, 0, 2016⟩,
  ⟨(some 146), .idxArr 16 1 (.t 9) (.t 138), none, 0, 4095⟩,
  ⟨none, .store 1 (.t 146) (.t 145), none, 0, 8191⟩]
def f3r29 : List AOper := f3q29
def f3r30 : List AOper := [
  ⟨(some 102), .move (.t 14), none, 0, 0⟩,
  ⟨(some 103), .bin .add (.t 102) (.c (.int .i64 1)), none, 0, 1⟩,
  ⟨(some 14), .move (.t 103), none, 0, 3⟩]
def f3m26 : ACode :=
  .seq (.seq (.region false f3r26 [1, 6, 9, 10, 12, 14, 101] 0)
  (.cond (.t 101)
    (.skip)
    (.exit 6)))
  (.seq (.block 7 (.seq (.seq (.region false f3r27 [1, 6, 9, 10, 12, 14, 133] 0)
    (.cond (.t 133)
      (.seq (.region false f3r28 [4] 0)
      (.ret))
      (.skip)))
    (.region true f3r29 [1, 6, 9, 10, 12, 14] 0)))
  (.region false f3r30 [1, 6, 9, 10, 12, 14] 0))
def f3l26 : ACode := f3m26
theorem f3l26_b {A : Tab} {nt : Nat} {e : Env} {h : Heap} : Brun A nt f3l26 e h = Brun A nt f3m26 e h := rfl
def f3r31 : List AOper := [
  ⟨(some 15), .move (.c (.int .i64 0)), none, 0, 0⟩]
def f3r32 : List AOper := [
  ⟨(some 147), .move (.t 15), none, 0, 0⟩,
  ⟨(some 148), .bin .lss (.t 147) (.c (.int .i64 16)), none, 0, 1⟩]
def f3q33 : List AOper := [
  ⟨(some 151), .move (.t 15), none, 0, 0⟩,
  ⟨(some 152), .move (.t 1), none, 0, 0⟩,
  ⟨(some 153), .bin .neq (.t 151) (.t 152), none, 0, 3⟩,
  ⟨(some 154), .move (.t 153), none, 0, 7⟩,
  ⟨(some 155), .move (.t 15), (some (154, true)), 0, 15⟩,
  ⟨(some 156), .idxArr 16 1 (.t 9) (.t 155), (some (154, true)), 0, 31⟩,
  ⟨(some 157), .load false 1 (.t 156), (some (154, true)), 0, 63⟩,
  ⟨(some 158), .move (.t 15), (some (154, true)), 0, 15⟩,
  ⟨(some 159), .idxArr 16 1 (.t 10) (.t 158), (some (154, true)), 0, 143⟩,
  ⟨(some 160), .load false 1 (.t 159), (some (154, true)), 0, 399⟩,
  ⟨(some 161), .bin .neq (.t 157) (.t 160), (some (154, true)), 0, 1023⟩,
  ⟨(some 162), .pick (.t 154) (.t 161) (.c (.bool false)), none, 0, 2047⟩]
def f3r33 : List AOper := f3q33
def f3r34 : List AOper := [
  ⟨(some 4), .move (.c (.bool false)), none, 0, 0⟩]
def f3r35 : List AOper := [
  ⟨(some 149), .move (.t 15), none, 0, 0⟩,
  ⟨(some 150), .bin .add (.t 149) (.c (.int .i64 1)), none, 0, 1⟩,
  ⟨(some 15), .move (.t 150), none, 0, 3⟩]
def f3m32 : ACode :=
  .seq (.seq (.region false f3r32 [1, 6, 9, 10, 12, 15, 148] 0)
  (.cond (.t 148)
    (.skip)
    (.exit 8)))
  (.seq (.block 9 (.seq (.region true f3r33 [1, 6, 9, 10, 12, 15, 162] 0)
    (.cond (.t 162)
      (.seq (.region false f3r34 [4] 0)
      (.ret))
      (.skip))))
  (.region false f3r35 [1, 6, 9, 10, 12, 15] 0))
def f3l32 : ACode := f3m32
theorem f3l32_b {A : Tab} {nt : Nat} {e : Env} {h : Heap} : Brun A nt f3l32 e h = Brun A nt f3m32 e h := rfl
def f3r36 : List AOper := [
  ⟨(some 163), .move (.t 6), none, 0, 0⟩,
  ⟨(some 164), .len 1 (.t 163), none, 0, 1⟩,
  ⟨(some 165), .move (.t 12), none, 0, 0⟩,
  ⟨(some 166), .bin .leq (.t 164) (.t 165), none, 0, 7⟩,
  ⟨(some 167), .move (.t 166), none, 0, 15⟩,
  ⟨(some 168), .call (.c (.fn 6 [] [])) [], (some (167, true)), 0, 31⟩,
  ⟨(some 169), .pick (.t 167) (.t 168) (.c (.bool false)), none, 0, 63⟩,
  ⟨(some 4), .move (.t 169), none, 0, 127⟩]
theorem f3r5_s : staticOK 0 f3r5 = true := by rfl
theorem f3r5_w {A : Tab} {nt : Nat} {keep : List Nat} {n : Nat} {e : Env} {h : Heap} (hr : (bkeep keep (stepsF nt (stepF A true) h.length f3r5 e (h ++ List.replicate n .free))).isSome = true) : Brun A nt (.region true f3r5 keep n) e h = bkeep keep (stepsF nt (stepF A true) h.length f3r5 e (h ++ List.replicate n .free)) := Brun_drawnS f3r5_s hr
theorem f3r5_u (nt base : Nat) (step : Nat → AOp → Env → Heap → Option (AV × Heap)) (e : Env) (h : Heap) : stepsF nt step base f3r5 e h = stepsF nt step base f3q5 e h := rfl
theorem f3r21_s : staticOK 0 f3r21 = true := by rfl
theorem f3r21_w {A : Tab} {nt : Nat} {keep : List Nat} {n : Nat} {e : Env} {h : Heap} (hr : (bkeep keep (stepsF nt (stepF A true) h.length f3r21 e (h ++ List.replicate n .free))).isSome = true) : Brun A nt (.region true f3r21 keep n) e h = bkeep keep (stepsF nt (stepF A true) h.length f3r21 e (h ++ List.replicate n .free)) := Brun_drawnS f3r21_s hr
theorem f3r21_u (nt base : Nat) (step : Nat → AOp → Env → Heap → Option (AV × Heap)) (e : Env) (h : Heap) : stepsF nt step base f3r21 e h = stepsF nt step base f3q21 e h := rfl
theorem f3r22_s : staticOK 0 f3r22 = true := by rfl
theorem f3r22_w {A : Tab} {nt : Nat} {keep : List Nat} {n : Nat} {e : Env} {h : Heap} (hr : (bkeep keep (stepsF nt (stepF A true) h.length f3r22 e (h ++ List.replicate n .free))).isSome = true) : Brun A nt (.region true f3r22 keep n) e h = bkeep keep (stepsF nt (stepF A true) h.length f3r22 e (h ++ List.replicate n .free)) := Brun_drawnS f3r22_s hr
theorem f3r22_u (nt base : Nat) (step : Nat → AOp → Env → Heap → Option (AV × Heap)) (e : Env) (h : Heap) : stepsF nt step base f3r22 e h = stepsF nt step base f3q22 e h := rfl
theorem f3r29_s : staticOK 0 f3r29 = true := by rfl
theorem f3r29_w {A : Tab} {nt : Nat} {keep : List Nat} {n : Nat} {e : Env} {h : Heap} (hr : (bkeep keep (stepsF nt (stepF A true) h.length f3r29 e (h ++ List.replicate n .free))).isSome = true) : Brun A nt (.region true f3r29 keep n) e h = bkeep keep (stepsF nt (stepF A true) h.length f3r29 e (h ++ List.replicate n .free)) := Brun_drawnS f3r29_s hr
theorem f3r29_u (nt base : Nat) (step : Nat → AOp → Env → Heap → Option (AV × Heap)) (e : Env) (h : Heap) : stepsF nt step base f3r29 e h = stepsF nt step base f3q29 e h := rfl
theorem f3r33_s : staticOK 0 f3r33 = true := by rfl
theorem f3r33_w {A : Tab} {nt : Nat} {keep : List Nat} {n : Nat} {e : Env} {h : Heap} (hr : (bkeep keep (stepsF nt (stepF A true) h.length f3r33 e (h ++ List.replicate n .free))).isSome = true) : Brun A nt (.region true f3r33 keep n) e h = bkeep keep (stepsF nt (stepF A true) h.length f3r33 e (h ++ List.replicate n .free)) := Brun_drawnS f3r33_s hr
theorem f3r33_u (nt base : Nat) (step : Nat → AOp → Env → Heap → Option (AV × Heap)) (e : Env) (h : Heap) : stepsF nt step base f3r33 e h = stepsF nt step base f3q33 e h := rfl
def f3c : ACode :=
  .seq (.region false f3r0 [0, 1] 0)
  (.seq (.region false f3r1 [0, 1, 5] 1)
  (.seq (.region false f3r2 [0, 1, 5, 6, 7] 0)
  (.seq (.seq (.region false f3r3 [0, 1, 5, 6, 7, 8] 0)
  (.block 0 (.loop f3l4)))
  (.seq (.seq (.region false f3r8 [0, 1, 6, 7, 43] 0)
  (.cond (.t 43)
    (.seq (.region false f3r9 [4] 0)
    (.ret))
    (.skip)))
  (.seq (.seq (.region false f3r10 [0, 1, 6, 55] 0)
  (.cond (.t 55)
    (.seq (.region false f3r11 [4] 0)
    (.ret))
    (.skip)))
  (.seq (.region false f3r12 [0, 1, 6, 9, 10] 2)
  (.seq (.seq (.region false f3r13 [0, 1, 6, 9, 10, 11] 0)
  (.block 2 (.loop f3l14)))
  (.seq (.region false f3r18 [0, 1, 6, 9, 10, 12] 0)
  (.seq (.seq (.region false f3r19 [0, 1, 6, 9, 10, 12, 13] 0)
  (.block 4 (.loop f3l20)))
  (.seq (.seq (.region false f3r25 [1, 6, 9, 10, 12, 14] 0)
  (.block 6 (.loop f3l26)))
  (.seq (.seq (.region false f3r31 [1, 6, 9, 10, 12, 15] 0)
  (.block 8 (.loop f3l32)))
  (.seq (.region false f3r36 [4] 0)
  (.ret)))))))))))))
def f3 : AFn := ⟨2, 170, [.tmp 4], f3c, 1, none⟩
def f3k : List (Nat × List Nat) := [(0, [0, 1]), (1, [0, 1, 5]), (2, [0, 1, 5, 6, 7]), (3, [0, 1, 5, 6, 7, 8]), (4, [0, 1, 5, 6, 7, 8, 28]), (6, [0, 1, 5, 6, 7, 8, 39]), (7, [4]), (5, [0, 1, 5, 6, 7, 8]), (8, [0, 1, 6, 7, 43]), (9, [4]), (10, [0, 1, 6, 55]), (11, [4]), (12, [0, 1, 6, 9, 10]), (13, [0, 1, 6, 9, 10, 11]), (14, [0, 1, 6, 9, 10, 11, 57]), (16, [0, 1, 6, 9, 10, 11]), (17, [0, 1, 6, 9, 10, 11]), (15, [0, 1, 6, 9, 10, 11]), (18, [0, 1, 6, 9, 10, 12]), (19, [0, 1, 6, 9, 10, 12, 13]), (20, [0, 1, 6, 9, 10, 12, 13, 71]), (22, [0, 1, 6, 9, 10, 12, 13]), (23, [0, 1, 6, 9, 10, 12, 13, 95]), (24, [0, 1, 6, 9, 10, 12, 13]), (21, [0, 1, 6, 9, 10, 12, 13]), (25, [1, 6, 9, 10, 12, 14]), (26, [1, 6, 9, 10, 12, 14, 101]), (28, [1, 6, 9, 10, 12, 14, 133]), (29, [4]), (30, [1, 6, 9, 10, 12, 14]), (27, [1, 6, 9, 10, 12, 14]), (31, [1, 6, 9, 10, 12, 15]), (32, [1, 6, 9, 10, 12, 15, 148]), (34, [1, 6, 9, 10, 12, 15, 162]), (35, [4]), (33, [1, 6, 9, 10, 12, 15]), (36, [4])]
def f3v : List Nat := [18, 16]

/-! 4: mortise/frame.Moves, parameters [22, 3], results [22, 23] -/
def f4r0 : List AOper := [
  ⟨(some 4), .move (.c (.is [] .nil)), none, 0, 0⟩,
  ⟨(some 5), .move (.c (.int .i64 0)), none, 0, 1⟩]
def f4r1 : List AOper := [
  ⟨(some 12), .move (.t 0), none, 0, 0⟩,
  ⟨(some 13), .move (.t 1), none, 0, 0⟩,
  ⟨(some 14), .call (.c (.fn 8 [] [])) [(.t 12), (.t 13)], none, 0, 3⟩,
  ⟨(some 15), .un .not (.t 14), none, 0, 7⟩]
def f4r2 : List AOper := [
  ⟨(some 4), .move (.c (.is [] .nil)), none, 0, 0⟩,
  ⟨(some 5), .move (.c (.int .i64 2)), none, 0, 1⟩]
def f4r3 : List AOper := [
  ⟨(some 16), .move (.t 0), none, 0, 0⟩,
  ⟨(some 17), .call (.c (.fn 10 [] [])) [(.t 16)], none, 0, 1⟩,
  ⟨(some 18), .call (.c (.fn 9 [] [])) [(.t 17), (.c (.fn 11 [] []))], none, 0, 3⟩,
  ⟨(some 6), .move (.t 18), none, 0, 7⟩]
def f4r4 : List AOper := [
  ⟨(some 7), .move (.c (.is [] .nil)), none, 0, 0⟩]
def f4r5 : List AOper := [
  ⟨(some 19), .move (.t 6), none, 0, 0⟩,
  ⟨(some 20), .len 1 (.t 19), none, 0, 1⟩,
  ⟨(some 21), .bin .gtr (.t 20) (.c (.int .i64 0)), none, 0, 3⟩]
def f4r6 : List AOper := [
  ⟨(some 22), .move (.t 6), none, 0, 0⟩,
  ⟨(some 23), .len 1 (.t 22), none, 0, 1⟩,
  ⟨(some 24), .move (.c (.int .i64 0)), none, 0, 0⟩]
def f4r7 : List AOper := [
  ⟨(some 25), .bin .lss (.t 24) (.t 23), none, 0, 0⟩]
def f4r8 : List AOper := [
  ⟨(some 26), .move (.t 24), none, 0, 0⟩,
  ⟨(some 27), .idxAddr 2 (.t 22) (.t 24), none, 0, 0⟩,
  ⟨(some 28), .load true 2 (.t 27), none, 0, 2⟩,
  ⟨(some 9), .alloc false [(.int .i64 0), (.int .i64 0)], none, 0, 0⟩,
  ⟨(some 8), .move (.t 26), none, 1, 15⟩,
  ⟨none, .store 2 (.t 9) (.t 28), none, 1, 31⟩]
def f4r9 : List AOper := [
  ⟨(some 29), .move (.t 6), none, 0, 0⟩,
  ⟨(some 30), .fn 13 [] [(.t 9)], none, 0, 0⟩,
  ⟨(some 31), .call (.c (.fn 12 [] [])) [(.t 29), (.t 30)], none, 0, 3⟩]
def f4r10 : List AOper := [
  ⟨(some 32), .move (.t 7), none, 0, 0⟩,
  ⟨(some 33), .load true 2 (.t 9), none, 0, 0⟩,
  ⟨(some 34), .buildSlice false 2 1 [(.int .i64 0), (.int .i64 0)] [(0, 2, (.t 33))], none, 0, 2⟩,
  ⟨(some 35), .append false 2 16 (.t 32) (.t 34), none, 1, 7⟩,
  ⟨(some 7), .move (.t 35), none, 2, 15⟩]
def f4r11 : List AOper := [
  ⟨(some 36), .move (.t 6), none, 0, 0⟩,
  ⟨(some 37), .move (.t 8), none, 0, 0⟩,
  ⟨(some 38), .move (.t 8), none, 0, 0⟩,
  ⟨(some 39), .bin .add (.t 38) (.c (.int .i64 1)), none, 0, 4⟩,
  ⟨(some 40), .call (.c (.fn 14 [] [])) [(.t 36), (.t 37), (.t 39)], none, 0, 15⟩,
  ⟨(some 6), .move (.t 40), none, 0, 31⟩]
def f4r12 : List AOper := [
  ⟨(some 41), .bin .add (.t 24) (.c (.int .i64 1)), none, 0, 0⟩,
  ⟨(some 24), .move (.t 41), none, 0, 1⟩]
def f4m7 : ACode :=
  .seq (.region false f4r7 [1, 6, 7, 22, 23, 24, 25] 0)
  (.seq (.cond (.t 25)
    (.skip)
    (.exit 2))
  (.seq (.block 3 (.seq (.region false f4r8 [1, 6, 7, 8, 9, 22, 23, 24] 1)
    (.seq (.seq (.region false f4r9 [1, 6, 7, 8, 9, 22, 23, 24, 31] 0)
    (.cond (.t 31)
      (.exit 3)
      (.skip)))
    (.seq (.region false f4r10 [1, 6, 7, 8] 2)
    (.seq (.region false f4r11 [1, 6, 7] 0)
    (.exit 1))))))
  (.region false f4r12 [1, 6, 7, 22, 23, 24] 0)))
def f4l7 : ACode := f4m7
theorem f4l7_b {A : Tab} {nt : Nat} {e : Env} {h : Heap} : Brun A nt f4l7 e h = Brun A nt f4m7 e h := rfl
def f4r13 : List AOper := [
  ⟨(some 42), .move (.t 6), none, 0, 0⟩,
  ⟨(some 43), .idxAddr 2 (.t 42) (.c (.int .i64 0)), none, 0, 1⟩,
  ⟨(some 44), .fieldAddr 0 (.t 43), none, 0, 3⟩,
  ⟨(some 45), .load false 1 (.t 44), none, 0, 7⟩,
  ⟨(some 10), .move (.t 45), none, 0, 15⟩]
def f4r14 : List AOper := [
  ⟨(some 46), .move (.t 7), none, 0, 0⟩,
  ⟨(some 47), .move (.t 1), none, 0, 0⟩,
  ⟨(some 48), .move (.t 10), none, 0, 0⟩,
  ⟨(some 49), .build [(.int .i64 0), (.int .i64 0)] [(0, 1, (.t 47)), (1, 1, (.t 48))], none, 0, 6⟩,
  ⟨(some 50), .buildSlice false 2 1 [(.int .i64 0), (.int .i64 0)] [(0, 2, (.t 49))], none, 0, 14⟩,
  ⟨(some 51), .append false 2 16 (.t 46) (.t 50), none, 1, 31⟩,
  ⟨(some 7), .move (.t 51), none, 2, 63⟩]
def f4r15 : List AOper := [
  ⟨(some 52), .move (.t 6), none, 0, 0⟩,
  ⟨(some 53), .len 1 (.t 52), none, 0, 1⟩,
  ⟨(some 54), .move (.c (.int .i64 0)), none, 0, 0⟩]
def f4r16 : List AOper := [
  ⟨(some 55), .bin .lss (.t 54) (.t 53), none, 0, 0⟩]
def f4r17 : List AOper := [
  ⟨(some 56), .move (.t 54), none, 0, 0⟩,
  ⟨(some 11), .move (.t 56), none, 0, 1⟩]
def f4r18 : List AOper := [
  ⟨(some 57), .move (.t 6), none, 0, 0⟩,
  ⟨(some 58), .move (.t 11), none, 0, 0⟩,
  ⟨(some 59), .idxAddr 2 (.t 57) (.t 58), none, 0, 3⟩,
  ⟨(some 60), .fieldAddr 1 (.t 59), none, 0, 7⟩,
  ⟨(some 61), .load false 1 (.t 60), none, 0, 15⟩,
  ⟨(some 62), .move (.t 10), none, 0, 0⟩,
  ⟨(some 63), .bin .eql (.t 61) (.t 62), none, 0, 63⟩]
def f4r19 : List AOper := [
  ⟨(some 64), .move (.t 6), none, 0, 0⟩,
  ⟨(some 65), .move (.t 11), none, 0, 0⟩,
  ⟨(some 66), .move (.t 1), none, 0, 0⟩,
  ⟨(some 67), .idxAddr 2 (.t 64) (.t 65), none, 0, 7⟩,
  ⟨(some 68), .fieldAddr 1 (.t 67), none, 0, 15⟩,
  ⟨none, .store 1 (.t 68) (.t 66), none, 0, 31⟩]
def f4r20 : List AOper := [
  ⟨(some 69), .bin .add (.t 54) (.c (.int .i64 1)), none, 0, 0⟩,
  ⟨(some 54), .move (.t 69), none, 0, 1⟩]
def f4m16 : ACode :=
  .seq (.region false f4r16 [1, 6, 7, 10, 53, 54, 55] 0)
  (.seq (.cond (.t 55)
    (.skip)
    (.exit 4))
  (.seq (.block 5 (.seq (.region false f4r17 [1, 6, 7, 10, 11, 53, 54] 0)
    (.seq (.region false f4r18 [1, 6, 7, 10, 11, 53, 54, 63] 0)
    (.cond (.t 63)
      (.region false f4r19 [1, 6, 7, 10, 53, 54] 0)
      (.skip)))))
  (.region false f4r20 [1, 6, 7, 10, 53, 54] 0)))
def f4l16 : ACode := f4m16
theorem f4l16_b {A : Tab} {nt : Nat} {e : Env} {h : Heap} : Brun A nt f4l16 e h = Brun A nt f4m16 e h := rfl
def f4m5 : ACode :=
  .seq (.seq (.region false f4r5 [1, 6, 7, 21] 0)
  (.cond (.t 21)
    (.skip)
    (.exit 0)))
  (.block 1 (.seq (.seq (.region false f4r6 [1, 6, 7, 22, 23, 24] 0)
    (.block 2 (.loop f4l7)))
    (.seq (.region false f4r13 [1, 6, 7, 10] 0)
    (.seq (.region false f4r14 [1, 6, 7, 10] 2)
    (.seq (.region false f4r15 [1, 6, 7, 10, 53, 54] 0)
    (.block 4 (.loop f4l16)))))))
def f4l5 : ACode := f4m5
theorem f4l5_b {A : Tab} {nt : Nat} {e : Env} {h : Heap} : Brun A nt f4l5 e h = Brun A nt f4m5 e h := rfl
def f4r21 : List AOper := [
  ⟨(some 70), .move (.t 7), none, 0, 0⟩,
  ⟨(some 4), .move (.t 70), none, 0, 1⟩,
  ⟨(some 5), .move (.c (.int .i64 0)), none, 0, 3⟩]
def f4c : ACode :=
  .seq (.region false f4r0 [0, 1] 0)
  (.seq (.seq (.region false f4r1 [0, 1, 15] 0)
  (.cond (.t 15)
    (.seq (.region false f4r2 [4, 5] 0)
    (.ret))
    (.skip)))
  (.seq (.region false f4r3 [1, 6] 0)
  (.seq (.region false f4r4 [1, 6, 7] 0)
  (.seq (.skip)
  (.seq (.block 0 (.loop f4l5))
  (.seq (.region false f4r21 [4, 5] 0)
  (.ret)))))))
def f4 : AFn := ⟨2, 71, [.tmp 4, .tmp 5], f4c, 3, none⟩
def f4k : List (Nat × List Nat) := [(0, [0, 1]), (1, [0, 1, 15]), (2, [4, 5]), (3, [1, 6]), (4, [1, 6, 7]), (5, [1, 6, 7, 21]), (6, [1, 6, 7, 22, 23, 24]), (7, [1, 6, 7, 22, 23, 24, 25]), (8, [1, 6, 7, 8, 9, 22, 23, 24]), (9, [1, 6, 7, 8, 9, 22, 23, 24, 31]), (10, [1, 6, 7, 8]), (11, [1, 6, 7]), (12, [1, 6, 7, 22, 23, 24]), (13, [1, 6, 7, 10]), (14, [1, 6, 7, 10]), (15, [1, 6, 7, 10, 53, 54]), (16, [1, 6, 7, 10, 53, 54, 55]), (17, [1, 6, 7, 10, 11, 53, 54]), (18, [1, 6, 7, 10, 11, 53, 54, 63]), (19, [1, 6, 7, 10, 53, 54]), (20, [1, 6, 7, 10, 53, 54]), (21, [4, 5])]
def f4v : List Nat := []

/-! 5: mortise/mortiseref23.Right, parameters [22, 3], results [4] -/
def f5r0 : List AOper := [
  ⟨(some 4), .move (.c (.bool false)), none, 0, 0⟩]
def f5r1 : List AOper := [
  ⟨(some 7), .move (.t 1), none, 0, 0⟩,
  ⟨(some 8), .call (.c (.fn 15 [] [])) [(.t 7)], none, 0, 1⟩,
  ⟨(some 9), .un .not (.t 8), none, 0, 3⟩]
def f5r2 : List AOper := [
  ⟨(some 4), .move (.c (.bool false)), none, 0, 0⟩]
def f5r3 : List AOper := [
  ⟨(some 5), .move (.c (.int .i64 0)), none, 0, 0⟩]
def f5r4 : List AOper := [
  ⟨(some 10), .move (.t 5), none, 0, 0⟩,
  ⟨(some 11), .move (.t 0), none, 0, 0⟩,
  ⟨(some 12), .len 1 (.t 11), none, 0, 2⟩,
  ⟨(some 13), .bin .lss (.t 10) (.t 12), none, 0, 7⟩]
def f5r5 : List AOper := [
  ⟨(some 16), .move (.t 0), none, 0, 0⟩,
  ⟨(some 17), .move (.t 5), none, 0, 0⟩,
  ⟨(some 18), .idxAddr 2 (.t 16) (.t 17), none, 0, 3⟩,
  ⟨(some 19), .fieldAddr 0 (.t 18), none, 0, 7⟩,
  ⟨(some 20), .load false 1 (.t 19), none, 0, 15⟩,
  ⟨(some 21), .call (.c (.fn 15 [] [])) [(.t 20)], none, 0, 31⟩,
  ⟨(some 22), .un .not (.t 21), none, 0, 63⟩,
  ⟨(some 23), .move (.t 22), none, 0, 127⟩,
  ⟨(some 24), .move (.t 0), (some (23, false)), 0, 255⟩,
  ⟨(some 25), .move (.t 5), (some (23, false)), 0, 255⟩,
  ⟨(some 26), .idxAddr 2 (.t 24) (.t 25), (some (23, false)), 0, 1023⟩,
  ⟨(some 27), .fieldAddr 1 (.t 26), (some (23, false)), 0, 2047⟩,
  ⟨(some 28), .load false 1 (.t 27), (some (23, false)), 0, 4095⟩,
  ⟨(some 29), .call (.c (.fn 15 [] [])) [(.t 28)], (some (23, false)), 0, 8191⟩,
  ⟨(some 30), .un .not (.t 29), (some (23, false)), 0, 16383⟩,
  ⟨(some 31), .pick (.t 23) (.c (.bool true)) (.t 30), none, 0, 32767⟩,
  ⟨(some 32), .move (.t 31), none, 0, 65535⟩,
  ⟨(some 33), .move (.t 0), (some (32, false)), 0, 131071⟩,
  ⟨(some 34), .move (.t 5), (some (32, false)), 0, 131071⟩,
  ⟨(some 35), .idxAddr 2 (.t 33) (.t 34), (some (32, false)), 0, 524287⟩,
  ⟨(some 36), .fieldAddr 0 (.t 35), (some (32, false)), 0, 1048575⟩,
  ⟨(some 37), .load false 1 (.t 36), (some (32, false)), 0, 2097151⟩,
  ⟨(some 38), .move (.t 1), (some (32, false)), 0, 131071⟩,
  ⟨(some 39), .bin .eql (.t 37) (.t 38), (some (32, false)), 0, 8388607⟩,
  ⟨(some 40), .pick (.t 32) (.c (.bool true)) (.t 39), none, 0, 16777215⟩,
  ⟨(some 41), .move (.t 40), none, 0, 33554431⟩,
  ⟨(some 42), .move (.t 0), (some (41, false)), 0, 67108863⟩,
  ⟨(some 43), .move (.t 5), (some (41, false)), 0, 67108863⟩,
  ⟨(some 44), .idxAddr 2 (.t 42) (.t 43), (some (41, false)), 0, 268435455⟩,
  ⟨(some 45), .fieldAddr 1 (.t 44), (some (41, false)), 0, 536870911⟩,
  ⟨(some 46), .load false 1 (.t 45), (some (41, false)), 0, 1073741823⟩,
  ⟨(some 47), .move (.t 1), (some (41, false)), 0, 67108863⟩,
  ⟨(some 48), .bin .eql (.t 46) (.t 47), (some (41, false)), 0, 4294967295⟩,
  ⟨(some 49), .pick (.t 41) (.c (.bool true)) (.t 48), none, 0, 8589934591⟩]
def f5r6 : List AOper := [
  ⟨(some 4), .move (.c (.bool false)), none, 0, 0⟩]
def f5r7 : List AOper := [
  ⟨(some 6), .move (.c (.int .i64 0)), none, 0, 0⟩]
def f5r8 : List AOper := [
  ⟨(some 50), .move (.t 6), none, 0, 0⟩,
  ⟨(some 51), .move (.t 5), none, 0, 0⟩,
  ⟨(some 52), .bin .lss (.t 50) (.t 51), none, 0, 3⟩]
def f5q9 : List AOper := [
  ⟨(some 55), .move (.t 0), none, 0, 0⟩,
  ⟨(some 56), .move (.t 6), none, 0, 0⟩,
  ⟨(some 57), .idxAddr 2 (.t 55) (.t 56), none, 0, 3⟩,
  ⟨(some 58), .fieldAddr 0 (.t 57), none, 0, 7⟩,
  ⟨(some 59), .load false 1 (.t 58), none, 0, 15⟩,
  ⟨(some 60), .move (.t 0), none, 0, 0⟩,
  ⟨(some 61), .move (.t 5), none, 0, 0⟩,
  ⟨(some 62), .idxAddr 2 (.t 60) (.t 61), none, 0, 96⟩,
  ⟨(some 63), .fieldAddr 0 (.t 62), none, 0, 224⟩,
  ⟨(some 64), .load false 1 (.t 63), none, 0, 480⟩,
  ⟨(some 65), .bin .eql (.t 59) (.t 64), none, 0, 1023⟩]
def f5r9 : List AOper := f5q9
def f5r10 : List AOper := [
  ⟨(some 4), .move (.c (.bool false)), none, 0, 0⟩]
def f5r11 : List AOper := [
  ⟨(some 53), .move (.t 6), none, 0, 0⟩,
  ⟨(some 54), .bin .add (.t 53) (.c (.int .i64 1)), none, 0, 1⟩,
  ⟨(some 6), .move (.t 54), none, 0, 3⟩]
def f5m8 : ACode :=
  .seq (.seq (.region false f5r8 [0, 1, 5, 6, 52] 0)
  (.cond (.t 52)
    (.skip)
    (.exit 2)))
  (.seq (.block 3 (.seq (.region true f5r9 [0, 1, 5, 6, 65] 0)
    (.cond (.t 65)
      (.seq (.region false f5r10 [4] 0)
      (.ret))
      (.skip))))
  (.region false f5r11 [0, 1, 5, 6] 0))
def f5l8 : ACode := f5m8
theorem f5l8_b {A : Tab} {nt : Nat} {e : Env} {h : Heap} : Brun A nt f5l8 e h = Brun A nt f5m8 e h := rfl
def f5r12 : List AOper := [
  ⟨(some 14), .move (.t 5), none, 0, 0⟩,
  ⟨(some 15), .bin .add (.t 14) (.c (.int .i64 1)), none, 0, 1⟩,
  ⟨(some 5), .move (.t 15), none, 0, 3⟩]
def f5m4 : ACode :=
  .seq (.seq (.region false f5r4 [0, 1, 5, 13] 0)
  (.cond (.t 13)
    (.skip)
    (.exit 0)))
  (.seq (.block 1 (.seq (.seq (.region false f5r5 [0, 1, 5, 49] 0)
    (.cond (.t 49)
      (.seq (.region false f5r6 [4] 0)
      (.ret))
      (.skip)))
    (.seq (.region false f5r7 [0, 1, 5, 6] 0)
    (.block 2 (.loop f5l8)))))
  (.region false f5r12 [0, 1, 5] 0))
def f5l4 : ACode := f5m4
theorem f5l4_b {A : Tab} {nt : Nat} {e : Env} {h : Heap} : Brun A nt f5l4 e h = Brun A nt f5m4 e h := rfl
def f5r13 : List AOper := [
  ⟨(some 4), .move (.c (.bool true)), none, 0, 0⟩]
theorem f5r9_s : staticOK 0 f5r9 = true := by rfl
theorem f5r9_w {A : Tab} {nt : Nat} {keep : List Nat} {n : Nat} {e : Env} {h : Heap} (hr : (bkeep keep (stepsF nt (stepF A true) h.length f5r9 e (h ++ List.replicate n .free))).isSome = true) : Brun A nt (.region true f5r9 keep n) e h = bkeep keep (stepsF nt (stepF A true) h.length f5r9 e (h ++ List.replicate n .free)) := Brun_drawnS f5r9_s hr
theorem f5r9_u (nt base : Nat) (step : Nat → AOp → Env → Heap → Option (AV × Heap)) (e : Env) (h : Heap) : stepsF nt step base f5r9 e h = stepsF nt step base f5q9 e h := rfl
def f5c : ACode :=
  .seq (.region false f5r0 [0, 1] 0)
  (.seq (.seq (.region false f5r1 [0, 1, 9] 0)
  (.cond (.t 9)
    (.seq (.region false f5r2 [4] 0)
    (.ret))
    (.skip)))
  (.seq (.seq (.region false f5r3 [0, 1, 5] 0)
  (.block 0 (.loop f5l4)))
  (.seq (.region false f5r13 [4] 0)
  (.ret))))
def f5 : AFn := ⟨2, 66, [.tmp 4], f5c, 1, none⟩
def f5k : List (Nat × List Nat) := [(0, [0, 1]), (1, [0, 1, 9]), (2, [4]), (3, [0, 1, 5]), (4, [0, 1, 5, 13]), (6, [0, 1, 5, 49]), (7, [4]), (8, [0, 1, 5, 6]), (9, [0, 1, 5, 6, 52]), (11, [0, 1, 5, 6, 65]), (12, [4]), (10, [0, 1, 5, 6]), (5, [0, 1, 5]), (13, [4])]
def f5v : List Nat := []

/-! 6: mortise/mortiselaw23.heads, parameters [], results [4] -/
def f6r0 : List AOper := [
  ⟨(some 0), .move (.c (.bool false)), none, 0, 0⟩]
def f6r1 : List AOper := [
  ⟨(some 14), .build [(.int .i64 0), (.int .i64 0)] [(0, 1, (.c (.int .i64 1))), (1, 1, (.c (.int .i64 1)))], none, 0, 0⟩,
  ⟨(some 15), .build [(.int .i64 0), (.int .i64 0)] [(0, 1, (.c (.int .i64 4))), (1, 1, (.c (.int .i64 4)))], none, 0, 0⟩,
  ⟨(some 16), .buildSlice true 2 2 [(.int .i64 0), (.int .i64 0), (.int .i64 0), (.int .i64 0)] [(0, 2, (.t 14)), (2, 2, (.t 15))], none, 0, 3⟩,
  ⟨(some 17), .build [(.str []), (.int .i64 0), (.int .i64 0), (.bool false), (.is [] .nil), (.is [] .nil)] [(2, 1, (.c (.int .i64 3))), (4, 1, (.t 16))], none, 0, 7⟩,
  ⟨(some 18), .call (.c (.fn 16 [] [])) [(.t 17)], none, 0, 15⟩,
  ⟨(some 13), .move (.t 18), none, 0, 31⟩,
  ⟨(some 19), .extract (.t 13) 0, none, 0, 63⟩,
  ⟨(some 20), .extract (.t 13) 1, none, 0, 63⟩,
  ⟨(some 1), .alloc false [(.is [] .nil), (.int .i64 0), (.int .i64 0), (.int .i64 0)], none, 0, 0⟩,
  ⟨none, .store 4 (.t 1) (.t 19), none, 1, 383⟩,
  ⟨(some 2), .move (.t 20), none, 1, 1023⟩]
def f6r2 : List AOper := [
  ⟨(some 22), .build [(.int .i64 0), (.int .i64 0)] [(0, 1, (.c (.int .i64 1))), (1, 1, (.c (.int .i64 0)))], none, 0, 0⟩,
  ⟨(some 23), .build [(.int .i64 0), (.int .i64 0)] [(0, 1, (.c (.int .i64 0))), (1, 1, (.c (.int .i64 1)))], none, 0, 0⟩,
  ⟨(some 24), .buildSlice true 2 2 [(.int .i64 0), (.int .i64 0), (.int .i64 0), (.int .i64 0)] [(0, 2, (.t 22)), (2, 2, (.t 23))], none, 0, 3⟩,
  ⟨(some 25), .call (.c (.fn 4 [] [])) [(.t 24), (.c (.int .i64 10))], none, 0, 7⟩,
  ⟨(some 21), .move (.t 25), none, 0, 15⟩,
  ⟨(some 26), .extract (.t 21) 0, none, 0, 31⟩,
  ⟨(some 27), .extract (.t 21) 1, none, 0, 31⟩,
  ⟨(some 3), .move (.t 26), none, 0, 63⟩,
  ⟨(some 4), .move (.t 27), none, 0, 255⟩]
def f6r3 : List AOper := [
  ⟨(some 29), .build [(.int .i64 0), (.int .i64 0)] [(0, 1, (.c (.int .i64 2))), (1, 1, (.c (.int .i64 1)))], none, 0, 0⟩,
  ⟨(some 30), .build [(.int .i64 0), (.int .i64 0)] [(0, 1, (.c (.int .i64 1))), (1, 1, (.c (.int .i64 0)))], none, 0, 0⟩,
  ⟨(some 31), .buildSlice true 2 2 [(.int .i64 0), (.int .i64 0), (.int .i64 0), (.int .i64 0)] [(0, 2, (.t 29)), (2, 2, (.t 30))], none, 0, 3⟩,
  ⟨(some 32), .call (.c (.fn 4 [] [])) [(.t 31), (.c (.int .i64 10))], none, 0, 7⟩,
  ⟨(some 28), .move (.t 32), none, 0, 15⟩,
  ⟨(some 33), .extract (.t 28) 0, none, 0, 31⟩,
  ⟨(some 34), .extract (.t 28) 1, none, 0, 31⟩,
  ⟨(some 5), .move (.t 33), none, 0, 63⟩,
  ⟨(some 6), .move (.t 34), none, 0, 255⟩]
def f6r4 : List AOper := [
  ⟨(some 36), .build [(.int .i64 0), (.int .i64 0)] [], none, 0, 0⟩,
  ⟨(some 37), .buildSlice true 2 1 [(.int .i64 0), (.int .i64 0)] [(0, 2, (.t 36))], none, 0, 1⟩,
  ⟨(some 38), .call (.c (.fn 4 [] [])) [(.t 37), (.c (.int .i64 10))], none, 0, 3⟩,
  ⟨(some 35), .move (.t 38), none, 0, 7⟩,
  ⟨(some 39), .extract (.t 35) 0, none, 0, 15⟩,
  ⟨(some 40), .extract (.t 35) 1, none, 0, 15⟩,
  ⟨(some 7), .move (.t 39), none, 0, 31⟩,
  ⟨(some 8), .move (.t 40), none, 0, 127⟩]
def f6r5 : List AOper := [
  ⟨(some 42), .build [(.int .i64 0), (.int .i64 0)] [(0, 1, (.c (.int .i64 1)))], none, 0, 0⟩,
  ⟨(some 43), .build [(.int .i64 0), (.int .i64 0)] [(0, 1, (.c (.int .i64 1)))], none, 0, 0⟩,
  ⟨(some 44), .buildSlice true 2 2 [(.int .i64 0), (.int .i64 0), (.int .i64 0), (.int .i64 0)] [(0, 2, (.t 42)), (2, 2, (.t 43))], none, 0, 3⟩,
  ⟨(some 45), .call (.c (.fn 4 [] [])) [(.t 44), (.c (.int .i64 10))], none, 0, 7⟩,
  ⟨(some 41), .move (.t 45), none, 0, 15⟩,
  ⟨(some 46), .extract (.t 41) 0, none, 0, 31⟩,
  ⟨(some 47), .extract (.t 41) 1, none, 0, 31⟩,
  ⟨(some 9), .move (.t 46), none, 0, 63⟩,
  ⟨(some 10), .move (.t 47), none, 0, 255⟩]
def f6r6 : List AOper := [
  ⟨(some 49), .build [(.str []), (.int .i64 0), (.int .i64 0), (.bool false), (.is [] .nil), (.is [] .nil)] [(2, 1, (.c (.int .i64 11)))], none, 0, 0⟩,
  ⟨(some 50), .call (.c (.fn 16 [] [])) [(.t 49)], none, 0, 1⟩,
  ⟨(some 48), .move (.t 50), none, 0, 3⟩,
  ⟨(some 51), .extract (.t 48) 0, none, 0, 7⟩,
  ⟨(some 52), .extract (.t 48) 1, none, 0, 7⟩,
  ⟨(some 11), .alloc false [(.is [] .nil), (.int .i64 0), (.int .i64 0), (.int .i64 0)], none, 0, 0⟩,
  ⟨none, .store 4 (.t 11) (.t 51), none, 1, 47⟩,
  ⟨(some 12), .move (.t 52), none, 1, 127⟩]
def f6r7 : List AOper := [
  ⟨(some 53), .move (.t 2), none, 0, 0⟩,
  ⟨(some 54), .bin .eql (.t 53) (.c (.int .i64 0)), none, 0, 1⟩,
  ⟨(some 55), .move (.t 54), none, 0, 3⟩,
  ⟨(some 56), .load true 4 (.t 1), (some (55, true)), 0, 7⟩,
  ⟨(some 57), .buildSlice true 1 2 [(.int .i64 0), (.int .i64 0)] [(0, 1, (.c (.int .i64 0))), (1, 1, (.c (.int .i64 4)))], (some (55, true)), 0, 7⟩,
  ⟨(some 58), .build [(.is [] .nil), (.int .i64 0), (.int .i64 0), (.int .i64 0)] [(0, 1, (.t 57)), (1, 1, (.c (.int .i64 8))), (2, 1, (.c (.int .i64 20))), (3, 1, (.c (.int .i64 24)))], (some (55, true)), 0, 23⟩,
  ⟨(some 59), .call (.c (.fn 17 [] [])) [(.t 56), (.t 58)], (some (55, true)), 0, 63⟩,
  ⟨(some 60), .pick (.t 55) (.t 59) (.c (.bool false)), none, 0, 127⟩,
  ⟨(some 61), .move (.t 60), none, 0, 255⟩,
  ⟨(some 62), .move (.t 4), (some (61, true)), 0, 511⟩,
  ⟨(some 63), .bin .eql (.t 62) (.c (.int .i64 0)), (some (61, true)), 0, 1023⟩,
  ⟨(some 64), .pick (.t 61) (.t 63) (.c (.bool false)), none, 0, 2047⟩,
  ⟨(some 65), .move (.t 64), none, 0, 4095⟩,
  ⟨(some 66), .move (.t 3), (some (65, true)), 0, 8191⟩,
  ⟨(some 67), .len 1 (.t 66), (some (65, true)), 0, 16383⟩,
  ⟨(some 68), .bin .eql (.t 67) (.c (.int .i64 3)), (some (65, true)), 0, 32767⟩,
  ⟨(some 69), .pick (.t 65) (.t 68) (.c (.bool false)), none, 0, 65535⟩,
  ⟨(some 70), .move (.t 69), none, 0, 131071⟩,
  ⟨(some 71), .move (.t 6), (some (70, true)), 0, 262143⟩,
  ⟨(some 72), .bin .eql (.t 71) (.c (.int .i64 0)), (some (70, true)), 0, 524287⟩,
  ⟨(some 73), .pick (.t 70) (.t 72) (.c (.bool false)), none, 0, 1048575⟩,
  ⟨(some 74), .move (.t 73), none, 0, 2097151⟩,
  ⟨(some 75), .move (.t 5), (some (74, true)), 0, 4194303⟩,
  ⟨(some 76), .len 1 (.t 75), (some (74, true)), 0, 8388607⟩,
  ⟨(some 77), .bin .eql (.t 76) (.c (.int .i64 2)), (some (74, true)), 0, 16777215⟩,
  ⟨(some 78), .pick (.t 74) (.t 77) (.c (.bool false)), none, 0, 33554431⟩,
  ⟨(some 79), .move (.t 78), none, 0, 67108863⟩,
  ⟨(some 80), .move (.t 5), (some (79, true)), 0, 134217727⟩,
  ⟨(some 81), .idxAddr 2 (.t 80) (.c (.int .i64 0)), (some (79, true)), 0, 268435455⟩,
  ⟨(some 82), .load true 2 (.t 81), (some (79, true)), 0, 536870911⟩,
  ⟨(some 83), .build [(.int .i64 0), (.int .i64 0)] [(0, 1, (.c (.int .i64 2))), (1, 1, (.c (.int .i64 1)))], (some (79, true)), 0, 134217727⟩,
  ⟨(some 84), .eq false (.agg [.int .i64, .int .i64]) (.t 82) (.t 83), (some (79, true)), 0, 2147483647⟩,
  ⟨(some 85), .pick (.t 79) (.t 84) (.c (.bool false)), none, 0, 4294967295⟩,
  ⟨(some 86), .move (.t 85), none, 0, 8589934591⟩,
  ⟨(some 87), .move (.t 8), (some (86, true)), 0, 17179869183⟩,
  ⟨(some 88), .bin .eql (.t 87) (.c (.int .i64 0)), (some (86, true)), 0, 34359738367⟩,
  ⟨(some 89), .pick (.t 86) (.t 88) (.c (.bool false)), none, 0, 68719476735⟩,
  ⟨(some 90), .move (.t 89), none, 0, 137438953471⟩,
  ⟨(some 91), .move (.t 7), (some (90, true)), 0, 274877906943⟩,
  ⟨(some 92), .len 1 (.t 91), (some (90, true)), 0, 549755813887⟩,
  ⟨(some 93), .bin .eql (.t 92) (.c (.int .i64 0)), (some (90, true)), 0, 1099511627775⟩,
  ⟨(some 94), .pick (.t 90) (.t 93) (.c (.bool false)), none, 0, 2199023255551⟩,
  ⟨(some 95), .move (.t 94), none, 0, 4398046511103⟩,
  ⟨(some 96), .move (.t 10), (some (95, true)), 0, 8796093022207⟩,
  ⟨(some 97), .bin .eql (.t 96) (.c (.int .i64 2)), (some (95, true)), 0, 17592186044415⟩,
  ⟨(some 98), .pick (.t 95) (.t 97) (.c (.bool false)), none, 0, 35184372088831⟩,
  ⟨(some 99), .move (.t 98), none, 0, 70368744177663⟩,
  ⟨(some 100), .move (.t 12), (some (99, true)), 0, 140737488355327⟩,
  ⟨(some 101), .bin .eql (.t 100) (.c (.int .i64 250)), (some (99, true)), 0, 281474976710655⟩,
  ⟨(some 102), .pick (.t 99) (.t 101) (.c (.bool false)), none, 0, 562949953421311⟩,
  ⟨(some 0), .move (.t 102), none, 0, 1125899906842623⟩]
def f6c : ACode :=
  .seq (.region false f6r0 [] 0)
  (.seq (.region false f6r1 [1, 2] 1)
  (.seq (.region false f6r2 [1, 2, 3, 4] 0)
  (.seq (.region false f6r3 [1, 2, 3, 4, 5, 6] 0)
  (.seq (.region false f6r4 [1, 2, 3, 4, 5, 6, 7, 8] 0)
  (.seq (.region false f6r5 [1, 2, 3, 4, 5, 6, 7, 8, 10] 0)
  (.seq (.region false f6r6 [1, 2, 3, 4, 5, 6, 7, 8, 10, 12] 1)
  (.seq (.region false f6r7 [0] 0)
  (.ret))))))))
def f6 : AFn := ⟨0, 103, [.tmp 0], f6c, 1, none⟩
def f6k : List (Nat × List Nat) := [(0, []), (1, [1, 2]), (2, [1, 2, 3, 4]), (3, [1, 2, 3, 4, 5, 6]), (4, [1, 2, 3, 4, 5, 6, 7, 8]), (5, [1, 2, 3, 4, 5, 6, 7, 8, 10]), (6, [1, 2, 3, 4, 5, 6, 7, 8, 10, 12]), (7, [0])]
def f6v : List Nat := [57, 44, 37, 31, 24, 16]

/-! 7: mortise/mortiseref23.Cycles, parameters [22], results [3] -/
def f7r0 : List AOper := [
  ⟨(some 2), .move (.c (.int .i64 0)), none, 0, 0⟩]
def f7r1 : List AOper := [
  ⟨(some 12), .mkSlice false 1 8 [(.int .i64 0)] (.c (.int .i64 16)) (.c (.int .i64 16)), none, 0, 0⟩,
  ⟨(some 3), .move (.t 12), none, 1, 1⟩]
def f7r2 : List AOper := [
  ⟨(some 4), .move (.c (.int .i64 0)), none, 0, 0⟩]
def f7r3 : List AOper := [
  ⟨(some 13), .move (.t 4), none, 0, 0⟩,
  ⟨(some 14), .bin .lss (.t 13) (.c (.int .i64 16)), none, 0, 1⟩]
def f7r4 : List AOper := [
  ⟨(some 17), .move (.t 3), none, 0, 0⟩,
  ⟨(some 18), .move (.t 4), none, 0, 0⟩,
  ⟨(some 19), .idxAddr 1 (.t 17) (.t 18), none, 0, 3⟩,
  ⟨none, .store 1 (.t 19) (.c (.int .i64 (-1))), none, 0, 7⟩]
def f7r5 : List AOper := [
  ⟨(some 15), .move (.t 4), none, 0, 0⟩,
  ⟨(some 16), .bin .add (.t 15) (.c (.int .i64 1)), none, 0, 1⟩,
  ⟨(some 4), .move (.t 16), none, 0, 3⟩]
def f7m3 : ACode :=
  .seq (.seq (.region false f7r3 [0, 3, 4, 14] 0)
  (.cond (.t 14)
    (.skip)
    (.exit 0)))
  (.seq (.block 1 (.region false f7r4 [0, 3, 4] 0))
  (.region false f7r5 [0, 3, 4] 0))
def f7l3 : ACode := f7m3
theorem f7l3_b {A : Tab} {nt : Nat} {e : Env} {h : Heap} : Brun A nt f7l3 e h = Brun A nt f7m3 e h := rfl
def f7r6 : List AOper := [
  ⟨(some 5), .move (.c (.int .i64 0)), none, 0, 0⟩]
def f7r7 : List AOper := [
  ⟨(some 20), .move (.t 5), none, 0, 0⟩,
  ⟨(some 21), .move (.t 0), none, 0, 0⟩,
  ⟨(some 22), .len 1 (.t 21), none, 0, 2⟩,
  ⟨(some 23), .bin .lss (.t 20) (.t 22), none, 0, 7⟩]
def f7q8 : List AOper := [
  ⟨(some 26), .move (.t 0), none, 0, 0⟩,
  ⟨(some 27), .move (.t 5), none, 0, 0⟩,
  ⟨(some 28), .idxAddr 2 (.t 26) (.t 27), none, 0, 3⟩,
  ⟨(some 29), .fieldAddr 0 (.t 28), none, 0, 7⟩,
  ⟨(some 30), .load false 1 (.t 29), none, 0, 15⟩,
  ⟨(some 31), .move (.t 0), none, 0, 0⟩,
  ⟨(some 32), .move (.t 5), none, 0, 0⟩,
  ⟨(some 33), .idxAddr 2 (.t 31) (.t 32), none, 0, 96⟩,
  ⟨(some 34), .fieldAddr 1 (.t 33), none, 0, 224⟩,
  ⟨(some 35), .load false 1 (.t 34), none, 0, 480⟩,
  ⟨(some 36), .bin .neq (.t 30) (.t 35), none, 0, 1023⟩]
def f7r8 : List AOper := f7q8
def f7q9 : List AOper := [
  ⟨(some 37), .move (.t 3), none, 0, 0⟩,
  ⟨(some 38), .move (.t 0), none, 0, 0⟩,
  ⟨(some 39), .move (.t 5), none, 0, 0⟩,
  ⟨(some 40), .idxAddr 2 (.t 38) (.t 39), none, 0, 6⟩,
  ⟨(some 41), .fieldAddr 0 (.t 40), none, 0, 14⟩,
  ⟨(some 42), .load false 1 (.t 41), none, 0, 30⟩,
  ⟨(some 43), .move (.t 0), none, 0, 0⟩,
  ⟨(some 44), .move (.t 5), none, 0, 0⟩,
  ⟨(some 45), .idxAddr 2 (.t 43) (.t 44), none, 0, 192⟩,
  ⟨(some 46), .fieldAddr 1 (.t 45), none, 0, 448⟩,
  ⟨(some 47), .load false 1 (.t 46), none, 0, 960⟩,
  ⟨(some 48), .idxAddr 1 (.t 37) (.t 42), none, 0, 2047⟩,
  ⟨none, .store 1 (.t 48) (.t 47), none, 0, 4095⟩]
def f7r9 : List AOper := f7q9
def f7r10 : List AOper := [
  ⟨(some 24), .move (.t 5), none, 0, 0⟩,
  ⟨(some 25), .bin .add (.t 24) (.c (.int .i64 1)), none, 0, 1⟩,
  ⟨(some 5), .move (.t 25), none, 0, 3⟩]
def f7m7 : ACode :=
  .seq (.seq (.region false f7r7 [0, 3, 5, 23] 0)
  (.cond (.t 23)
    (.skip)
    (.exit 2)))
  (.seq (.block 3 (.seq (.region true f7r8 [0, 3, 5, 36] 0)
    (.cond (.t 36)
      (.region true f7r9 [0, 3, 5] 0)
      (.skip))))
  (.region false f7r10 [0, 3, 5] 0))
def f7l7 : ACode := f7m7
theorem f7l7_b {A : Tab} {nt : Nat} {e : Env} {h : Heap} : Brun A nt f7l7 e h = Brun A nt f7m7 e h := rfl
def f7r11 : List AOper := [
  ⟨(some 6), .move (.c (.int .i64 0)), none, 0, 0⟩]
def f7r12 : List AOper := [
  ⟨(some 7), .move (.c (.int .i64 0)), none, 0, 0⟩]
def f7r13 : List AOper := [
  ⟨(some 49), .move (.t 7), none, 0, 0⟩,
  ⟨(some 50), .bin .lss (.t 49) (.c (.int .i64 16)), none, 0, 1⟩]
def f7r14 : List AOper := [
  ⟨(some 8), .move (.c (.bool true)), none, 0, 0⟩]
def f7r15 : List AOper := [
  ⟨(some 53), .move (.t 7), none, 0, 0⟩,
  ⟨(some 9), .move (.t 53), none, 0, 1⟩]
def f7r16 : List AOper := [
  ⟨(some 10), .move (.c (.bool false)), none, 0, 0⟩]
def f7r17 : List AOper := [
  ⟨(some 11), .move (.c (.int .i64 0)), none, 0, 0⟩]
def f7r18 : List AOper := [
  ⟨(some 54), .move (.t 11), none, 0, 0⟩,
  ⟨(some 55), .bin .lss (.t 54) (.c (.int .i64 16)), none, 0, 1⟩,
  ⟨(some 56), .move (.t 55), none, 0, 3⟩,
  ⟨(some 57), .move (.t 9), (some (56, true)), 0, 7⟩,
  ⟨(some 58), .bin .geq (.t 57) (.c (.int .i64 0)), (some (56, true)), 0, 15⟩,
  ⟨(some 59), .pick (.t 56) (.t 58) (.c (.bool false)), none, 0, 31⟩,
  ⟨(some 60), .move (.t 59), none, 0, 63⟩,
  ⟨(some 61), .move (.t 10), (some (60, true)), 0, 127⟩,
  ⟨(some 62), .un .not (.t 61), (some (60, true)), 0, 255⟩,
  ⟨(some 63), .pick (.t 60) (.t 62) (.c (.bool false)), none, 0, 511⟩]
def f7r19 : List AOper := [
  ⟨(some 66), .move (.t 3), none, 0, 0⟩,
  ⟨(some 67), .move (.t 9), none, 0, 0⟩,
  ⟨(some 68), .idxAddr 1 (.t 66) (.t 67), none, 0, 3⟩,
  ⟨(some 69), .load false 1 (.t 68), none, 0, 7⟩,
  ⟨(some 9), .move (.t 69), none, 0, 15⟩]
def f7r20 : List AOper := [
  ⟨(some 70), .move (.t 9), none, 0, 0⟩,
  ⟨(some 71), .move (.t 7), none, 0, 0⟩,
  ⟨(some 72), .bin .eql (.t 70) (.t 71), none, 0, 3⟩,
  ⟨(some 10), .move (.t 72), none, 0, 7⟩]
def f7r21 : List AOper := [
  ⟨(some 73), .move (.t 8), none, 0, 0⟩,
  ⟨(some 74), .move (.t 73), none, 0, 1⟩,
  ⟨(some 75), .move (.t 9), (some (74, true)), 0, 3⟩,
  ⟨(some 76), .bin .lss (.t 75) (.c (.int .i64 0)), (some (74, true)), 0, 7⟩,
  ⟨(some 77), .move (.t 76), (some (74, true)), 0, 15⟩,
  ⟨(some 78), .move (.t 9), (some (77, false)), 0, 31⟩,
  ⟨(some 79), .move (.t 7), (some (77, false)), 0, 31⟩,
  ⟨(some 80), .bin .geq (.t 78) (.t 79), (some (77, false)), 0, 127⟩,
  ⟨(some 81), .pick (.t 77) (.c (.bool true)) (.t 80), (some (74, true)), 0, 255⟩,
  ⟨(some 82), .pick (.t 74) (.t 81) (.c (.bool false)), none, 0, 511⟩,
  ⟨(some 8), .move (.t 82), none, 0, 1023⟩]
def f7r22 : List AOper := [
  ⟨(some 64), .move (.t 11), none, 0, 0⟩,
  ⟨(some 65), .bin .add (.t 64) (.c (.int .i64 1)), none, 0, 1⟩,
  ⟨(some 11), .move (.t 65), none, 0, 3⟩]
def f7m18 : ACode :=
  .seq (.seq (.region false f7r18 [3, 6, 7, 8, 9, 10, 11, 63] 0)
  (.cond (.t 63)
    (.skip)
    (.exit 6)))
  (.seq (.block 7 (.seq (.region false f7r19 [3, 6, 7, 8, 9, 11] 0)
    (.seq (.region false f7r20 [3, 6, 7, 8, 9, 10, 11] 0)
    (.region false f7r21 [3, 6, 7, 8, 9, 10, 11] 0))))
  (.region false f7r22 [3, 6, 7, 8, 9, 10, 11] 0))
def f7l18 : ACode := f7m18
theorem f7l18_b {A : Tab} {nt : Nat} {e : Env} {h : Heap} : Brun A nt f7l18 e h = Brun A nt f7m18 e h := rfl
def f7r23 : List AOper := [
  ⟨(some 83), .move (.t 10), none, 0, 0⟩,
  ⟨(some 84), .move (.t 83), none, 0, 1⟩,
  ⟨(some 85), .move (.t 8), (some (84, true)), 0, 3⟩,
  ⟨(some 86), .pick (.t 84) (.t 85) (.c (.bool false)), none, 0, 7⟩]
def f7r24 : List AOper := [
  ⟨(some 87), .move (.t 6), none, 0, 0⟩,
  ⟨(some 88), .bin .add (.t 87) (.c (.int .i64 1)), none, 0, 1⟩,
  ⟨(some 6), .move (.t 88), none, 0, 3⟩]
def f7r25 : List AOper := [
  ⟨(some 51), .move (.t 7), none, 0, 0⟩,
  ⟨(some 52), .bin .add (.t 51) (.c (.int .i64 1)), none, 0, 1⟩,
  ⟨(some 7), .move (.t 52), none, 0, 3⟩]
def f7m13 : ACode :=
  .seq (.seq (.region false f7r13 [3, 6, 7, 50] 0)
  (.cond (.t 50)
    (.skip)
    (.exit 4)))
  (.seq (.block 5 (.seq (.region false f7r14 [3, 6, 7, 8] 0)
    (.seq (.region false f7r15 [3, 6, 7, 8, 9] 0)
    (.seq (.region false f7r16 [3, 6, 7, 8, 9, 10] 0)
    (.seq (.seq (.region false f7r17 [3, 6, 7, 8, 9, 10, 11] 0)
    (.block 6 (.loop f7l18)))
    (.seq (.region false f7r23 [3, 6, 7, 86] 0)
    (.cond (.t 86)
      (.region false f7r24 [3, 6, 7] 0)
      (.skip))))))))
  (.region false f7r25 [3, 6, 7] 0))
def f7l13 : ACode := f7m13
theorem f7l13_b {A : Tab} {nt : Nat} {e : Env} {h : Heap} : Brun A nt f7l13 e h = Brun A nt f7m13 e h := rfl
def f7r26 : List AOper := [
  ⟨(some 89), .move (.t 6), none, 0, 0⟩,
  ⟨(some 2), .move (.t 89), none, 0, 1⟩]
theorem f7r8_s : staticOK 0 f7r8 = true := by rfl
theorem f7r8_w {A : Tab} {nt : Nat} {keep : List Nat} {n : Nat} {e : Env} {h : Heap} (hr : (bkeep keep (stepsF nt (stepF A true) h.length f7r8 e (h ++ List.replicate n .free))).isSome = true) : Brun A nt (.region true f7r8 keep n) e h = bkeep keep (stepsF nt (stepF A true) h.length f7r8 e (h ++ List.replicate n .free)) := Brun_drawnS f7r8_s hr
theorem f7r8_u (nt base : Nat) (step : Nat → AOp → Env → Heap → Option (AV × Heap)) (e : Env) (h : Heap) : stepsF nt step base f7r8 e h = stepsF nt step base f7q8 e h := rfl
theorem f7r9_s : staticOK 0 f7r9 = true := by rfl
theorem f7r9_w {A : Tab} {nt : Nat} {keep : List Nat} {n : Nat} {e : Env} {h : Heap} (hr : (bkeep keep (stepsF nt (stepF A true) h.length f7r9 e (h ++ List.replicate n .free))).isSome = true) : Brun A nt (.region true f7r9 keep n) e h = bkeep keep (stepsF nt (stepF A true) h.length f7r9 e (h ++ List.replicate n .free)) := Brun_drawnS f7r9_s hr
theorem f7r9_u (nt base : Nat) (step : Nat → AOp → Env → Heap → Option (AV × Heap)) (e : Env) (h : Heap) : stepsF nt step base f7r9 e h = stepsF nt step base f7q9 e h := rfl
def f7c : ACode :=
  .seq (.region false f7r0 [0] 0)
  (.seq (.region false f7r1 [0, 3] 1)
  (.seq (.seq (.region false f7r2 [0, 3, 4] 0)
  (.block 0 (.loop f7l3)))
  (.seq (.seq (.region false f7r6 [0, 3, 5] 0)
  (.block 2 (.loop f7l7)))
  (.seq (.region false f7r11 [3, 6] 0)
  (.seq (.seq (.region false f7r12 [3, 6, 7] 0)
  (.block 4 (.loop f7l13)))
  (.seq (.region false f7r26 [2] 0)
  (.ret)))))))
def f7 : AFn := ⟨1, 90, [.tmp 2], f7c, 1, none⟩
def f7k : List (Nat × List Nat) := [(0, [0]), (1, [0, 3]), (2, [0, 3, 4]), (3, [0, 3, 4, 14]), (5, [0, 3, 4]), (4, [0, 3, 4]), (6, [0, 3, 5]), (7, [0, 3, 5, 23]), (9, [0, 3, 5, 36]), (10, [0, 3, 5]), (8, [0, 3, 5]), (11, [3, 6]), (12, [3, 6, 7]), (13, [3, 6, 7, 50]), (15, [3, 6, 7, 8]), (16, [3, 6, 7, 8, 9]), (17, [3, 6, 7, 8, 9, 10]), (18, [3, 6, 7, 8, 9, 10, 11]), (19, [3, 6, 7, 8, 9, 10, 11, 63]), (21, [3, 6, 7, 8, 9, 11]), (22, [3, 6, 7, 8, 9, 10, 11]), (23, [3, 6, 7, 8, 9, 10, 11]), (20, [3, 6, 7, 8, 9, 10, 11]), (24, [3, 6, 7, 86]), (25, [3, 6, 7]), (14, [3, 6, 7]), (26, [2])]
def f7v : List Nat := []

/-! 8: mortise/frame.may, parameters [22, 3], results [4] -/
def f8r0 : List AOper := [
  ⟨(some 4), .move (.c (.bool false)), none, 0, 0⟩]
def f8r1 : List AOper := [
  ⟨(some 8), .move (.t 1), none, 0, 0⟩,
  ⟨(some 9), .call (.c (.fn 18 [] [])) [(.t 8)], none, 0, 1⟩,
  ⟨(some 10), .un .not (.t 9), none, 0, 3⟩]
def f8r2 : List AOper := [
  ⟨(some 4), .move (.c (.bool false)), none, 0, 0⟩]
def f8r3 : List AOper := [
  ⟨(some 5), .alloc false (List.replicate 16 (.bool false)), none, 0, 0⟩]
def f8r4 : List AOper := [
  ⟨(some 11), .move (.t 0), none, 0, 0⟩,
  ⟨(some 12), .len 1 (.t 11), none, 0, 1⟩,
  ⟨(some 13), .move (.c (.int .i64 0)), none, 0, 0⟩]
def f8r5 : List AOper := [
  ⟨(some 14), .bin .lss (.t 13) (.t 12), none, 0, 0⟩]
def f8r6 : List AOper := [
  ⟨(some 15), .idxAddr 2 (.t 11) (.t 13), none, 0, 0⟩,
  ⟨(some 16), .load true 2 (.t 15), none, 0, 1⟩,
  ⟨(some 7), .alloc false [(.int .i64 0), (.int .i64 0)], none, 0, 0⟩,
  ⟨none, .store 2 (.t 7) (.t 16), none, 1, 7⟩]
def f8r7 : List AOper := [
  ⟨(some 17), .fieldAddr 0 (.t 7), none, 0, 0⟩,
  ⟨(some 18), .load false 1 (.t 17), none, 0, 1⟩,
  ⟨(some 19), .call (.c (.fn 18 [] [])) [(.t 18)], none, 0, 3⟩,
  ⟨(some 20), .un .not (.t 19), none, 0, 7⟩,
  ⟨(some 21), .move (.t 20), none, 0, 15⟩,
  ⟨(some 22), .fieldAddr 1 (.t 7), (some (21, false)), 0, 31⟩,
  ⟨(some 23), .load false 1 (.t 22), (some (21, false)), 0, 63⟩,
  ⟨(some 24), .call (.c (.fn 18 [] [])) [(.t 23)], (some (21, false)), 0, 127⟩,
  ⟨(some 25), .un .not (.t 24), (some (21, false)), 0, 255⟩,
  ⟨(some 26), .pick (.t 21) (.c (.bool true)) (.t 25), none, 0, 511⟩,
  ⟨(some 27), .move (.t 26), none, 0, 1023⟩,
  ⟨(some 28), .fieldAddr 0 (.t 7), (some (27, false)), 0, 2047⟩,
  ⟨(some 29), .load false 1 (.t 28), (some (27, false)), 0, 4095⟩,
  ⟨(some 30), .move (.t 1), (some (27, false)), 0, 2047⟩,
  ⟨(some 31), .bin .eql (.t 29) (.t 30), (some (27, false)), 0, 16383⟩,
  ⟨(some 32), .pick (.t 27) (.c (.bool true)) (.t 31), none, 0, 32767⟩,
  ⟨(some 33), .move (.t 32), none, 0, 65535⟩,
  ⟨(some 34), .fieldAddr 1 (.t 7), (some (33, false)), 0, 131071⟩,
  ⟨(some 35), .load false 1 (.t 34), (some (33, false)), 0, 262143⟩,
  ⟨(some 36), .move (.t 1), (some (33, false)), 0, 131071⟩,
  ⟨(some 37), .bin .eql (.t 35) (.t 36), (some (33, false)), 0, 1048575⟩,
  ⟨(some 38), .pick (.t 33) (.c (.bool true)) (.t 37), none, 0, 2097151⟩,
  ⟨(some 39), .move (.t 38), none, 0, 4194303⟩,
  ⟨(some 40), .fieldAddr 0 (.t 7), (some (39, false)), 0, 8388607⟩,
  ⟨(some 41), .load false 1 (.t 40), (some (39, false)), 0, 16777215⟩,
  ⟨(some 42), .idxArr 16 1 (.t 5) (.t 41), (some (39, false)), 0, 33554431⟩,
  ⟨(some 43), .load false 1 (.t 42), (some (39, false)), 0, 67108863⟩,
  ⟨(some 44), .pick (.t 39) (.c (.bool true)) (.t 43), none, 0, 134217727⟩]
def f8r8 : List AOper := [
  ⟨(some 4), .move (.c (.bool false)), none, 0, 0⟩]
def f8r9 : List AOper := [
  ⟨(some 45), .fieldAddr 0 (.t 7), none, 0, 0⟩,
  ⟨(some 46), .load false 1 (.t 45), none, 0, 1⟩,
  ⟨(some 47), .idxArr 16 1 (.t 5) (.t 46), none, 0, 3⟩,
  ⟨none, .store 1 (.t 47) (.c (.bool true)), none, 0, 7⟩]
def f8r10 : List AOper := [
  ⟨(some 48), .bin .add (.t 13) (.c (.int .i64 1)), none, 0, 0⟩,
  ⟨(some 13), .move (.t 48), none, 0, 1⟩]
def f8m5 : ACode :=
  .seq (.region false f8r5 [1, 5, 11, 12, 13, 14] 0)
  (.seq (.cond (.t 14)
    (.skip)
    (.exit 0))
  (.seq (.block 1 (.seq (.region false f8r6 [1, 5, 7, 11, 12, 13] 1)
    (.seq (.seq (.region false f8r7 [1, 5, 7, 11, 12, 13, 44] 0)
    (.cond (.t 44)
      (.seq (.region false f8r8 [4] 0)
      (.ret))
      (.skip)))
    (.region false f8r9 [1, 5, 11, 12, 13] 0))))
  (.region false f8r10 [1, 5, 11, 12, 13] 0)))
def f8l5 : ACode := f8m5
theorem f8l5_b {A : Tab} {nt : Nat} {e : Env} {h : Heap} : Brun A nt f8l5 e h = Brun A nt f8m5 e h := rfl
def f8r11 : List AOper := [
  ⟨(some 4), .move (.c (.bool true)), none, 0, 0⟩]
def f8c : ACode :=
  .seq (.region false f8r0 [0, 1] 0)
  (.seq (.seq (.region false f8r1 [0, 1, 10] 0)
  (.cond (.t 10)
    (.seq (.region false f8r2 [4] 0)
    (.ret))
    (.skip)))
  (.seq (.region false f8r3 [0, 1, 5] 1)
  (.seq (.seq (.region false f8r4 [1, 5, 11, 12, 13] 0)
  (.block 0 (.loop f8l5)))
  (.seq (.region false f8r11 [4] 0)
  (.ret)))))
def f8 : AFn := ⟨2, 49, [.tmp 4], f8c, 1, none⟩
def f8k : List (Nat × List Nat) := [(0, [0, 1]), (1, [0, 1, 10]), (2, [4]), (3, [0, 1, 5]), (4, [1, 5, 11, 12, 13]), (5, [1, 5, 11, 12, 13, 14]), (6, [1, 5, 7, 11, 12, 13]), (7, [1, 5, 7, 11, 12, 13, 44]), (8, [4]), (9, [1, 5, 11, 12, 13]), (10, [1, 5, 11, 12, 13]), (11, [4])]
def f8v : List Nat := []

/-! 9: slices.DeleteFunc[[]mortise/api.Move,mortise/api.Move], parameters [22, 34], results [22] -/
def f9r0 : List AOper := [
  ⟨(some 4), .move (.c (.is [] .nil)), none, 0, 0⟩]
def f9r1 : List AOper := [
  ⟨(some 8), .move (.t 0), none, 0, 0⟩,
  ⟨(some 9), .move (.t 1), none, 0, 0⟩,
  ⟨(some 10), .call (.c (.fn 19 [] [])) [(.t 8), (.t 9)], none, 0, 3⟩,
  ⟨(some 5), .move (.t 10), none, 0, 7⟩]
def f9r2 : List AOper := [
  ⟨(some 11), .move (.t 5), none, 0, 0⟩,
  ⟨(some 12), .bin .eql (.t 11) (.c (.int .i64 (-1))), none, 0, 1⟩]
def f9r3 : List AOper := [
  ⟨(some 13), .move (.t 0), none, 0, 0⟩,
  ⟨(some 4), .move (.t 13), none, 0, 1⟩]
def f9r4 : List AOper := [
  ⟨(some 14), .move (.t 5), none, 0, 0⟩,
  ⟨(some 15), .bin .add (.t 14) (.c (.int .i64 1)), none, 0, 1⟩,
  ⟨(some 6), .move (.t 15), none, 0, 3⟩]
def f9r5 : List AOper := [
  ⟨(some 16), .move (.t 6), none, 0, 0⟩,
  ⟨(some 17), .move (.t 0), none, 0, 0⟩,
  ⟨(some 18), .len 1 (.t 17), none, 0, 2⟩,
  ⟨(some 19), .bin .lss (.t 16) (.t 18), none, 0, 7⟩]
def f9r6 : List AOper := [
  ⟨(some 22), .move (.t 0), none, 0, 0⟩,
  ⟨(some 23), .move (.t 6), none, 0, 0⟩,
  ⟨(some 24), .idxAddr 2 (.t 22) (.t 23), none, 0, 3⟩,
  ⟨(some 25), .load true 2 (.t 24), none, 0, 7⟩,
  ⟨(some 7), .alloc false [(.int .i64 0), (.int .i64 0)], none, 0, 0⟩,
  ⟨none, .store 2 (.t 7) (.t 25), none, 1, 31⟩]
def f9r7 : List AOper := [
  ⟨(some 26), .move (.t 1), none, 0, 0⟩,
  ⟨(some 27), .load true 2 (.t 7), none, 0, 0⟩,
  ⟨(some 28), .call (.t 26) [(.t 27)], none, 0, 3⟩,
  ⟨(some 29), .un .not (.t 28), none, 0, 7⟩]
def f9r8 : List AOper := [
  ⟨(some 30), .move (.t 0), none, 0, 0⟩,
  ⟨(some 31), .move (.t 5), none, 0, 0⟩,
  ⟨(some 32), .load true 2 (.t 7), none, 0, 0⟩,
  ⟨(some 33), .idxAddr 2 (.t 30) (.t 31), none, 0, 7⟩,
  ⟨none, .store 2 (.t 33) (.t 32), none, 0, 15⟩]
def f9r9 : List AOper := [
  ⟨(some 34), .move (.t 5), none, 0, 0⟩,
  ⟨(some 35), .bin .add (.t 34) (.c (.int .i64 1)), none, 0, 1⟩,
  ⟨(some 5), .move (.t 35), none, 0, 3⟩]
def f9r10 : List AOper := [
  ⟨(some 20), .move (.t 6), none, 0, 0⟩,
  ⟨(some 21), .bin .add (.t 20) (.c (.int .i64 1)), none, 0, 1⟩,
  ⟨(some 6), .move (.t 21), none, 0, 3⟩]
def f9m5 : ACode :=
  .seq (.seq (.region false f9r5 [0, 1, 5, 6, 19] 0)
  (.cond (.t 19)
    (.skip)
    (.exit 0)))
  (.seq (.block 1 (.seq (.region false f9r6 [0, 1, 5, 6, 7] 1)
    (.seq (.region false f9r7 [0, 1, 5, 6, 7, 29] 0)
    (.cond (.t 29)
      (.seq (.region false f9r8 [0, 1, 5, 6] 0)
      (.region false f9r9 [0, 1, 5, 6] 0))
      (.skip)))))
  (.region false f9r10 [0, 1, 5, 6] 0))
def f9l5 : ACode := f9m5
theorem f9l5_b {A : Tab} {nt : Nat} {e : Env} {h : Heap} : Brun A nt f9l5 e h = Brun A nt f9m5 e h := rfl
def f9r11 : List AOper := [
  ⟨(some 36), .move (.t 0), none, 0, 0⟩,
  ⟨(some 37), .move (.t 5), none, 0, 0⟩,
  ⟨(some 38), .slice 2 (.t 36) (some (.t 37)) none none, none, 0, 3⟩,
  ⟨none, .clear 2 [(.int .i64 0), (.int .i64 0)] (.t 38), none, 0, 7⟩]
def f9r12 : List AOper := [
  ⟨(some 39), .move (.t 0), none, 0, 0⟩,
  ⟨(some 40), .move (.t 5), none, 0, 0⟩,
  ⟨(some 41), .slice 2 (.t 39) none (some (.t 40)) none, none, 0, 3⟩,
  ⟨(some 4), .move (.t 41), none, 0, 7⟩]
def f9c : ACode :=
  .seq (.region false f9r0 [0, 1] 0)
  (.seq (.region false f9r1 [0, 1, 5] 0)
  (.seq (.seq (.region false f9r2 [0, 1, 5, 12] 0)
  (.cond (.t 12)
    (.seq (.region false f9r3 [4] 0)
    (.ret))
    (.skip)))
  (.seq (.seq (.region false f9r4 [0, 1, 5, 6] 0)
  (.block 0 (.loop f9l5)))
  (.seq (.region false f9r11 [0, 5] 0)
  (.seq (.region false f9r12 [4] 0)
  (.ret))))))
def f9 : AFn := ⟨2, 42, [.tmp 4], f9c, 1, none⟩
def f9k : List (Nat × List Nat) := [(0, [0, 1]), (1, [0, 1, 5]), (2, [0, 1, 5, 12]), (3, [4]), (4, [0, 1, 5, 6]), (5, [0, 1, 5, 6, 19]), (7, [0, 1, 5, 6, 7]), (8, [0, 1, 5, 6, 7, 29]), (9, [0, 1, 5, 6]), (10, [0, 1, 5, 6]), (6, [0, 1, 5, 6]), (11, [0, 5]), (12, [4])]
def f9v : List Nat := []

/-! 10: slices.Clone[[]mortise/api.Move,mortise/api.Move], parameters [22], results [22] -/
def f10r0 : List AOper := [
  ⟨(some 2), .move (.c (.is [] .nil)), none, 0, 0⟩]
def f10r1 : List AOper := [
  ⟨(some 3), .move (.t 0), none, 0, 0⟩,
  ⟨(some 4), .eq false .slice (.t 3) (.c (.is [] .nil)), none, 0, 1⟩]
def f10r2 : List AOper := [
  ⟨(some 2), .move (.c (.is [] .nil)), none, 0, 0⟩]
def f10r3 : List AOper := [
  ⟨(some 5), .buildSlice false 2 0 [] [], none, 0, 0⟩,
  ⟨(some 6), .move (.t 0), none, 1, 0⟩,
  ⟨(some 7), .append false 2 16 (.t 5) (.t 6), none, 1, 3⟩,
  ⟨(some 2), .move (.t 7), none, 2, 7⟩]
def f10c : ACode :=
  .seq (.region false f10r0 [0] 0)
  (.seq (.seq (.region false f10r1 [0, 4] 0)
  (.cond (.t 4)
    (.seq (.region false f10r2 [2] 0)
    (.ret))
    (.skip)))
  (.seq (.region false f10r3 [2] 2)
  (.ret)))
def f10 : AFn := ⟨1, 8, [.tmp 2], f10c, 0, none⟩
def f10k : List (Nat × List Nat) := [(0, [0]), (1, [0, 4]), (2, [2]), (3, [2])]
def f10v : List Nat := []

/-! 11: mortise/frame.Moves$1, parameters [27], results [4] -/
def f11r0 : List AOper := [
  ⟨(some 1), .box true (.t 0), none, 0, 0⟩,
  ⟨(some 2), .move (.c (.bool false)), none, 0, 0⟩]
def f11r1 : List AOper := [
  ⟨(some 3), .fieldAddr 0 (.t 1), none, 0, 0⟩,
  ⟨(some 4), .load false 1 (.t 3), none, 0, 1⟩,
  ⟨(some 5), .fieldAddr 1 (.t 1), none, 0, 0⟩,
  ⟨(some 6), .load false 1 (.t 5), none, 0, 4⟩,
  ⟨(some 7), .bin .eql (.t 4) (.t 6), none, 0, 15⟩,
  ⟨(some 2), .move (.t 7), none, 0, 31⟩]
def f11c : ACode :=
  .seq (.region false f11r0 [1] 0)
  (.seq (.region false f11r1 [2] 0)
  (.ret))
def f11 : AFn := ⟨1, 8, [.tmp 2], f11c, 1, none⟩
def f11k : List (Nat × List Nat) := [(0, [1]), (1, [2])]
def f11v : List Nat := [1]

/-! 12: slices.ContainsFunc[[]mortise/api.Move,mortise/api.Move], parameters [22, 34], results [4] -/
def f12r0 : List AOper := [
  ⟨(some 4), .move (.c (.bool false)), none, 0, 0⟩]
def f12r1 : List AOper := [
  ⟨(some 5), .move (.t 0), none, 0, 0⟩,
  ⟨(some 6), .move (.t 1), none, 0, 0⟩,
  ⟨(some 7), .call (.c (.fn 19 [] [])) [(.t 5), (.t 6)], none, 0, 3⟩,
  ⟨(some 8), .bin .geq (.t 7) (.c (.int .i64 0)), none, 0, 7⟩,
  ⟨(some 4), .move (.t 8), none, 0, 15⟩]
def f12c : ACode :=
  .seq (.region false f12r0 [0, 1] 0)
  (.seq (.region false f12r1 [4] 0)
  (.ret))
def f12 : AFn := ⟨2, 9, [.tmp 4], f12c, 1, none⟩
def f12k : List (Nat × List Nat) := [(0, [0, 1]), (1, [4])]
def f12v : List Nat := []

/-! 13: mortise/frame.Moves$2, parameters [27], results [4] -/
def f13r0 : List AOper := [
  ⟨(some 2), .box true (.t 0), none, 0, 0⟩,
  ⟨(some 3), .move (.c (.bool false)), none, 0, 0⟩]
def f13r1 : List AOper := [
  ⟨(some 4), .fieldAddr 1 (.t 2), none, 0, 0⟩,
  ⟨(some 5), .load false 1 (.t 4), none, 0, 1⟩,
  ⟨(some 6), .fieldAddr 0 (.t 1), none, 0, 0⟩,
  ⟨(some 7), .load false 1 (.t 6), none, 0, 4⟩,
  ⟨(some 8), .bin .eql (.t 5) (.t 7), none, 0, 15⟩,
  ⟨(some 3), .move (.t 8), none, 0, 31⟩]
def f13c : ACode :=
  .seq (.region false f13r0 [1, 2] 0)
  (.seq (.region false f13r1 [3] 0)
  (.ret))
def f13 : AFn := ⟨2, 9, [.tmp 3], f13c, 1, none⟩
def f13k : List (Nat × List Nat) := [(0, [1, 2]), (1, [3])]
def f13v : List Nat := [2]

/-! 14: slices.Delete[[]mortise/api.Move,mortise/api.Move], parameters [22, 3, 3], results [22] -/
def f14r0 : List AOper := [
  ⟨(some 6), .move (.c (.is [] .nil)), none, 0, 0⟩]
def f14r1 : List AOper := [
  ⟨(some 8), .move (.t 0), none, 0, 0⟩,
  ⟨(some 9), .move (.t 1), none, 0, 0⟩,
  ⟨(some 10), .move (.t 2), none, 0, 0⟩,
  ⟨(some 11), .move (.t 0), none, 0, 0⟩,
  ⟨(some 12), .len 1 (.t 11), none, 0, 8⟩,
  ⟨(some 13), .slice 2 (.t 8) (some (.t 9)) (some (.t 10)) (some (.t 12)), none, 0, 31⟩]
def f14r2 : List AOper := [
  ⟨(some 14), .move (.t 1), none, 0, 0⟩,
  ⟨(some 15), .move (.t 2), none, 0, 0⟩,
  ⟨(some 16), .bin .eql (.t 14) (.t 15), none, 0, 3⟩]
def f14r3 : List AOper := [
  ⟨(some 17), .move (.t 0), none, 0, 0⟩,
  ⟨(some 6), .move (.t 17), none, 0, 1⟩]
def f14r4 : List AOper := [
  ⟨(some 18), .move (.t 0), none, 0, 0⟩,
  ⟨(some 19), .len 1 (.t 18), none, 0, 1⟩,
  ⟨(some 7), .move (.t 19), none, 0, 3⟩]
def f14q5 : List AOper := [
  ⟨(some 20), .move (.t 0), none, 0, 0⟩,
  ⟨(some 21), .move (.t 1), none, 0, 0⟩,
  ⟨(some 22), .slice 2 (.t 20) none (some (.t 21)) none, none, 0, 3⟩,
  ⟨(some 23), .move (.t 0), none, 0, 0⟩,
  ⟨(some 24), .move (.t 2), none, 0, 0⟩,
  ⟨(some 25), .slice 2 (.t 23) (some (.t 24)) none none, none, 0, 24⟩,
  ⟨(some 26), .append false 2 16 (.t 22) (.t 25), none, 0, 63⟩,
  ⟨(some 0), .move (.t 26), none, 1, 127⟩]
def f14r5 : List AOper := f14q5
def f14r6 : List AOper := [
  ⟨(some 27), .move (.t 0), none, 0, 0⟩,
  ⟨(some 28), .move (.t 0), none, 0, 0⟩,
  ⟨(some 29), .len 1 (.t 28), none, 0, 2⟩,
  ⟨(some 30), .move (.t 7), none, 0, 0⟩,
  ⟨(some 31), .slice 2 (.t 27) (some (.t 29)) (some (.t 30)) none, none, 0, 15⟩,
  ⟨none, .clear 2 [(.int .i64 0), (.int .i64 0)] (.t 31), none, 0, 31⟩]
def f14r7 : List AOper := [
  ⟨(some 32), .move (.t 0), none, 0, 0⟩,
  ⟨(some 6), .move (.t 32), none, 0, 1⟩]
theorem f14r5_s : staticOK 0 f14r5 = true := by rfl
theorem f14r5_w {A : Tab} {nt : Nat} {keep : List Nat} {n : Nat} {e : Env} {h : Heap} (hr : (bkeep keep (stepsF nt (stepF A true) h.length f14r5 e (h ++ List.replicate n .free))).isSome = true) : Brun A nt (.region true f14r5 keep n) e h = bkeep keep (stepsF nt (stepF A true) h.length f14r5 e (h ++ List.replicate n .free)) := Brun_drawnS f14r5_s hr
theorem f14r5_u (nt base : Nat) (step : Nat → AOp → Env → Heap → Option (AV × Heap)) (e : Env) (h : Heap) : stepsF nt step base f14r5 e h = stepsF nt step base f14q5 e h := rfl
def f14c : ACode :=
  .seq (.region false f14r0 [0, 1, 2] 0)
  (.seq (.region false f14r1 [0, 1, 2] 0)
  (.seq (.seq (.region false f14r2 [0, 1, 2, 16] 0)
  (.cond (.t 16)
    (.seq (.region false f14r3 [6] 0)
    (.ret))
    (.skip)))
  (.seq (.region false f14r4 [0, 1, 2, 7] 0)
  (.seq (.region true f14r5 [0, 7] 1)
  (.seq (.region false f14r6 [0] 0)
  (.seq (.region false f14r7 [6] 0)
  (.ret)))))))
def f14 : AFn := ⟨3, 33, [.tmp 6], f14c, 1, none⟩
def f14k : List (Nat × List Nat) := [(0, [0, 1, 2]), (1, [0, 1, 2]), (2, [0, 1, 2, 16]), (3, [6]), (4, [0, 1, 2, 7]), (5, [0, 7]), (6, [0]), (7, [6])]
def f14v : List Nat := []

/-! 15: mortise/mortiseref23.register, parameters [3], results [4] -/
def f15r0 : List AOper := [
  ⟨(some 2), .move (.c (.bool false)), none, 0, 0⟩]
def f15r1 : List AOper := [
  ⟨(some 3), .move (.t 0), none, 0, 0⟩,
  ⟨(some 4), .bin .geq (.t 3) (.c (.int .i64 0)), none, 0, 1⟩,
  ⟨(some 5), .move (.t 4), none, 0, 3⟩,
  ⟨(some 6), .move (.t 0), (some (5, true)), 0, 7⟩,
  ⟨(some 7), .bin .leq (.t 6) (.c (.int .i64 15)), (some (5, true)), 0, 15⟩,
  ⟨(some 8), .pick (.t 5) (.t 7) (.c (.bool false)), none, 0, 31⟩,
  ⟨(some 2), .move (.t 8), none, 0, 63⟩]
def f15c : ACode :=
  .seq (.region false f15r0 [0] 0)
  (.seq (.region false f15r1 [2] 0)
  (.ret))
def f15 : AFn := ⟨1, 9, [.tmp 2], f15c, 1, none⟩
def f15k : List (Nat × List Nat) := [(0, [0]), (1, [2])]
def f15v : List Nat := []

/-! 16: mortise/frame.Of, parameters [48], results [40, 23] -/
def f16r0 : List AOper := [
  ⟨(some 1), .box true (.t 0), none, 0, 0⟩,
  ⟨(some 2), .alloc false [(.is [] .nil), (.int .i64 0), (.int .i64 0), (.int .i64 0)], none, 0, 0⟩,
  ⟨(some 3), .move (.c (.int .i64 0)), none, 1, 0⟩]
def f16r1 : List AOper := [
  ⟨(some 9), .fieldAddr 4 (.t 1), none, 0, 0⟩,
  ⟨(some 10), .load false 1 (.t 9), none, 0, 1⟩,
  ⟨(some 11), .len 1 (.t 10), none, 0, 3⟩,
  ⟨(some 12), .bin .gtr (.t 11) (.c (.int .i64 256)), none, 0, 7⟩,
  ⟨(some 13), .move (.t 12), none, 0, 15⟩,
  ⟨(some 14), .fieldAddr 2 (.t 1), (some (13, false)), 0, 31⟩,
  ⟨(some 15), .load false 1 (.t 14), (some (13, false)), 0, 63⟩,
  ⟨(some 16), .bin .lss (.t 15) (.c (.int .i64 0)), (some (13, false)), 0, 127⟩,
  ⟨(some 17), .pick (.t 13) (.c (.bool true)) (.t 16), none, 0, 255⟩,
  ⟨(some 18), .move (.t 17), none, 0, 511⟩,
  ⟨(some 19), .fieldAddr 2 (.t 1), (some (18, false)), 0, 1023⟩,
  ⟨(some 20), .load false 1 (.t 19), (some (18, false)), 0, 2047⟩,
  ⟨(some 21), .bin .gtr (.t 20) (.c (.int .i64 10)), (some (18, false)), 0, 4095⟩,
  ⟨(some 22), .pick (.t 18) (.c (.bool true)) (.t 21), none, 0, 8191⟩]
def f16r2 : List AOper := [
  ⟨(some 23), .build [(.is [] .nil), (.int .i64 0), (.int .i64 0), (.int .i64 0)] [], none, 0, 0⟩,
  ⟨none, .store 4 (.t 2) (.t 23), none, 0, 1⟩,
  ⟨(some 3), .move (.c (.int .i64 250)), none, 0, 3⟩]
def f16r3 : List AOper := [
  ⟨(some 4), .alloc false [(.is [] .nil), (.int .i64 0), (.int .i64 0), (.int .i64 0)], none, 0, 0⟩]
def f16r4 : List AOper := [
  ⟨(some 5), .alloc false [(.int .i64 0)], none, 0, 0⟩,
  ⟨none, .store 1 (.t 5) (.c (.int .i64 0)), none, 1, 1⟩]
def f16r5 : List AOper := [
  ⟨(some 24), .fn 20 [] [(.t 5)], none, 0, 0⟩,
  ⟨(some 6), .move (.t 24), none, 0, 1⟩]
def f16r6 : List AOper := [
  ⟨(some 25), .fieldAddr 4 (.t 1), none, 0, 0⟩,
  ⟨(some 26), .load false 1 (.t 25), none, 0, 1⟩,
  ⟨(some 27), .len 1 (.t 26), none, 0, 3⟩,
  ⟨(some 28), .move (.c (.int .i64 0)), none, 0, 0⟩]
def f16r7 : List AOper := [
  ⟨(some 29), .bin .lss (.t 28) (.t 27), none, 0, 0⟩]
def f16r8 : List AOper := [
  ⟨(some 30), .idxAddr 2 (.t 26) (.t 28), none, 0, 0⟩,
  ⟨(some 31), .load true 2 (.t 30), none, 0, 1⟩,
  ⟨(some 8), .alloc false [(.int .i64 0), (.int .i64 0)], none, 0, 0⟩,
  ⟨none, .store 2 (.t 8) (.t 31), none, 1, 7⟩]
def f16r9 : List AOper := [
  ⟨(some 32), .load true 2 (.t 8), none, 0, 0⟩,
  ⟨(some 33), .call (.c (.fn 22 [] [])) [(.t 32)], none, 0, 1⟩,
  ⟨(some 34), .un .not (.t 33), none, 0, 3⟩]
def f16r10 : List AOper := [
  ⟨(some 35), .build [(.is [] .nil), (.int .i64 0), (.int .i64 0), (.int .i64 0)] [], none, 0, 0⟩,
  ⟨none, .store 4 (.t 2) (.t 35), none, 0, 1⟩,
  ⟨(some 3), .move (.c (.int .i64 250)), none, 0, 3⟩]
def f16r11 : List AOper := [
  ⟨(some 36), .fieldAddr 0 (.t 4), none, 0, 0⟩,
  ⟨(some 37), .load false 1 (.t 36), none, 0, 1⟩,
  ⟨(some 38), .move (.t 6), none, 0, 0⟩,
  ⟨(some 39), .fieldAddr 0 (.t 8), none, 0, 0⟩,
  ⟨(some 40), .load false 1 (.t 39), none, 0, 8⟩,
  ⟨(some 41), .fieldAddr 1 (.t 8), none, 0, 0⟩,
  ⟨(some 42), .load false 1 (.t 41), none, 0, 32⟩,
  ⟨(some 43), .call (.t 38) [(.t 40), (.t 42)], none, 0, 124⟩,
  ⟨(some 44), .buildSlice false 1 1 [(.int .i64 0)] [(0, 1, (.t 43))], none, 0, 252⟩,
  ⟨(some 45), .append false 1 8 (.t 37) (.t 44), none, 1, 511⟩,
  ⟨(some 46), .fieldAddr 0 (.t 4), none, 2, 1023⟩,
  ⟨none, .store 1 (.t 46) (.t 45), none, 2, 2047⟩]
def f16r12 : List AOper := [
  ⟨(some 47), .bin .add (.t 28) (.c (.int .i64 1)), none, 0, 0⟩,
  ⟨(some 28), .move (.t 47), none, 0, 1⟩]
def f16m7 : ACode :=
  .seq (.region false f16r7 [1, 2, 4, 5, 6, 26, 27, 28, 29] 0)
  (.seq (.cond (.t 29)
    (.skip)
    (.exit 0))
  (.seq (.block 1 (.seq (.region false f16r8 [1, 2, 4, 5, 6, 8, 26, 27, 28] 1)
    (.seq (.seq (.region false f16r9 [1, 2, 4, 5, 6, 8, 26, 27, 28, 34] 0)
    (.cond (.t 34)
      (.seq (.region false f16r10 [2, 3] 0)
      (.ret))
      (.skip)))
    (.region true f16r11 [1, 2, 4, 5, 6, 26, 27, 28] 2))))
  (.region false f16r12 [1, 2, 4, 5, 6, 26, 27, 28] 0)))
def f16l7 : ACode := f16m7
theorem f16l7_b {A : Tab} {nt : Nat} {e : Env} {h : Heap} : Brun A nt f16l7 e h = Brun A nt f16m7 e h := rfl
def f16r13 : List AOper := [
  ⟨(some 48), .move (.t 6), none, 0, 0⟩,
  ⟨(some 49), .fieldAddr 2 (.t 1), none, 0, 0⟩,
  ⟨(some 50), .load false 1 (.t 49), none, 0, 2⟩,
  ⟨(some 51), .bin .mul (.c (.int .i64 4)) (.t 50), none, 0, 6⟩,
  ⟨(some 52), .call (.t 48) [(.t 51), (.c (.int .i64 4))], none, 0, 15⟩,
  ⟨(some 53), .fieldAddr 1 (.t 4), none, 0, 31⟩,
  ⟨none, .store 1 (.t 53) (.t 52), none, 0, 63⟩]
def f16r14 : List AOper := [
  ⟨(some 54), .move (.t 6), none, 0, 0⟩,
  ⟨(some 55), .call (.t 54) [(.c (.int .i64 4)), (.c (.int .i64 4))], none, 0, 1⟩,
  ⟨(some 56), .fieldAddr 2 (.t 4), none, 0, 3⟩,
  ⟨none, .store 1 (.t 56) (.t 55), none, 0, 7⟩]
def f16r15 : List AOper := [
  ⟨(some 57), .load false 1 (.t 5), none, 0, 0⟩,
  ⟨(some 58), .call (.c (.fn 21 [] [])) [(.t 57), (.c (.int .i64 8))], none, 0, 1⟩,
  ⟨(some 59), .fieldAddr 3 (.t 4), none, 0, 3⟩,
  ⟨none, .store 1 (.t 59) (.t 58), none, 0, 7⟩]
def f16r16 : List AOper := [
  ⟨(some 60), .fieldAddr 3 (.t 4), none, 0, 0⟩,
  ⟨(some 61), .load false 1 (.t 60), none, 0, 1⟩,
  ⟨(some 62), .bin .gtr (.t 61) (.c (.int .i64 65536)), none, 0, 3⟩]
def f16r17 : List AOper := [
  ⟨(some 63), .build [(.is [] .nil), (.int .i64 0), (.int .i64 0), (.int .i64 0)] [], none, 0, 0⟩,
  ⟨none, .store 4 (.t 2) (.t 63), none, 0, 1⟩,
  ⟨(some 3), .move (.c (.int .i64 250)), none, 0, 3⟩]
def f16r18 : List AOper := [
  ⟨(some 64), .load true 4 (.t 4), none, 0, 0⟩,
  ⟨none, .store 4 (.t 2) (.t 64), none, 0, 1⟩,
  ⟨(some 3), .move (.c (.int .i64 0)), none, 0, 3⟩]
def f16c : ACode :=
  .seq (.region false f16r0 [1, 2] 1)
  (.seq (.seq (.region false f16r1 [1, 2, 22] 0)
  (.cond (.t 22)
    (.seq (.region false f16r2 [2, 3] 0)
    (.ret))
    (.skip)))
  (.seq (.region false f16r3 [1, 2, 4] 1)
  (.seq (.region false f16r4 [1, 2, 4, 5] 1)
  (.seq (.region false f16r5 [1, 2, 4, 5, 6] 0)
  (.seq (.seq (.region false f16r6 [1, 2, 4, 5, 6, 26, 27, 28] 0)
  (.block 0 (.loop f16l7)))
  (.seq (.region false f16r13 [2, 4, 5, 6] 0)
  (.seq (.region false f16r14 [2, 4, 5] 0)
  (.seq (.seq (.region false f16r15 [2, 4] 0)
  (.seq (.region false f16r16 [2, 4, 62] 0)
  (.cond (.t 62)
    (.seq (.region false f16r17 [2, 3] 0)
    (.ret))
    (.skip))))
  (.seq (.region false f16r18 [2, 3] 0)
  (.ret))))))))))
def f16 : AFn := ⟨1, 65, [.cell 2 true 4, .tmp 3], f16c, 1, none⟩
def f16k : List (Nat × List Nat) := [(0, [1, 2]), (1, [1, 2, 22]), (2, [2, 3]), (3, [1, 2, 4]), (4, [1, 2, 4, 5]), (5, [1, 2, 4, 5, 6]), (6, [1, 2, 4, 5, 6, 26, 27, 28]), (7, [1, 2, 4, 5, 6, 26, 27, 28, 29]), (8, [1, 2, 4, 5, 6, 8, 26, 27, 28]), (9, [1, 2, 4, 5, 6, 8, 26, 27, 28, 34]), (10, [2, 3]), (11, [1, 2, 4, 5, 6, 26, 27, 28]), (12, [1, 2, 4, 5, 6, 26, 27, 28]), (13, [2, 4, 5, 6]), (14, [2, 4, 5]), (15, [2, 4]), (16, [2, 4, 62]), (17, [2, 3]), (18, [2, 3])]
def f16v : List Nat := [1]

/-! 17: mortise/mortiseref23.Same, parameters [40, 40], results [4] -/
def f17r0 : List AOper := [
  ⟨(some 2), .box true (.t 0), none, 0, 0⟩,
  ⟨(some 3), .box true (.t 1), none, 0, 0⟩,
  ⟨(some 4), .move (.c (.bool false)), none, 0, 0⟩]
def f17r1 : List AOper := [
  ⟨(some 5), .fieldAddr 0 (.t 2), none, 0, 0⟩,
  ⟨(some 6), .load false 1 (.t 5), none, 0, 1⟩,
  ⟨(some 7), .fieldAddr 0 (.t 3), none, 0, 0⟩,
  ⟨(some 8), .load false 1 (.t 7), none, 0, 4⟩,
  ⟨(some 9), .call (.c (.fn 23 [] [])) [(.t 6), (.t 8)], none, 0, 15⟩,
  ⟨(some 10), .move (.t 9), none, 0, 31⟩,
  ⟨(some 11), .fieldAddr 1 (.t 2), (some (10, true)), 0, 63⟩,
  ⟨(some 12), .load false 1 (.t 11), (some (10, true)), 0, 127⟩,
  ⟨(some 13), .fieldAddr 1 (.t 3), (some (10, true)), 0, 63⟩,
  ⟨(some 14), .load false 1 (.t 13), (some (10, true)), 0, 319⟩,
  ⟨(some 15), .bin .eql (.t 12) (.t 14), (some (10, true)), 0, 1023⟩,
  ⟨(some 16), .pick (.t 10) (.t 15) (.c (.bool false)), none, 0, 2047⟩,
  ⟨(some 17), .move (.t 16), none, 0, 4095⟩,
  ⟨(some 18), .fieldAddr 2 (.t 2), (some (17, true)), 0, 8191⟩,
  ⟨(some 19), .load false 1 (.t 18), (some (17, true)), 0, 16383⟩,
  ⟨(some 20), .fieldAddr 2 (.t 3), (some (17, true)), 0, 8191⟩,
  ⟨(some 21), .load false 1 (.t 20), (some (17, true)), 0, 40959⟩,
  ⟨(some 22), .bin .eql (.t 19) (.t 21), (some (17, true)), 0, 131071⟩,
  ⟨(some 23), .pick (.t 17) (.t 22) (.c (.bool false)), none, 0, 262143⟩,
  ⟨(some 24), .move (.t 23), none, 0, 524287⟩,
  ⟨(some 25), .fieldAddr 3 (.t 2), (some (24, true)), 0, 1048575⟩,
  ⟨(some 26), .load false 1 (.t 25), (some (24, true)), 0, 2097151⟩,
  ⟨(some 27), .fieldAddr 3 (.t 3), (some (24, true)), 0, 1048575⟩,
  ⟨(some 28), .load false 1 (.t 27), (some (24, true)), 0, 5242879⟩,
  ⟨(some 29), .bin .eql (.t 26) (.t 28), (some (24, true)), 0, 16777215⟩,
  ⟨(some 30), .pick (.t 24) (.t 29) (.c (.bool false)), none, 0, 33554431⟩,
  ⟨(some 4), .move (.t 30), none, 0, 67108863⟩]
def f17c : ACode :=
  .seq (.region false f17r0 [2, 3] 0)
  (.seq (.region false f17r1 [4] 0)
  (.ret))
def f17 : AFn := ⟨2, 31, [.tmp 4], f17c, 1, none⟩
def f17k : List (Nat × List Nat) := [(0, [2, 3]), (1, [4])]
def f17v : List Nat := [3, 2]

/-! 18: mortise/frame.register, parameters [3], results [4] -/
def f18r0 : List AOper := [
  ⟨(some 2), .move (.c (.bool false)), none, 0, 0⟩]
def f18r1 : List AOper := [
  ⟨(some 3), .move (.t 0), none, 0, 0⟩,
  ⟨(some 4), .bin .geq (.t 3) (.c (.int .i64 0)), none, 0, 1⟩,
  ⟨(some 5), .move (.t 4), none, 0, 3⟩,
  ⟨(some 6), .move (.t 0), (some (5, true)), 0, 7⟩,
  ⟨(some 7), .bin .leq (.t 6) (.c (.int .i64 15)), (some (5, true)), 0, 15⟩,
  ⟨(some 8), .pick (.t 5) (.t 7) (.c (.bool false)), none, 0, 31⟩,
  ⟨(some 2), .move (.t 8), none, 0, 63⟩]
def f18c : ACode :=
  .seq (.region false f18r0 [0] 0)
  (.seq (.region false f18r1 [2] 0)
  (.ret))
def f18 : AFn := ⟨1, 9, [.tmp 2], f18c, 1, none⟩
def f18k : List (Nat × List Nat) := [(0, [0]), (1, [2])]
def f18v : List Nat := []

/-! 19: slices.IndexFunc[[]mortise/api.Move,mortise/api.Move], parameters [22, 34], results [3] -/
def f19r0 : List AOper := [
  ⟨(some 4), .move (.c (.int .i64 0)), none, 0, 0⟩]
def f19r1 : List AOper := [
  ⟨(some 6), .move (.t 0), none, 0, 0⟩,
  ⟨(some 7), .len 1 (.t 6), none, 0, 1⟩,
  ⟨(some 8), .move (.c (.int .i64 0)), none, 0, 0⟩]
def f19r2 : List AOper := [
  ⟨(some 9), .bin .lss (.t 8) (.t 7), none, 0, 0⟩]
def f19r3 : List AOper := [
  ⟨(some 10), .move (.t 8), none, 0, 0⟩,
  ⟨(some 5), .move (.t 10), none, 0, 1⟩]
def f19r4 : List AOper := [
  ⟨(some 11), .move (.t 1), none, 0, 0⟩,
  ⟨(some 12), .move (.t 0), none, 0, 0⟩,
  ⟨(some 13), .move (.t 5), none, 0, 0⟩,
  ⟨(some 14), .idxAddr 2 (.t 12) (.t 13), none, 0, 6⟩,
  ⟨(some 15), .load true 2 (.t 14), none, 0, 14⟩,
  ⟨(some 16), .call (.t 11) [(.t 15)], none, 0, 31⟩]
def f19r5 : List AOper := [
  ⟨(some 17), .move (.t 5), none, 0, 0⟩,
  ⟨(some 4), .move (.t 17), none, 0, 1⟩]
def f19r6 : List AOper := [
  ⟨(some 18), .bin .add (.t 8) (.c (.int .i64 1)), none, 0, 0⟩,
  ⟨(some 8), .move (.t 18), none, 0, 1⟩]
def f19m2 : ACode :=
  .seq (.region false f19r2 [0, 1, 7, 8, 9] 0)
  (.seq (.cond (.t 9)
    (.skip)
    (.exit 0))
  (.seq (.block 1 (.seq (.region false f19r3 [0, 1, 5, 7, 8] 0)
    (.seq (.region false f19r4 [0, 1, 5, 7, 8, 16] 0)
    (.cond (.t 16)
      (.seq (.region false f19r5 [4] 0)
      (.ret))
      (.skip)))))
  (.region false f19r6 [0, 1, 7, 8] 0)))
def f19l2 : ACode := f19m2
theorem f19l2_b {A : Tab} {nt : Nat} {e : Env} {h : Heap} : Brun A nt f19l2 e h = Brun A nt f19m2 e h := rfl
def f19r7 : List AOper := [
  ⟨(some 4), .move (.c (.int .i64 (-1))), none, 0, 0⟩]
def f19c : ACode :=
  .seq (.region false f19r0 [0, 1] 0)
  (.seq (.seq (.region false f19r1 [0, 1, 7, 8] 0)
  (.block 0 (.loop f19l2)))
  (.seq (.region false f19r7 [4] 0)
  (.ret)))
def f19 : AFn := ⟨2, 19, [.tmp 4], f19c, 1, none⟩
def f19k : List (Nat × List Nat) := [(0, [0, 1]), (1, [0, 1, 7, 8]), (2, [0, 1, 7, 8, 9]), (3, [0, 1, 5, 7, 8]), (4, [0, 1, 5, 7, 8, 16]), (5, [4]), (6, [0, 1, 7, 8]), (7, [4])]
def f19v : List Nat := []

/-! 20: mortise/frame.Of$1, parameters [3, 3], results [3] -/
def f20r0 : List AOper := [
  ⟨(some 5), .move (.c (.int .i64 0)), none, 0, 0⟩]
def f20r1 : List AOper := [
  ⟨(some 7), .load false 1 (.t 2), none, 0, 0⟩,
  ⟨(some 8), .move (.t 1), none, 0, 0⟩,
  ⟨(some 9), .call (.c (.fn 21 [] [])) [(.t 7), (.t 8)], none, 0, 3⟩,
  ⟨(some 6), .move (.t 9), none, 0, 7⟩]
def f20r2 : List AOper := [
  ⟨(some 10), .move (.t 6), none, 0, 0⟩,
  ⟨(some 11), .move (.t 0), none, 0, 0⟩,
  ⟨(some 12), .bin .add (.t 10) (.t 11), none, 0, 3⟩,
  ⟨none, .store 1 (.t 2) (.t 12), none, 0, 7⟩]
def f20r3 : List AOper := [
  ⟨(some 13), .move (.t 6), none, 0, 0⟩,
  ⟨(some 5), .move (.t 13), none, 0, 1⟩]
def f20c : ACode :=
  .seq (.region false f20r0 [0, 1, 2] 0)
  (.seq (.region false f20r1 [0, 2, 6] 0)
  (.seq (.region false f20r2 [6] 0)
  (.seq (.region false f20r3 [5] 0)
  (.ret))))
def f20 : AFn := ⟨3, 14, [.tmp 5], f20c, 1, none⟩
def f20k : List (Nat × List Nat) := [(0, [0, 1, 2]), (1, [0, 2, 6]), (2, [6]), (3, [5])]
def f20v : List Nat := []

/-! 21: mortise/frame.up, parameters [3, 3], results [3] -/
def f21r0 : List AOper := [
  ⟨(some 4), .move (.c (.int .i64 0)), none, 0, 0⟩]
def f21r1 : List AOper := [
  ⟨(some 5), .move (.t 0), none, 0, 0⟩,
  ⟨(some 6), .move (.t 1), none, 0, 0⟩,
  ⟨(some 7), .bin .add (.t 5) (.t 6), none, 0, 3⟩,
  ⟨(some 8), .bin .sub (.t 7) (.c (.int .i64 1)), none, 0, 7⟩,
  ⟨(some 9), .move (.t 1), none, 0, 0⟩,
  ⟨(some 10), .bin .quo (.t 8) (.t 9), none, 0, 31⟩,
  ⟨(some 11), .move (.t 1), none, 0, 0⟩,
  ⟨(some 12), .bin .mul (.t 10) (.t 11), none, 0, 127⟩,
  ⟨(some 4), .move (.t 12), none, 0, 255⟩]
def f21c : ACode :=
  .seq (.region false f21r0 [0, 1] 0)
  (.seq (.region false f21r1 [4] 0)
  (.ret))
def f21 : AFn := ⟨2, 13, [.tmp 4], f21c, 1, none⟩
def f21k : List (Nat × List Nat) := [(0, [0, 1]), (1, [4])]
def f21v : List Nat := []

/-! 22: mortise/frame.fits, parameters [44], results [4] -/
def f22r0 : List AOper := [
  ⟨(some 1), .box true (.t 0), none, 0, 0⟩,
  ⟨(some 2), .move (.c (.bool false)), none, 0, 0⟩]
def f22r1 : List AOper := [
  ⟨(some 3), .fieldAddr 0 (.t 1), none, 0, 0⟩,
  ⟨(some 4), .load false 1 (.t 3), none, 0, 1⟩,
  ⟨(some 5), .bin .geq (.t 4) (.c (.int .i64 1)), none, 0, 3⟩,
  ⟨(some 6), .move (.t 5), none, 0, 7⟩,
  ⟨(some 7), .fieldAddr 0 (.t 1), (some (6, true)), 0, 15⟩,
  ⟨(some 8), .load false 1 (.t 7), (some (6, true)), 0, 31⟩,
  ⟨(some 9), .bin .leq (.t 8) (.c (.int .i64 16384)), (some (6, true)), 0, 63⟩,
  ⟨(some 10), .pick (.t 6) (.t 9) (.c (.bool false)), none, 0, 127⟩,
  ⟨(some 11), .move (.t 10), none, 0, 255⟩,
  ⟨(some 12), .fieldAddr 1 (.t 1), (some (11, true)), 0, 511⟩,
  ⟨(some 13), .load false 1 (.t 12), (some (11, true)), 0, 1023⟩,
  ⟨(some 14), .bin .eql (.t 13) (.c (.int .i64 1)), (some (11, true)), 0, 2047⟩,
  ⟨(some 15), .move (.t 14), (some (11, true)), 0, 4095⟩,
  ⟨(some 16), .fieldAddr 1 (.t 1), (some (15, false)), 0, 8191⟩,
  ⟨(some 17), .load false 1 (.t 16), (some (15, false)), 0, 16383⟩,
  ⟨(some 18), .bin .eql (.t 17) (.c (.int .i64 2)), (some (15, false)), 0, 32767⟩,
  ⟨(some 19), .pick (.t 15) (.c (.bool true)) (.t 18), (some (11, true)), 0, 65535⟩,
  ⟨(some 20), .move (.t 19), (some (11, true)), 0, 131071⟩,
  ⟨(some 21), .fieldAddr 1 (.t 1), (some (20, false)), 0, 262143⟩,
  ⟨(some 22), .load false 1 (.t 21), (some (20, false)), 0, 524287⟩,
  ⟨(some 23), .bin .eql (.t 22) (.c (.int .i64 4)), (some (20, false)), 0, 1048575⟩,
  ⟨(some 24), .pick (.t 20) (.c (.bool true)) (.t 23), (some (11, true)), 0, 2097151⟩,
  ⟨(some 25), .pick (.t 11) (.t 24) (.c (.bool false)), none, 0, 4194303⟩,
  ⟨(some 2), .move (.t 25), none, 0, 8388607⟩]
def f22c : ACode :=
  .seq (.region false f22r0 [1] 0)
  (.seq (.region false f22r1 [2] 0)
  (.ret))
def f22 : AFn := ⟨1, 26, [.tmp 2], f22c, 1, none⟩
def f22k : List (Nat × List Nat) := [(0, [1]), (1, [2])]
def f22v : List Nat := [1]

/-! 23: mortise/mortiseref01.Ints, parameters [38, 38], results [4] -/
def f23r0 : List AOper := [
  ⟨(some 4), .move (.c (.bool false)), none, 0, 0⟩]
def f23r1 : List AOper := [
  ⟨(some 6), .move (.t 0), none, 0, 0⟩,
  ⟨(some 7), .len 1 (.t 6), none, 0, 1⟩,
  ⟨(some 8), .move (.t 1), none, 0, 0⟩,
  ⟨(some 9), .len 1 (.t 8), none, 0, 4⟩,
  ⟨(some 10), .bin .neq (.t 7) (.t 9), none, 0, 15⟩]
def f23r2 : List AOper := [
  ⟨(some 4), .move (.c (.bool false)), none, 0, 0⟩]
def f23r3 : List AOper := [
  ⟨(some 5), .move (.c (.int .i64 0)), none, 0, 0⟩]
def f23r4 : List AOper := [
  ⟨(some 11), .move (.t 5), none, 0, 0⟩,
  ⟨(some 12), .move (.t 0), none, 0, 0⟩,
  ⟨(some 13), .len 1 (.t 12), none, 0, 2⟩,
  ⟨(some 14), .bin .lss (.t 11) (.t 13), none, 0, 7⟩]
def f23q5 : List AOper := [
  ⟨(some 17), .move (.t 0), none, 0, 0⟩,
  ⟨(some 18), .move (.t 5), none, 0, 0⟩,
  ⟨(some 19), .idxAddr 1 (.t 17) (.t 18), none, 0, 3⟩,
  ⟨(some 20), .load false 1 (.t 19), none, 0, 7⟩,
  ⟨(some 21), .move (.t 1), none, 0, 0⟩,
  ⟨(some 22), .move (.t 5), none, 0, 0⟩,
  ⟨(some 23), .idxAddr 1 (.t 21) (.t 22), none, 0, 48⟩,
  ⟨(some 24), .load false 1 (.t 23), none, 0, 112⟩,
  ⟨(some 25), .bin .neq (.t 20) (.t 24), none, 0, 255⟩]
def f23r5 : List AOper := f23q5
def f23r6 : List AOper := [
  ⟨(some 4), .move (.c (.bool false)), none, 0, 0⟩]
def f23r7 : List AOper := [
  ⟨(some 15), .move (.t 5), none, 0, 0⟩,
  ⟨(some 16), .bin .add (.t 15) (.c (.int .i64 1)), none, 0, 1⟩,
  ⟨(some 5), .move (.t 16), none, 0, 3⟩]
def f23m4 : ACode :=
  .seq (.seq (.region false f23r4 [0, 1, 5, 14] 0)
  (.cond (.t 14)
    (.skip)
    (.exit 0)))
  (.seq (.block 1 (.seq (.region true f23r5 [0, 1, 5, 25] 0)
    (.cond (.t 25)
      (.seq (.region false f23r6 [4] 0)
      (.ret))
      (.skip))))
  (.region false f23r7 [0, 1, 5] 0))
def f23l4 : ACode := f23m4
theorem f23l4_b {A : Tab} {nt : Nat} {e : Env} {h : Heap} : Brun A nt f23l4 e h = Brun A nt f23m4 e h := rfl
def f23r8 : List AOper := [
  ⟨(some 4), .move (.c (.bool true)), none, 0, 0⟩]
theorem f23r5_s : staticOK 0 f23r5 = true := by rfl
theorem f23r5_w {A : Tab} {nt : Nat} {keep : List Nat} {n : Nat} {e : Env} {h : Heap} (hr : (bkeep keep (stepsF nt (stepF A true) h.length f23r5 e (h ++ List.replicate n .free))).isSome = true) : Brun A nt (.region true f23r5 keep n) e h = bkeep keep (stepsF nt (stepF A true) h.length f23r5 e (h ++ List.replicate n .free)) := Brun_drawnS f23r5_s hr
theorem f23r5_u (nt base : Nat) (step : Nat → AOp → Env → Heap → Option (AV × Heap)) (e : Env) (h : Heap) : stepsF nt step base f23r5 e h = stepsF nt step base f23q5 e h := rfl
def f23c : ACode :=
  .seq (.region false f23r0 [0, 1] 0)
  (.seq (.seq (.region false f23r1 [0, 1, 10] 0)
  (.cond (.t 10)
    (.seq (.region false f23r2 [4] 0)
    (.ret))
    (.skip)))
  (.seq (.seq (.region false f23r3 [0, 1, 5] 0)
  (.block 0 (.loop f23l4)))
  (.seq (.region false f23r8 [4] 0)
  (.ret))))
def f23 : AFn := ⟨2, 26, [.tmp 4], f23c, 1, none⟩
def f23k : List (Nat × List Nat) := [(0, [0, 1]), (1, [0, 1, 10]), (2, [4]), (3, [0, 1, 5]), (4, [0, 1, 5, 14]), (6, [0, 1, 5, 25]), (7, [4]), (5, [0, 1, 5]), (8, [4])]
def f23v : List Nat := []

end Go.Proofs.Ytfhijkapcdmdnaa
