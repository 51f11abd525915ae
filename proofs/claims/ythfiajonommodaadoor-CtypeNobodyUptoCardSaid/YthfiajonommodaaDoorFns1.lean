/- The seat's functions as the machine's, part 1. Printed by a program. -/
import Derived.Test.YthfiajonommodaaDoorAmV
import Derived.Test.YthfiajonommodaaDoorFns0
namespace Go.Proofs.YthfiajonommodaaDoor
open Go.AM
set_option maxRecDepth 100000
/-! 60: (*mortise/mortiseref03.T).member, parameters [33, 22, 3], results [3] -/
def f60r0 : List AOper := [
  ⟨(some 6), .move (.c (.int .i64 0)), none, 0, 0⟩]
def f60r1 : List AOper := [
  ⟨(some 9), .move (.t 1), none, 0, 0⟩,
  ⟨(some 10), .move (.t 2), none, 0, 0⟩,
  ⟨(some 11), .idxAddr 3 (.t 9) (.t 10), none, 0, 3⟩,
  ⟨(some 12), .load true 3 (.t 11), none, 0, 7⟩,
  ⟨(some 7), .alloc false [(.str []), (.int .i64 0), (.int .i64 0)], none, 0, 0⟩,
  ⟨none, .store 3 (.t 7) (.t 12), none, 1, 31⟩]
def f60r2 : List AOper := [
  ⟨(some 13), .move (.t 0), none, 0, 0⟩,
  ⟨(some 14), .fieldAddr 1 (.t 7), none, 0, 0⟩,
  ⟨(some 15), .load false 1 (.t 14), none, 0, 2⟩,
  ⟨(some 16), .call (.c (.fn 73 [] [])) [(.t 13), (.t 15)], none, 0, 7⟩,
  ⟨(some 17), .un .not (.t 16), none, 0, 15⟩]
def f60r3 : List AOper := [
  ⟨(some 6), .move (.c (.int .i64 30)), none, 0, 0⟩]
def f60r4 : List AOper := [
  ⟨(some 18), .move (.t 0), none, 0, 0⟩,
  ⟨(some 19), .fieldAddr 1 (.t 7), none, 0, 0⟩,
  ⟨(some 20), .load false 1 (.t 19), none, 0, 2⟩,
  ⟨(some 21), .call (.c (.fn 52 [] [])) [(.t 18), (.t 20)], none, 0, 7⟩,
  ⟨(some 22), .un .not (.t 21), none, 0, 15⟩]
def f60r5 : List AOper := [
  ⟨(some 6), .move (.c (.int .i64 50)), none, 0, 0⟩]
def f60r6 : List AOper := [
  ⟨(some 23), .move (.t 0), none, 0, 0⟩,
  ⟨(some 24), .fieldAddr 1 (.t 7), none, 0, 0⟩,
  ⟨(some 25), .load false 1 (.t 24), none, 0, 2⟩,
  ⟨(some 26), .fieldAddr 2 (.t 7), none, 0, 0⟩,
  ⟨(some 27), .load false 1 (.t 26), none, 0, 8⟩,
  ⟨(some 28), .call (.c (.fn 74 [] [])) [(.t 23), (.t 25), (.t 27)], none, 0, 31⟩,
  ⟨(some 29), .un .not (.t 28), none, 0, 63⟩]
def f60r7 : List AOper := [
  ⟨(some 6), .move (.c (.int .i64 52)), none, 0, 0⟩]
def f60r8 : List AOper := [
  ⟨(some 30), .fieldAddr 0 (.t 7), none, 0, 0⟩,
  ⟨(some 31), .load false 1 (.t 30), none, 0, 1⟩,
  ⟨(some 32), .bin .eql (.t 31) (.c (.str [])), none, 0, 3⟩]
def f60r9 : List AOper := [
  ⟨(some 33), .fieldAddr 2 (.t 7), none, 0, 0⟩,
  ⟨(some 34), .load false 1 (.t 33), none, 0, 1⟩,
  ⟨(some 35), .bin .lss (.t 34) (.c (.int .i64 0)), none, 0, 3⟩]
def f60r10 : List AOper := [
  ⟨(some 6), .move (.c (.int .i64 31)), none, 0, 0⟩]
def f60r11 : List AOper := [
  ⟨(some 6), .move (.c (.int .i64 0)), none, 0, 0⟩]
def f60r12 : List AOper := [
  ⟨(some 36), .fieldAddr 0 (.t 7), none, 0, 0⟩,
  ⟨(some 37), .load false 1 (.t 36), none, 0, 1⟩,
  ⟨(some 38), .call (.c (.fn 58 [] [])) [(.t 37)], none, 0, 3⟩,
  ⟨(some 39), .un .not (.t 38), none, 0, 7⟩,
  ⟨(some 40), .move (.t 39), none, 0, 15⟩,
  ⟨(some 41), .fieldAddr 2 (.t 7), (some (40, false)), 0, 31⟩,
  ⟨(some 42), .load false 1 (.t 41), (some (40, false)), 0, 63⟩,
  ⟨(some 43), .bin .eql (.t 42) (.c (.int .i64 0)), (some (40, false)), 0, 127⟩,
  ⟨(some 44), .pick (.t 40) (.c (.bool true)) (.t 43), none, 0, 255⟩]
def f60r13 : List AOper := [
  ⟨(some 6), .move (.c (.int .i64 31)), none, 0, 0⟩]
def f60r14 : List AOper := [
  ⟨(some 8), .move (.c (.int .i64 0)), none, 0, 0⟩]
def f60r15 : List AOper := [
  ⟨(some 45), .move (.t 8), none, 0, 0⟩,
  ⟨(some 46), .move (.t 2), none, 0, 0⟩,
  ⟨(some 47), .bin .lss (.t 45) (.t 46), none, 0, 3⟩]
def f60q16 : List AOper := [
  ⟨(some 50), .move (.t 1), none, 0, 0⟩,
  ⟨(some 51), .move (.t 8), none, 0, 0⟩,
  ⟨(some 52), .idxAddr 3 (.t 50) (.t 51), none, 0, 3⟩,
  ⟨(some 53), .fieldAddr 0 (.t 52), none, 0, 7⟩,
  ⟨(some 54), .load false 1 (.t 53), none, 0, 15⟩,
  ⟨(some 55), .fieldAddr 0 (.t 7), none, 0, 0⟩,
  ⟨(some 56), .load false 1 (.t 55), none, 0, 32⟩,
  ⟨(some 57), .bin .eql (.t 54) (.t 56), none, 0, 127⟩]
def f60r16 : List AOper := f60q16
def f60r17 : List AOper := [
  ⟨(some 6), .move (.c (.int .i64 31)), none, 0, 0⟩]
def f60r18 : List AOper := [
  ⟨(some 48), .move (.t 8), none, 0, 0⟩,
  ⟨(some 49), .bin .add (.t 48) (.c (.int .i64 1)), none, 0, 1⟩,
  ⟨(some 8), .move (.t 49), none, 0, 3⟩]
def f60m15 : ACode :=
  .seq (.seq (.region false f60r15 [1, 2, 7, 8, 47] 0)
  (.cond (.t 47)
    (.skip)
    (.exit 0)))
  (.seq (.block 1 (.seq (.region true f60r16 [1, 2, 7, 8, 57] 0)
    (.cond (.t 57)
      (.seq (.region false f60r17 [6] 0)
      (.ret))
      (.skip))))
  (.region false f60r18 [1, 2, 7, 8] 0))
def f60l15 : ACode := f60m15
theorem f60l15_b {A : Tab} {nt : Nat} {e : Env} {h : Heap} : Brun A nt f60l15 e h = Brun A nt f60m15 e h := rfl
def f60r19 : List AOper := [
  ⟨(some 6), .move (.c (.int .i64 0)), none, 0, 0⟩]
theorem f60r16_s : staticOK 0 f60r16 = true := by rfl
theorem f60r16_w {A : Tab} {nt : Nat} {keep : List Nat} {n : Nat} {e : Env} {h : Heap} (hr : (bkeep keep (stepsF nt (stepF A true) h.length f60r16 e (h ++ List.replicate n .free))).isSome = true) : Brun A nt (.region true f60r16 keep n) e h = bkeep keep (stepsF nt (stepF A true) h.length f60r16 e (h ++ List.replicate n .free)) := Brun_drawnS f60r16_s hr
theorem f60r16_u (nt base : Nat) (step : Nat → AOp → Env → Heap → Option (AV × Heap)) (e : Env) (h : Heap) : stepsF nt step base f60r16 e h = stepsF nt step base f60q16 e h := rfl
def f60c : ACode :=
  .seq (.region false f60r0 [0, 1, 2] 0)
  (.seq (.region false f60r1 [0, 1, 2, 7] 1)
  (.seq (.seq (.region false f60r2 [0, 1, 2, 7, 17] 0)
  (.cond (.t 17)
    (.seq (.region false f60r3 [6] 0)
    (.ret))
    (.skip)))
  (.seq (.seq (.region false f60r4 [0, 1, 2, 7, 22] 0)
  (.cond (.t 22)
    (.seq (.region false f60r5 [6] 0)
    (.ret))
    (.skip)))
  (.seq (.seq (.region false f60r6 [1, 2, 7, 29] 0)
  (.cond (.t 29)
    (.seq (.region false f60r7 [6] 0)
    (.ret))
    (.skip)))
  (.seq (.seq (.region false f60r8 [1, 2, 7, 32] 0)
  (.cond (.t 32)
    (.seq (.seq (.region false f60r9 [35] 0)
    (.cond (.t 35)
      (.seq (.region false f60r10 [6] 0)
      (.ret))
      (.skip)))
    (.seq (.region false f60r11 [6] 0)
    (.ret)))
    (.skip)))
  (.seq (.seq (.region false f60r12 [1, 2, 7, 44] 0)
  (.cond (.t 44)
    (.seq (.region false f60r13 [6] 0)
    (.ret))
    (.skip)))
  (.seq (.seq (.region false f60r14 [1, 2, 7, 8] 0)
  (.block 0 (.loop f60l15)))
  (.seq (.region false f60r19 [6] 0)
  (.ret)))))))))
def f60 : AFn := ⟨3, 58, [.tmp 6], f60c, 1, none⟩
def f60k : List (Nat × List Nat) := [(0, [0, 1, 2]), (1, [0, 1, 2, 7]), (2, [0, 1, 2, 7, 17]), (3, [6]), (4, [0, 1, 2, 7, 22]), (5, [6]), (6, [1, 2, 7, 29]), (7, [6]), (8, [1, 2, 7, 32]), (9, [35]), (10, [6]), (11, [6]), (12, [1, 2, 7, 44]), (13, [6]), (14, [1, 2, 7, 8]), (15, [1, 2, 7, 8, 47]), (17, [1, 2, 7, 8, 57]), (18, [6]), (16, [1, 2, 7, 8]), (19, [6])]
def f60v : List Nat := []

/-! 61: (*mortise/mortiseref03.T).Kind, parameters [33, 3], results [40] -/
def f61r0 : List AOper := [
  ⟨(some 4), .move (.c (.int .i64 0)), none, 0, 0⟩]
def f61r1 : List AOper := [
  ⟨(some 5), .move (.t 0), none, 0, 0⟩,
  ⟨(some 6), .move (.t 1), none, 0, 0⟩,
  ⟨(some 7), .call (.c (.fn 73 [] [])) [(.t 5), (.t 6)], none, 0, 3⟩,
  ⟨(some 8), .un .not (.t 7), none, 0, 7⟩]
def f61r2 : List AOper := [
  ⟨(some 4), .move (.c (.int .i64 0)), none, 0, 0⟩]
def f61r3 : List AOper := [
  ⟨(some 9), .move (.t 0), none, 0, 0⟩,
  ⟨(some 10), .nilCheck (.t 9), none, 0, 1⟩,
  ⟨(some 11), .fieldAddr 0 (.t 10), none, 0, 3⟩,
  ⟨(some 12), .load false 1 (.t 11), none, 0, 7⟩,
  ⟨(some 13), .move (.t 1), none, 0, 0⟩,
  ⟨(some 14), .idxAddr 6 (.t 12) (.t 13), none, 0, 31⟩,
  ⟨(some 15), .fieldAddr 0 (.t 14), none, 0, 63⟩,
  ⟨(some 16), .load false 1 (.t 15), none, 0, 127⟩,
  ⟨(some 4), .move (.t 16), none, 0, 255⟩]
def f61c : ACode :=
  .seq (.region false f61r0 [0, 1] 0)
  (.seq (.seq (.region false f61r1 [0, 1, 8] 0)
  (.cond (.t 8)
    (.seq (.region false f61r2 [4] 0)
    (.ret))
    (.skip)))
  (.seq (.region false f61r3 [4] 0)
  (.ret)))
def f61 : AFn := ⟨2, 17, [.tmp 4], f61c, 1, none⟩
def f61k : List (Nat × List Nat) := [(0, [0, 1]), (1, [0, 1, 8]), (2, [4]), (3, [4])]
def f61v : List Nat := []

/-! 62: (*mortise/mortiseref03.T).Record, parameters [33, 3], results [4] -/
def f62r0 : List AOper := [
  ⟨(some 4), .move (.c (.bool false)), none, 0, 0⟩]
def f62r1 : List AOper := [
  ⟨(some 5), .move (.t 0), none, 0, 0⟩,
  ⟨(some 6), .move (.t 1), none, 0, 0⟩,
  ⟨(some 7), .call (.c (.fn 61 [] [])) [(.t 5), (.t 6)], none, 0, 3⟩,
  ⟨(some 8), .bin .eql (.t 7) (.c (.int .i64 15)), none, 0, 7⟩,
  ⟨(some 9), .move (.t 8), none, 0, 15⟩,
  ⟨(some 10), .move (.t 0), (some (9, false)), 0, 31⟩,
  ⟨(some 11), .move (.t 1), (some (9, false)), 0, 31⟩,
  ⟨(some 12), .call (.c (.fn 61 [] [])) [(.t 10), (.t 11)], (some (9, false)), 0, 127⟩,
  ⟨(some 13), .bin .eql (.t 12) (.c (.int .i64 16)), (some (9, false)), 0, 255⟩,
  ⟨(some 14), .pick (.t 9) (.c (.bool true)) (.t 13), none, 0, 511⟩,
  ⟨(some 4), .move (.t 14), none, 0, 1023⟩]
def f62c : ACode :=
  .seq (.region false f62r0 [0, 1] 0)
  (.seq (.region false f62r1 [4] 0)
  (.ret))
def f62 : AFn := ⟨2, 15, [.tmp 4], f62c, 1, none⟩
def f62k : List (Nat × List Nat) := [(0, [0, 1]), (1, [4])]
def f62v : List Nat := []

/-! 63: internal/stringslite.CutPrefix, parameters [9, 9], results [9, 4] -/
def f63r0 : List AOper := [
  ⟨(some 4), .move (.c (.str [])), none, 0, 0⟩,
  ⟨(some 5), .move (.c (.bool false)), none, 0, 1⟩]
def f63r1 : List AOper := [
  ⟨(some 6), .move (.t 0), none, 0, 0⟩,
  ⟨(some 7), .move (.t 1), none, 0, 0⟩,
  ⟨(some 8), .call (.c (.fn 75 [] [])) [(.t 6), (.t 7)], none, 0, 3⟩,
  ⟨(some 9), .un .not (.t 8), none, 0, 7⟩]
def f63r2 : List AOper := [
  ⟨(some 10), .move (.t 0), none, 0, 0⟩,
  ⟨(some 4), .move (.t 10), none, 0, 1⟩,
  ⟨(some 5), .move (.c (.bool false)), none, 0, 3⟩]
def f63r3 : List AOper := [
  ⟨(some 11), .move (.t 0), none, 0, 0⟩,
  ⟨(some 12), .move (.t 1), none, 0, 0⟩,
  ⟨(some 13), .len 0 (.t 12), none, 0, 2⟩,
  ⟨(some 14), .strSlice (.t 11) (some (.t 13)) none, none, 0, 7⟩,
  ⟨(some 4), .move (.t 14), none, 0, 15⟩,
  ⟨(some 5), .move (.c (.bool true)), none, 0, 31⟩]
def f63c : ACode :=
  .seq (.region false f63r0 [0, 1] 0)
  (.seq (.seq (.region false f63r1 [0, 1, 9] 0)
  (.cond (.t 9)
    (.seq (.region false f63r2 [4, 5] 0)
    (.ret))
    (.skip)))
  (.seq (.region false f63r3 [4, 5] 0)
  (.ret)))
def f63 : AFn := ⟨2, 15, [.tmp 4, .tmp 5], f63c, 1, none⟩
def f63k : List (Nat × List Nat) := [(0, [0, 1]), (1, [0, 1, 9]), (2, [4, 5]), (3, [4, 5])]
def f63v : List Nat := []

/-! 64: strings.trimLeftByte, parameters [9, 5], results [9] -/
def f64r0 : List AOper := [
  ⟨(some 4), .move (.c (.str [])), none, 0, 0⟩]
def f64r1 : List AOper := [
  ⟨(some 5), .move (.t 0), none, 0, 0⟩,
  ⟨(some 6), .len 0 (.t 5), none, 0, 1⟩,
  ⟨(some 7), .bin .gtr (.t 6) (.c (.int .i64 0)), none, 0, 3⟩,
  ⟨(some 8), .move (.t 7), none, 0, 7⟩,
  ⟨(some 9), .move (.t 0), (some (8, true)), 0, 15⟩,
  ⟨(some 10), .strIndex (.t 9) (.c (.int .i64 0)), (some (8, true)), 0, 31⟩,
  ⟨(some 11), .move (.t 1), (some (8, true)), 0, 15⟩,
  ⟨(some 12), .bin .eql (.t 10) (.t 11), (some (8, true)), 0, 127⟩,
  ⟨(some 13), .pick (.t 8) (.t 12) (.c (.bool false)), none, 0, 255⟩]
def f64r2 : List AOper := [
  ⟨(some 14), .move (.t 0), none, 0, 0⟩,
  ⟨(some 15), .strSlice (.t 14) (some (.c (.int .i64 1))) none, none, 0, 1⟩,
  ⟨(some 0), .move (.t 15), none, 0, 3⟩]
def f64m1 : ACode :=
  .seq (.seq (.region false f64r1 [0, 1, 13] 0)
  (.cond (.t 13)
    (.skip)
    (.exit 0)))
  (.block 1 (.region false f64r2 [0, 1] 0))
def f64l1 : ACode := f64m1
theorem f64l1_b {A : Tab} {nt : Nat} {e : Env} {h : Heap} : Brun A nt f64l1 e h = Brun A nt f64m1 e h := rfl
def f64r3 : List AOper := [
  ⟨(some 16), .move (.t 0), none, 0, 0⟩,
  ⟨(some 4), .move (.t 16), none, 0, 1⟩]
def f64c : ACode :=
  .seq (.region false f64r0 [0, 1] 0)
  (.seq (.block 0 (.loop f64l1))
  (.seq (.region false f64r3 [4] 0)
  (.ret)))
def f64 : AFn := ⟨2, 17, [.tmp 4], f64c, 1, none⟩
def f64k : List (Nat × List Nat) := [(0, [0, 1]), (1, [0, 1, 13]), (2, [0, 1]), (3, [4])]
def f64v : List Nat := []

/-! 65: strings.trimRightByte, parameters [9, 5], results [9] -/
def f65r0 : List AOper := [
  ⟨(some 4), .move (.c (.str [])), none, 0, 0⟩]
def f65r1 : List AOper := [
  ⟨(some 5), .move (.t 0), none, 0, 0⟩,
  ⟨(some 6), .len 0 (.t 5), none, 0, 1⟩,
  ⟨(some 7), .bin .gtr (.t 6) (.c (.int .i64 0)), none, 0, 3⟩,
  ⟨(some 8), .move (.t 7), none, 0, 7⟩,
  ⟨(some 9), .move (.t 0), (some (8, true)), 0, 15⟩,
  ⟨(some 10), .move (.t 0), (some (8, true)), 0, 15⟩,
  ⟨(some 11), .len 0 (.t 10), (some (8, true)), 0, 47⟩,
  ⟨(some 12), .bin .sub (.t 11) (.c (.int .i64 1)), (some (8, true)), 0, 111⟩,
  ⟨(some 13), .strIndex (.t 9) (.t 12), (some (8, true)), 0, 255⟩,
  ⟨(some 14), .move (.t 1), (some (8, true)), 0, 15⟩,
  ⟨(some 15), .bin .eql (.t 13) (.t 14), (some (8, true)), 0, 1023⟩,
  ⟨(some 16), .pick (.t 8) (.t 15) (.c (.bool false)), none, 0, 2047⟩]
def f65r2 : List AOper := [
  ⟨(some 17), .move (.t 0), none, 0, 0⟩,
  ⟨(some 18), .move (.t 0), none, 0, 0⟩,
  ⟨(some 19), .len 0 (.t 18), none, 0, 2⟩,
  ⟨(some 20), .bin .sub (.t 19) (.c (.int .i64 1)), none, 0, 6⟩,
  ⟨(some 21), .strSlice (.t 17) none (some (.t 20)), none, 0, 15⟩,
  ⟨(some 0), .move (.t 21), none, 0, 31⟩]
def f65m1 : ACode :=
  .seq (.seq (.region false f65r1 [0, 1, 16] 0)
  (.cond (.t 16)
    (.skip)
    (.exit 0)))
  (.block 1 (.region false f65r2 [0, 1] 0))
def f65l1 : ACode := f65m1
theorem f65l1_b {A : Tab} {nt : Nat} {e : Env} {h : Heap} : Brun A nt f65l1 e h = Brun A nt f65m1 e h := rfl
def f65r3 : List AOper := [
  ⟨(some 22), .move (.t 0), none, 0, 0⟩,
  ⟨(some 4), .move (.t 22), none, 0, 1⟩]
def f65c : ACode :=
  .seq (.region false f65r0 [0, 1] 0)
  (.seq (.block 0 (.loop f65l1))
  (.seq (.region false f65r3 [4] 0)
  (.ret)))
def f65 : AFn := ⟨2, 23, [.tmp 4], f65c, 1, none⟩
def f65k : List (Nat × List Nat) := [(0, [0, 1]), (1, [0, 1, 16]), (2, [0, 1]), (3, [4])]
def f65v : List Nat := []

/-! 66: strings.makeASCIISet, parameters [9], results [91, 4] -/
def f66r0 : List AOper := [
  ⟨(some 2), .alloc false (List.replicate 256 (.bool false)), none, 0, 0⟩,
  ⟨(some 3), .move (.c (.bool false)), none, 1, 0⟩]
def f66r1 : List AOper := [
  ⟨(some 4), .move (.c (.int .i64 0)), none, 0, 0⟩]
def f66r2 : List AOper := [
  ⟨(some 6), .move (.t 4), none, 0, 0⟩,
  ⟨(some 7), .move (.t 0), none, 0, 0⟩,
  ⟨(some 8), .len 0 (.t 7), none, 0, 2⟩,
  ⟨(some 9), .bin .lss (.t 6) (.t 8), none, 0, 7⟩]
def f66r3 : List AOper := [
  ⟨(some 12), .move (.t 0), none, 0, 0⟩,
  ⟨(some 13), .move (.t 4), none, 0, 0⟩,
  ⟨(some 14), .strIndex (.t 12) (.t 13), none, 0, 3⟩,
  ⟨(some 5), .move (.t 14), none, 0, 7⟩]
def f66r4 : List AOper := [
  ⟨(some 15), .move (.t 5), none, 0, 0⟩,
  ⟨(some 16), .bin .geq (.t 15) (.c (.int .u8 128)), none, 0, 1⟩]
def f66r5 : List AOper := [
  ⟨(some 17), .load true 256 (.t 2), none, 0, 0⟩,
  ⟨none, .store 256 (.t 2) (.t 17), none, 0, 1⟩,
  ⟨(some 3), .move (.c (.bool false)), none, 0, 3⟩]
def f66r6 : List AOper := [
  ⟨(some 18), .move (.t 5), none, 0, 0⟩,
  ⟨(some 19), .idxArr 256 1 (.t 2) (.t 18), none, 0, 1⟩,
  ⟨none, .store 1 (.t 19) (.c (.bool true)), none, 0, 3⟩]
def f66r7 : List AOper := [
  ⟨(some 10), .move (.t 4), none, 0, 0⟩,
  ⟨(some 11), .bin .add (.t 10) (.c (.int .i64 1)), none, 0, 1⟩,
  ⟨(some 4), .move (.t 11), none, 0, 3⟩]
def f66m2 : ACode :=
  .seq (.seq (.region false f66r2 [0, 2, 4, 9] 0)
  (.cond (.t 9)
    (.skip)
    (.exit 0)))
  (.seq (.block 1 (.seq (.region false f66r3 [0, 2, 4, 5] 0)
    (.seq (.seq (.region false f66r4 [0, 2, 4, 5, 16] 0)
    (.cond (.t 16)
      (.seq (.region false f66r5 [2, 3] 0)
      (.ret))
      (.skip)))
    (.region false f66r6 [0, 2, 4] 0))))
  (.region false f66r7 [0, 2, 4] 0))
def f66l2 : ACode := f66m2
theorem f66l2_b {A : Tab} {nt : Nat} {e : Env} {h : Heap} : Brun A nt f66l2 e h = Brun A nt f66m2 e h := rfl
def f66r8 : List AOper := [
  ⟨(some 20), .load true 256 (.t 2), none, 0, 0⟩,
  ⟨none, .store 256 (.t 2) (.t 20), none, 0, 1⟩,
  ⟨(some 3), .move (.c (.bool true)), none, 0, 3⟩]
def f66c : ACode :=
  .seq (.region false f66r0 [0, 2] 1)
  (.seq (.seq (.region false f66r1 [0, 2, 4] 0)
  (.block 0 (.loop f66l2)))
  (.seq (.region false f66r8 [2, 3] 0)
  (.ret)))
def f66 : AFn := ⟨1, 21, [.cell 2 true 256, .tmp 3], f66c, 1, none⟩
def f66k : List (Nat × List Nat) := [(0, [0, 2]), (1, [0, 2, 4]), (2, [0, 2, 4, 9]), (4, [0, 2, 4, 5]), (5, [0, 2, 4, 5, 16]), (6, [2, 3]), (7, [0, 2, 4]), (3, [0, 2, 4]), (8, [2, 3])]
def f66v : List Nat := []

/-! 67: strings.trimLeftASCII, parameters [9, 95], results [9] -/
def f67r0 : List AOper := [
  ⟨(some 4), .move (.c (.str [])), none, 0, 0⟩]
def f67r1 : List AOper := [
  ⟨(some 5), .move (.t 0), none, 0, 0⟩,
  ⟨(some 6), .len 0 (.t 5), none, 0, 1⟩,
  ⟨(some 7), .bin .gtr (.t 6) (.c (.int .i64 0)), none, 0, 3⟩]
def f67r2 : List AOper := [
  ⟨(some 8), .move (.t 1), none, 0, 0⟩,
  ⟨(some 9), .move (.t 0), none, 0, 0⟩,
  ⟨(some 10), .strIndex (.t 9) (.c (.int .i64 0)), none, 0, 2⟩,
  ⟨(some 11), .call (.c (.fn 76 [] [])) [(.t 8), (.t 10)], none, 0, 7⟩,
  ⟨(some 12), .un .not (.t 11), none, 0, 15⟩]
def f67r3 : List AOper := [
  ⟨(some 13), .move (.t 0), none, 0, 0⟩,
  ⟨(some 14), .strSlice (.t 13) (some (.c (.int .i64 1))) none, none, 0, 1⟩,
  ⟨(some 0), .move (.t 14), none, 0, 3⟩]
def f67m1 : ACode :=
  .seq (.seq (.region false f67r1 [0, 1, 7] 0)
  (.cond (.t 7)
    (.skip)
    (.exit 0)))
  (.block 1 (.seq (.seq (.region false f67r2 [0, 1, 12] 0)
    (.cond (.t 12)
      (.exit 0)
      (.skip)))
    (.region false f67r3 [0, 1] 0)))
def f67l1 : ACode := f67m1
theorem f67l1_b {A : Tab} {nt : Nat} {e : Env} {h : Heap} : Brun A nt f67l1 e h = Brun A nt f67m1 e h := rfl
def f67r4 : List AOper := [
  ⟨(some 15), .move (.t 0), none, 0, 0⟩,
  ⟨(some 4), .move (.t 15), none, 0, 1⟩]
def f67c : ACode :=
  .seq (.region false f67r0 [0, 1] 0)
  (.seq (.block 0 (.loop f67l1))
  (.seq (.region false f67r4 [4] 0)
  (.ret)))
def f67 : AFn := ⟨2, 16, [.tmp 4], f67c, 1, none⟩
def f67k : List (Nat × List Nat) := [(0, [0, 1]), (1, [0, 1, 7]), (2, [0, 1, 12]), (3, [0, 1]), (4, [4])]
def f67v : List Nat := []

/-! 68: strings.trimRightASCII, parameters [9, 95], results [9] -/
def f68r0 : List AOper := [
  ⟨(some 4), .move (.c (.str [])), none, 0, 0⟩]
def f68r1 : List AOper := [
  ⟨(some 5), .move (.t 0), none, 0, 0⟩,
  ⟨(some 6), .len 0 (.t 5), none, 0, 1⟩,
  ⟨(some 7), .bin .gtr (.t 6) (.c (.int .i64 0)), none, 0, 3⟩]
def f68r2 : List AOper := [
  ⟨(some 8), .move (.t 1), none, 0, 0⟩,
  ⟨(some 9), .move (.t 0), none, 0, 0⟩,
  ⟨(some 10), .move (.t 0), none, 0, 0⟩,
  ⟨(some 11), .len 0 (.t 10), none, 0, 4⟩,
  ⟨(some 12), .bin .sub (.t 11) (.c (.int .i64 1)), none, 0, 12⟩,
  ⟨(some 13), .strIndex (.t 9) (.t 12), none, 0, 30⟩,
  ⟨(some 14), .call (.c (.fn 76 [] [])) [(.t 8), (.t 13)], none, 0, 63⟩,
  ⟨(some 15), .un .not (.t 14), none, 0, 127⟩]
def f68r3 : List AOper := [
  ⟨(some 16), .move (.t 0), none, 0, 0⟩,
  ⟨(some 17), .move (.t 0), none, 0, 0⟩,
  ⟨(some 18), .len 0 (.t 17), none, 0, 2⟩,
  ⟨(some 19), .bin .sub (.t 18) (.c (.int .i64 1)), none, 0, 6⟩,
  ⟨(some 20), .strSlice (.t 16) none (some (.t 19)), none, 0, 15⟩,
  ⟨(some 0), .move (.t 20), none, 0, 31⟩]
def f68m1 : ACode :=
  .seq (.seq (.region false f68r1 [0, 1, 7] 0)
  (.cond (.t 7)
    (.skip)
    (.exit 0)))
  (.block 1 (.seq (.seq (.region false f68r2 [0, 1, 15] 0)
    (.cond (.t 15)
      (.exit 0)
      (.skip)))
    (.region false f68r3 [0, 1] 0)))
def f68l1 : ACode := f68m1
theorem f68l1_b {A : Tab} {nt : Nat} {e : Env} {h : Heap} : Brun A nt f68l1 e h = Brun A nt f68m1 e h := rfl
def f68r4 : List AOper := [
  ⟨(some 21), .move (.t 0), none, 0, 0⟩,
  ⟨(some 4), .move (.t 21), none, 0, 1⟩]
def f68c : ACode :=
  .seq (.region false f68r0 [0, 1] 0)
  (.seq (.block 0 (.loop f68l1))
  (.seq (.region false f68r4 [4] 0)
  (.ret)))
def f68 : AFn := ⟨2, 22, [.tmp 4], f68c, 1, none⟩
def f68k : List (Nat × List Nat) := [(0, [0, 1]), (1, [0, 1, 7]), (2, [0, 1, 15]), (3, [0, 1]), (4, [4])]
def f68v : List Nat := []

/-! 69: strings.trimLeftUnicode, parameters [9, 9], results [9] -/
def f69r0 : List AOper := [
  ⟨(some 4), .move (.c (.str [])), none, 0, 0⟩]
def f69r1 : List AOper := [
  ⟨(some 7), .move (.t 0), none, 0, 0⟩,
  ⟨(some 8), .len 0 (.t 7), none, 0, 1⟩,
  ⟨(some 9), .bin .gtr (.t 8) (.c (.int .i64 0)), none, 0, 3⟩]
def f69r2 : List AOper := [
  ⟨(some 11), .move (.t 0), none, 0, 0⟩,
  ⟨(some 12), .call (.c (.fn 77 [] [])) [(.t 11)], none, 0, 1⟩,
  ⟨(some 10), .move (.t 12), none, 0, 3⟩,
  ⟨(some 13), .extract (.t 10) 0, none, 0, 7⟩,
  ⟨(some 14), .extract (.t 10) 1, none, 0, 7⟩,
  ⟨(some 5), .move (.t 13), none, 0, 15⟩,
  ⟨(some 6), .move (.t 14), none, 0, 63⟩]
def f69r3 : List AOper := [
  ⟨(some 15), .move (.t 1), none, 0, 0⟩,
  ⟨(some 16), .move (.t 5), none, 0, 0⟩,
  ⟨(some 17), .call (.c (.fn 78 [] [])) [(.t 15), (.t 16)], none, 0, 3⟩,
  ⟨(some 18), .un .not (.t 17), none, 0, 7⟩]
def f69r4 : List AOper := [
  ⟨(some 19), .move (.t 0), none, 0, 0⟩,
  ⟨(some 20), .move (.t 6), none, 0, 0⟩,
  ⟨(some 21), .strSlice (.t 19) (some (.t 20)) none, none, 0, 3⟩,
  ⟨(some 0), .move (.t 21), none, 0, 7⟩]
def f69m1 : ACode :=
  .seq (.seq (.region false f69r1 [0, 1, 9] 0)
  (.cond (.t 9)
    (.skip)
    (.exit 0)))
  (.block 1 (.seq (.region false f69r2 [0, 1, 5, 6] 0)
    (.seq (.seq (.region false f69r3 [0, 1, 6, 18] 0)
    (.cond (.t 18)
      (.exit 0)
      (.skip)))
    (.region false f69r4 [0, 1] 0))))
def f69l1 : ACode := f69m1
theorem f69l1_b {A : Tab} {nt : Nat} {e : Env} {h : Heap} : Brun A nt f69l1 e h = Brun A nt f69m1 e h := rfl
def f69r5 : List AOper := [
  ⟨(some 22), .move (.t 0), none, 0, 0⟩,
  ⟨(some 4), .move (.t 22), none, 0, 1⟩]
def f69c : ACode :=
  .seq (.region false f69r0 [0, 1] 0)
  (.seq (.block 0 (.loop f69l1))
  (.seq (.region false f69r5 [4] 0)
  (.ret)))
def f69 : AFn := ⟨2, 23, [.tmp 4], f69c, 1, none⟩
def f69k : List (Nat × List Nat) := [(0, [0, 1]), (1, [0, 1, 9]), (2, [0, 1, 5, 6]), (3, [0, 1, 6, 18]), (4, [0, 1]), (5, [4])]
def f69v : List Nat := []

/-! 70: strings.trimRightUnicode, parameters [9, 9], results [9] -/
def f70r0 : List AOper := [
  ⟨(some 4), .move (.c (.str [])), none, 0, 0⟩]
def f70r1 : List AOper := [
  ⟨(some 7), .move (.t 0), none, 0, 0⟩,
  ⟨(some 8), .len 0 (.t 7), none, 0, 1⟩,
  ⟨(some 9), .bin .gtr (.t 8) (.c (.int .i64 0)), none, 0, 3⟩]
def f70r2 : List AOper := [
  ⟨(some 10), .move (.t 0), none, 0, 0⟩,
  ⟨(some 11), .move (.t 0), none, 0, 0⟩,
  ⟨(some 12), .len 0 (.t 11), none, 0, 2⟩,
  ⟨(some 13), .bin .sub (.t 12) (.c (.int .i64 1)), none, 0, 6⟩,
  ⟨(some 14), .strIndex (.t 10) (.t 13), none, 0, 15⟩,
  ⟨(some 15), .conv .i32 (.t 14), none, 0, 31⟩,
  ⟨(some 5), .move (.t 15), none, 0, 63⟩,
  ⟨(some 6), .move (.c (.int .i64 1)), none, 0, 127⟩]
def f70r3 : List AOper := [
  ⟨(some 16), .move (.t 5), none, 0, 0⟩,
  ⟨(some 17), .bin .geq (.t 16) (.c (.int .i32 128)), none, 0, 1⟩]
def f70r4 : List AOper := [
  ⟨(some 19), .move (.t 0), none, 0, 0⟩,
  ⟨(some 20), .call (.c (.fn 79 [] [])) [(.t 19)], none, 0, 1⟩,
  ⟨(some 18), .move (.t 20), none, 0, 3⟩,
  ⟨(some 21), .extract (.t 18) 0, none, 0, 7⟩,
  ⟨(some 22), .extract (.t 18) 1, none, 0, 7⟩,
  ⟨(some 5), .move (.t 21), none, 0, 15⟩,
  ⟨(some 6), .move (.t 22), none, 0, 63⟩]
def f70r5 : List AOper := [
  ⟨(some 23), .move (.t 1), none, 0, 0⟩,
  ⟨(some 24), .move (.t 5), none, 0, 0⟩,
  ⟨(some 25), .call (.c (.fn 78 [] [])) [(.t 23), (.t 24)], none, 0, 3⟩,
  ⟨(some 26), .un .not (.t 25), none, 0, 7⟩]
def f70r6 : List AOper := [
  ⟨(some 27), .move (.t 0), none, 0, 0⟩,
  ⟨(some 28), .move (.t 0), none, 0, 0⟩,
  ⟨(some 29), .len 0 (.t 28), none, 0, 2⟩,
  ⟨(some 30), .move (.t 6), none, 0, 0⟩,
  ⟨(some 31), .bin .sub (.t 29) (.t 30), none, 0, 14⟩,
  ⟨(some 32), .strSlice (.t 27) none (some (.t 31)), none, 0, 31⟩,
  ⟨(some 0), .move (.t 32), none, 0, 63⟩]
def f70m1 : ACode :=
  .seq (.seq (.region false f70r1 [0, 1, 9] 0)
  (.cond (.t 9)
    (.skip)
    (.exit 0)))
  (.block 1 (.seq (.region false f70r2 [0, 1, 5, 6] 0)
    (.seq (.seq (.region false f70r3 [0, 1, 5, 6, 17] 0)
    (.cond (.t 17)
      (.region false f70r4 [0, 1, 5, 6] 0)
      (.skip)))
    (.seq (.seq (.region false f70r5 [0, 1, 6, 26] 0)
    (.cond (.t 26)
      (.exit 0)
      (.skip)))
    (.region false f70r6 [0, 1] 0)))))
def f70l1 : ACode := f70m1
theorem f70l1_b {A : Tab} {nt : Nat} {e : Env} {h : Heap} : Brun A nt f70l1 e h = Brun A nt f70m1 e h := rfl
def f70r7 : List AOper := [
  ⟨(some 33), .move (.t 0), none, 0, 0⟩,
  ⟨(some 4), .move (.t 33), none, 0, 1⟩]
def f70c : ACode :=
  .seq (.region false f70r0 [0, 1] 0)
  (.seq (.block 0 (.loop f70l1))
  (.seq (.region false f70r7 [4] 0)
  (.ret)))
def f70 : AFn := ⟨2, 34, [.tmp 4], f70c, 1, none⟩
def f70k : List (Nat × List Nat) := [(0, [0, 1]), (1, [0, 1, 9]), (2, [0, 1, 5, 6]), (3, [0, 1, 5, 6, 17]), (4, [0, 1, 5, 6]), (5, [0, 1, 6, 26]), (6, [0, 1]), (7, [4])]
def f70v : List Nat := [15]

/-! 71: internal/strconv.FormatInt, parameters [2, 3], results [9] -/
def f71r0 : List AOper := [
  ⟨(some 4), .move (.c (.str [])), none, 0, 0⟩]
def f71r1 : List AOper := [
  ⟨(some 10), .move (.t 1), none, 0, 0⟩,
  ⟨(some 11), .bin .eql (.t 10) (.c (.int .i64 10)), none, 0, 1⟩]
def f71r2 : List AOper := [
  ⟨(some 12), .move (.t 0), none, 0, 0⟩,
  ⟨(some 13), .bin .leq (.c (.int .i64 0)) (.t 12), none, 0, 1⟩,
  ⟨(some 14), .move (.t 13), none, 0, 3⟩,
  ⟨(some 15), .move (.t 0), (some (14, true)), 0, 7⟩,
  ⟨(some 16), .bin .lss (.t 15) (.c (.int .i64 100)), (some (14, true)), 0, 15⟩,
  ⟨(some 17), .pick (.t 14) (.t 16) (.c (.bool false)), none, 0, 31⟩]
def f71r3 : List AOper := [
  ⟨(some 18), .move (.t 0), none, 0, 0⟩,
  ⟨(some 19), .call (.c (.fn 80 [] [])) [(.t 18)], none, 0, 1⟩,
  ⟨(some 4), .move (.t 19), none, 0, 3⟩]
def f71r4 : List AOper := [
  ⟨(some 5), .alloc false (List.replicate 24 (.int .u8 0)), none, 0, 0⟩]
def f71r5 : List AOper := [
  ⟨(some 20), .move (.t 0), none, 0, 0⟩,
  ⟨(some 21), .conv .u64 (.t 20), none, 0, 1⟩,
  ⟨(some 6), .move (.t 21), none, 0, 3⟩]
def f71r6 : List AOper := [
  ⟨(some 22), .move (.t 0), none, 0, 0⟩,
  ⟨(some 23), .bin .lss (.t 22) (.c (.int .i64 0)), none, 0, 1⟩]
def f71r7 : List AOper := [
  ⟨(some 24), .move (.t 6), none, 0, 0⟩,
  ⟨(some 25), .un .neg (.t 24), none, 0, 1⟩,
  ⟨(some 6), .move (.t 25), none, 0, 3⟩]
def f71r8 : List AOper := [
  ⟨(some 26), .move (.t 6), none, 0, 0⟩,
  ⟨(some 27), .call (.c (.fn 81 [] [])) [(.t 26)], none, 0, 1⟩,
  ⟨(some 7), .move (.t 27), none, 0, 3⟩]
def f71r9 : List AOper := [
  ⟨(some 28), .move (.t 7), none, 0, 0⟩,
  ⟨(some 29), .bin .add (.c (.int .i64 1)) (.t 28), none, 0, 1⟩,
  ⟨(some 30), .stuck, none, 0, 3⟩,
  ⟨(some 31), .move (.t 6), none, 0, 0⟩,
  ⟨(some 32), .call (.c (.fn 82 [] [])) [(.t 30), (.t 31)], none, 0, 15⟩]
def f71r10 : List AOper := [
  ⟨(some 33), .move (.t 0), none, 0, 0⟩,
  ⟨(some 34), .bin .lss (.t 33) (.c (.int .i64 0)), none, 0, 1⟩]
def f71r11 : List AOper := [
  ⟨(some 35), .idxArr 24 1 (.t 5) (.c (.int .i64 0)), none, 0, 0⟩,
  ⟨none, .store 1 (.t 35) (.c (.int .u8 45)), none, 0, 1⟩]
def f71r12 : List AOper := [
  ⟨(some 36), .move (.t 7), none, 0, 0⟩,
  ⟨(some 37), .bin .add (.c (.int .i64 1)) (.t 36), none, 0, 1⟩,
  ⟨(some 38), .stuck, none, 0, 3⟩,
  ⟨(some 39), .toStr (.t 38), none, 0, 7⟩,
  ⟨(some 4), .move (.t 39), none, 0, 15⟩]
def f71r13 : List AOper := [
  ⟨(some 40), .move (.t 7), none, 0, 0⟩,
  ⟨(some 41), .bin .add (.c (.int .i64 1)) (.t 40), none, 0, 1⟩,
  ⟨(some 42), .stuck, none, 0, 3⟩,
  ⟨(some 43), .toStr (.t 42), none, 0, 7⟩,
  ⟨(some 4), .move (.t 43), none, 0, 15⟩]
def f71r14 : List AOper := [
  ⟨(some 45), .move (.t 0), none, 0, 0⟩,
  ⟨(some 46), .conv .u64 (.t 45), none, 0, 1⟩,
  ⟨(some 47), .move (.t 1), none, 0, 0⟩,
  ⟨(some 48), .move (.t 0), none, 0, 0⟩,
  ⟨(some 49), .bin .lss (.t 48) (.c (.int .i64 0)), none, 0, 8⟩,
  ⟨(some 50), .call (.c (.fn 83 [] [])) [(.c (.is [] .nil)), (.t 46), (.t 47), (.t 49), (.c (.bool false))], none, 0, 31⟩,
  ⟨(some 44), .move (.t 50), none, 0, 63⟩,
  ⟨(some 51), .extract (.t 44) 0, none, 0, 127⟩,
  ⟨(some 52), .extract (.t 44) 1, none, 0, 127⟩,
  ⟨(some 8), .move (.t 51), none, 0, 255⟩,
  ⟨(some 9), .move (.t 52), none, 0, 1023⟩]
def f71r15 : List AOper := [
  ⟨(some 53), .move (.t 9), none, 0, 0⟩,
  ⟨(some 4), .move (.t 53), none, 0, 1⟩]
def f71c : ACode :=
  .seq (.region false f71r0 [0, 1] 0)
  (.seq (.seq (.region false f71r1 [0, 1, 11] 0)
  (.cond (.t 11)
    (.seq (.seq (.region false f71r2 [0, 17] 0)
    (.cond (.t 17)
      (.seq (.region false f71r3 [4] 0)
      (.ret))
      (.skip)))
    (.seq (.region false f71r4 [0, 5] 1)
    (.seq (.region false f71r5 [0, 5, 6] 0)
    (.seq (.seq (.region false f71r6 [0, 5, 6, 23] 0)
    (.cond (.t 23)
      (.region false f71r7 [0, 5, 6] 0)
      (.skip)))
    (.seq (.region false f71r8 [0, 5, 6, 7] 0)
    (.seq (.region false f71r9 [0, 5, 7] 0)
    (.seq (.seq (.region false f71r10 [5, 7, 34] 0)
    (.cond (.t 34)
      (.seq (.region false f71r11 [7] 0)
      (.seq (.region false f71r12 [4] 0)
      (.ret)))
      (.skip)))
    (.seq (.region false f71r13 [4] 0)
    (.ret)))))))))
    (.skip)))
  (.seq (.region false f71r14 [9] 0)
  (.seq (.region false f71r15 [4] 0)
  (.ret))))
def f71 : AFn := ⟨2, 54, [.tmp 4], f71c, 1, none⟩
def f71k : List (Nat × List Nat) := [(0, [0, 1]), (1, [0, 1, 11]), (2, [0, 17]), (3, [4]), (4, [0, 5]), (5, [0, 5, 6]), (6, [0, 5, 6, 23]), (7, [0, 5, 6]), (8, [0, 5, 6, 7]), (9, [0, 5, 7]), (10, [5, 7, 34]), (11, [7]), (12, [4]), (13, [4]), (14, [9]), (15, [4])]
def f71v : List Nat := [46, 43, 39, 21]

/-! 72: mortise/mortiseref03.letter, parameters [5], results [4] -/
def f72r0 : List AOper := [
  ⟨(some 2), .move (.c (.bool false)), none, 0, 0⟩]
def f72r1 : List AOper := [
  ⟨(some 3), .move (.t 0), none, 0, 0⟩,
  ⟨(some 4), .bin .geq (.t 3) (.c (.int .u8 97)), none, 0, 1⟩,
  ⟨(some 5), .move (.t 4), none, 0, 3⟩,
  ⟨(some 6), .move (.t 0), (some (5, true)), 0, 7⟩,
  ⟨(some 7), .bin .leq (.t 6) (.c (.int .u8 122)), (some (5, true)), 0, 15⟩,
  ⟨(some 8), .pick (.t 5) (.t 7) (.c (.bool false)), none, 0, 31⟩,
  ⟨(some 9), .move (.t 8), none, 0, 63⟩,
  ⟨(some 10), .move (.t 0), (some (9, false)), 0, 127⟩,
  ⟨(some 11), .bin .geq (.t 10) (.c (.int .u8 65)), (some (9, false)), 0, 255⟩,
  ⟨(some 12), .move (.t 11), (some (9, false)), 0, 511⟩,
  ⟨(some 13), .move (.t 0), (some (12, true)), 0, 1023⟩,
  ⟨(some 14), .bin .leq (.t 13) (.c (.int .u8 90)), (some (12, true)), 0, 2047⟩,
  ⟨(some 15), .pick (.t 12) (.t 14) (.c (.bool false)), (some (9, false)), 0, 4095⟩,
  ⟨(some 16), .pick (.t 9) (.c (.bool true)) (.t 15), none, 0, 8191⟩,
  ⟨(some 17), .move (.t 16), none, 0, 16383⟩,
  ⟨(some 18), .move (.t 0), (some (17, false)), 0, 32767⟩,
  ⟨(some 19), .bin .eql (.t 18) (.c (.int .u8 95)), (some (17, false)), 0, 65535⟩,
  ⟨(some 20), .pick (.t 17) (.c (.bool true)) (.t 19), none, 0, 131071⟩,
  ⟨(some 2), .move (.t 20), none, 0, 262143⟩]
def f72c : ACode :=
  .seq (.region false f72r0 [0] 0)
  (.seq (.region false f72r1 [2] 0)
  (.ret))
def f72 : AFn := ⟨1, 21, [.tmp 2], f72c, 1, none⟩
def f72k : List (Nat × List Nat) := [(0, [0]), (1, [2])]
def f72v : List Nat := []

/-! 73: (*mortise/mortiseref03.T).Has, parameters [33, 3], results [4] -/
def f73r0 : List AOper := [
  ⟨(some 4), .move (.c (.bool false)), none, 0, 0⟩]
def f73r1 : List AOper := [
  ⟨(some 5), .move (.t 1), none, 0, 0⟩,
  ⟨(some 6), .bin .geq (.t 5) (.c (.int .i64 0)), none, 0, 1⟩,
  ⟨(some 7), .move (.t 6), none, 0, 3⟩,
  ⟨(some 8), .move (.t 1), (some (7, true)), 0, 7⟩,
  ⟨(some 9), .move (.t 0), (some (7, true)), 0, 7⟩,
  ⟨(some 10), .nilCheck (.t 9), (some (7, true)), 0, 23⟩,
  ⟨(some 11), .fieldAddr 0 (.t 10), (some (7, true)), 0, 55⟩,
  ⟨(some 12), .load false 1 (.t 11), (some (7, true)), 0, 119⟩,
  ⟨(some 13), .len 1 (.t 12), (some (7, true)), 0, 247⟩,
  ⟨(some 14), .bin .lss (.t 8) (.t 13), (some (7, true)), 0, 511⟩,
  ⟨(some 15), .pick (.t 7) (.t 14) (.c (.bool false)), none, 0, 1023⟩,
  ⟨(some 4), .move (.t 15), none, 0, 2047⟩]
def f73c : ACode :=
  .seq (.region false f73r0 [0, 1] 0)
  (.seq (.region false f73r1 [4] 0)
  (.ret))
def f73 : AFn := ⟨2, 16, [.tmp 4], f73c, 1, none⟩
def f73k : List (Nat × List Nat) := [(0, [0, 1]), (1, [4])]
def f73v : List Nat := []

/-! 74: (*mortise/mortiseref03.T).bits, parameters [33, 3, 3], results [4] -/
def f74r0 : List AOper := [
  ⟨(some 6), .move (.c (.bool false)), none, 0, 0⟩]
def f74r1 : List AOper := [
  ⟨(some 8), .move (.t 2), none, 0, 0⟩,
  ⟨(some 9), .bin .eql (.t 8) (.c (.int .i64 (-1))), none, 0, 1⟩]
def f74r2 : List AOper := [
  ⟨(some 6), .move (.c (.bool true)), none, 0, 0⟩]
def f74r3 : List AOper := [
  ⟨(some 10), .move (.t 0), none, 0, 0⟩,
  ⟨(some 11), .move (.t 1), none, 0, 0⟩,
  ⟨(some 12), .call (.c (.fn 61 [] [])) [(.t 10), (.t 11)], none, 0, 3⟩,
  ⟨(some 13), .call (.c (.fn 84 [] [])) [(.t 12)], none, 0, 7⟩,
  ⟨(some 14), .bin .mul (.c (.int .i64 8)) (.t 13), none, 0, 15⟩,
  ⟨(some 7), .move (.t 14), none, 0, 31⟩]
def f74r4 : List AOper := [
  ⟨(some 15), .move (.t 0), none, 0, 0⟩,
  ⟨(some 16), .move (.t 1), none, 0, 0⟩,
  ⟨(some 17), .call (.c (.fn 61 [] [])) [(.t 15), (.t 16)], none, 0, 3⟩,
  ⟨(some 18), .bin .eql (.t 17) (.c (.int .i64 2)), none, 0, 7⟩]
def f74r5 : List AOper := [
  ⟨(some 7), .move (.c (.int .i64 1)), none, 0, 0⟩]
def f74r6 : List AOper := [
  ⟨(some 19), .move (.t 0), none, 0, 0⟩,
  ⟨(some 20), .move (.t 1), none, 0, 0⟩,
  ⟨(some 21), .call (.c (.fn 85 [] [])) [(.t 19), (.t 20)], none, 0, 3⟩,
  ⟨(some 22), .move (.t 21), none, 0, 7⟩,
  ⟨(some 23), .move (.t 2), (some (22, true)), 0, 15⟩,
  ⟨(some 24), .bin .geq (.t 23) (.c (.int .i64 0)), (some (22, true)), 0, 31⟩,
  ⟨(some 25), .pick (.t 22) (.t 24) (.c (.bool false)), none, 0, 63⟩,
  ⟨(some 26), .move (.t 25), none, 0, 127⟩,
  ⟨(some 27), .move (.t 2), (some (26, true)), 0, 255⟩,
  ⟨(some 28), .move (.t 7), (some (26, true)), 0, 255⟩,
  ⟨(some 29), .bin .leq (.t 27) (.t 28), (some (26, true)), 0, 1023⟩,
  ⟨(some 30), .pick (.t 26) (.t 29) (.c (.bool false)), none, 0, 2047⟩,
  ⟨(some 6), .move (.t 30), none, 0, 4095⟩]
def f74c : ACode :=
  .seq (.region false f74r0 [0, 1, 2] 0)
  (.seq (.seq (.region false f74r1 [0, 1, 2, 9] 0)
  (.cond (.t 9)
    (.seq (.region false f74r2 [6] 0)
    (.ret))
    (.skip)))
  (.seq (.region false f74r3 [0, 1, 2, 7] 0)
  (.seq (.seq (.region false f74r4 [0, 1, 2, 7, 18] 0)
  (.cond (.t 18)
    (.region false f74r5 [0, 1, 2, 7] 0)
    (.skip)))
  (.seq (.region false f74r6 [6] 0)
  (.ret)))))
def f74 : AFn := ⟨3, 31, [.tmp 6], f74c, 1, none⟩
def f74k : List (Nat × List Nat) := [(0, [0, 1, 2]), (1, [0, 1, 2, 9]), (2, [6]), (3, [0, 1, 2, 7]), (4, [0, 1, 2, 7, 18]), (5, [0, 1, 2, 7]), (6, [6])]
def f74v : List Nat := []

/-! 75: internal/stringslite.HasPrefix, parameters [9, 9], results [4] -/
def f75r0 : List AOper := [
  ⟨(some 4), .move (.c (.bool false)), none, 0, 0⟩]
def f75r1 : List AOper := [
  ⟨(some 5), .move (.t 0), none, 0, 0⟩,
  ⟨(some 6), .len 0 (.t 5), none, 0, 1⟩,
  ⟨(some 7), .move (.t 1), none, 0, 0⟩,
  ⟨(some 8), .len 0 (.t 7), none, 0, 4⟩,
  ⟨(some 9), .bin .geq (.t 6) (.t 8), none, 0, 15⟩,
  ⟨(some 10), .move (.t 9), none, 0, 31⟩,
  ⟨(some 11), .move (.t 0), (some (10, true)), 0, 63⟩,
  ⟨(some 12), .move (.t 1), (some (10, true)), 0, 63⟩,
  ⟨(some 13), .len 0 (.t 12), (some (10, true)), 0, 191⟩,
  ⟨(some 14), .strSlice (.t 11) none (some (.t 13)), (some (10, true)), 0, 511⟩,
  ⟨(some 15), .move (.t 1), (some (10, true)), 0, 63⟩,
  ⟨(some 16), .bin .eql (.t 14) (.t 15), (some (10, true)), 0, 2047⟩,
  ⟨(some 17), .pick (.t 10) (.t 16) (.c (.bool false)), none, 0, 4095⟩,
  ⟨(some 4), .move (.t 17), none, 0, 8191⟩]
def f75c : ACode :=
  .seq (.region false f75r0 [0, 1] 0)
  (.seq (.region false f75r1 [4] 0)
  (.ret))
def f75 : AFn := ⟨2, 18, [.tmp 4], f75c, 1, none⟩
def f75k : List (Nat × List Nat) := [(0, [0, 1]), (1, [4])]
def f75v : List Nat := []

/-! 76: (*strings.asciiSet).contains, parameters [95, 5], results [4] -/
def f76r0 : List AOper := [
  ⟨(some 4), .move (.c (.bool false)), none, 0, 0⟩]
def f76r1 : List AOper := [
  ⟨(some 5), .move (.t 0), none, 0, 0⟩,
  ⟨(some 6), .move (.t 1), none, 0, 0⟩,
  ⟨(some 7), .nilCheck (.t 5), none, 0, 1⟩,
  ⟨(some 8), .idxArr 256 1 (.t 7) (.t 6), none, 0, 7⟩,
  ⟨(some 9), .load false 1 (.t 8), none, 0, 15⟩,
  ⟨(some 4), .move (.t 9), none, 0, 31⟩]
def f76c : ACode :=
  .seq (.region false f76r0 [0, 1] 0)
  (.seq (.region false f76r1 [4] 0)
  (.ret))
def f76 : AFn := ⟨2, 10, [.tmp 4], f76c, 1, none⟩
def f76k : List (Nat × List Nat) := [(0, [0, 1]), (1, [4])]
def f76v : List Nat := []

/-! 77: unicode/utf8.DecodeRuneInString, parameters [9], results [21, 3] -/
def f77r0 : List AOper := [
  ⟨(some 2), .move (.c (.int .i32 0)), none, 0, 0⟩,
  ⟨(some 3), .move (.c (.int .i64 0)), none, 0, 1⟩]
def f77r1 : List AOper := [
  ⟨(some 4), .move (.t 0), none, 0, 0⟩,
  ⟨(some 5), .bin .neq (.t 4) (.c (.str [])), none, 0, 1⟩,
  ⟨(some 6), .move (.t 5), none, 0, 3⟩,
  ⟨(some 7), .move (.t 0), (some (6, true)), 0, 7⟩,
  ⟨(some 8), .strIndex (.t 7) (.c (.int .i64 0)), (some (6, true)), 0, 15⟩,
  ⟨(some 9), .bin .lss (.t 8) (.c (.int .u8 128)), (some (6, true)), 0, 31⟩,
  ⟨(some 10), .pick (.t 6) (.t 9) (.c (.bool false)), none, 0, 63⟩]
def f77r2 : List AOper := [
  ⟨(some 11), .move (.t 0), none, 0, 0⟩,
  ⟨(some 12), .strIndex (.t 11) (.c (.int .i64 0)), none, 0, 1⟩,
  ⟨(some 13), .conv .i32 (.t 12), none, 0, 3⟩,
  ⟨(some 2), .move (.t 13), none, 0, 7⟩,
  ⟨(some 3), .move (.c (.int .i64 1)), none, 0, 15⟩]
def f77r3 : List AOper := [
  ⟨(some 15), .move (.t 0), none, 0, 0⟩,
  ⟨(some 16), .call (.c (.fn 86 [] [])) [(.t 15)], none, 0, 1⟩,
  ⟨(some 14), .move (.t 16), none, 0, 3⟩,
  ⟨(some 17), .extract (.t 14) 0, none, 0, 7⟩,
  ⟨(some 18), .extract (.t 14) 1, none, 0, 7⟩,
  ⟨(some 2), .move (.t 17), none, 0, 15⟩,
  ⟨(some 3), .move (.t 18), none, 0, 63⟩]
def f77c : ACode :=
  .seq (.region false f77r0 [0] 0)
  (.seq (.seq (.region false f77r1 [0, 10] 0)
  (.cond (.t 10)
    (.seq (.region false f77r2 [2, 3] 0)
    (.ret))
    (.region false f77r3 [2, 3] 0)))
  (.ret))
def f77 : AFn := ⟨1, 19, [.tmp 2, .tmp 3], f77c, 1, none⟩
def f77k : List (Nat × List Nat) := [(0, [0]), (1, [0, 10]), (3, [2, 3]), (2, [2, 3])]
def f77v : List Nat := [13]

/-! 78: strings.ContainsRune, parameters [9, 21], results [4] -/
def f78r0 : List AOper := [
  ⟨(some 4), .move (.c (.bool false)), none, 0, 0⟩]
def f78r1 : List AOper := [
  ⟨(some 5), .move (.t 0), none, 0, 0⟩,
  ⟨(some 6), .move (.t 1), none, 0, 0⟩,
  ⟨(some 7), .call (.c (.fn 87 [] [])) [(.t 5), (.t 6)], none, 0, 3⟩,
  ⟨(some 8), .bin .geq (.t 7) (.c (.int .i64 0)), none, 0, 7⟩,
  ⟨(some 4), .move (.t 8), none, 0, 15⟩]
def f78c : ACode :=
  .seq (.region false f78r0 [0, 1] 0)
  (.seq (.region false f78r1 [4] 0)
  (.ret))
def f78 : AFn := ⟨2, 9, [.tmp 4], f78c, 1, none⟩
def f78k : List (Nat × List Nat) := [(0, [0, 1]), (1, [4])]
def f78v : List Nat := []

/-! 79: unicode/utf8.DecodeLastRuneInString, parameters [9], results [21, 3] -/
def f79r0 : List AOper := [
  ⟨(some 2), .move (.c (.int .i32 0)), none, 0, 0⟩,
  ⟨(some 3), .move (.c (.int .i64 0)), none, 0, 1⟩]
def f79r1 : List AOper := [
  ⟨(some 7), .move (.t 0), none, 0, 0⟩,
  ⟨(some 8), .len 0 (.t 7), none, 0, 1⟩,
  ⟨(some 4), .move (.t 8), none, 0, 3⟩]
def f79r2 : List AOper := [
  ⟨(some 9), .move (.t 4), none, 0, 0⟩,
  ⟨(some 10), .bin .eql (.t 9) (.c (.int .i64 0)), none, 0, 1⟩]
def f79r3 : List AOper := [
  ⟨(some 2), .move (.c (.int .i32 65533)), none, 0, 0⟩,
  ⟨(some 3), .move (.c (.int .i64 0)), none, 0, 1⟩]
def f79r4 : List AOper := [
  ⟨(some 11), .move (.t 4), none, 0, 0⟩,
  ⟨(some 12), .bin .sub (.t 11) (.c (.int .i64 1)), none, 0, 1⟩,
  ⟨(some 5), .move (.t 12), none, 0, 3⟩]
def f79r5 : List AOper := [
  ⟨(some 13), .move (.t 0), none, 0, 0⟩,
  ⟨(some 14), .move (.t 5), none, 0, 0⟩,
  ⟨(some 15), .strIndex (.t 13) (.t 14), none, 0, 3⟩,
  ⟨(some 16), .conv .i32 (.t 15), none, 0, 7⟩,
  ⟨(some 2), .move (.t 16), none, 0, 15⟩]
def f79r6 : List AOper := [
  ⟨(some 17), .move (.t 2), none, 0, 0⟩,
  ⟨(some 18), .bin .lss (.t 17) (.c (.int .i32 128)), none, 0, 1⟩]
def f79r7 : List AOper := [
  ⟨(some 19), .move (.t 2), none, 0, 0⟩,
  ⟨(some 2), .move (.t 19), none, 0, 1⟩,
  ⟨(some 3), .move (.c (.int .i64 1)), none, 0, 3⟩]
def f79r8 : List AOper := [
  ⟨(some 20), .move (.t 4), none, 0, 0⟩,
  ⟨(some 21), .bin .sub (.t 20) (.c (.int .i64 4)), none, 0, 1⟩,
  ⟨(some 22), .max (.t 21) (.c (.int .i64 0)), none, 0, 3⟩,
  ⟨(some 6), .move (.t 22), none, 0, 7⟩]
def f79r9 : List AOper := [
  ⟨(some 23), .move (.t 5), none, 0, 0⟩,
  ⟨(some 24), .bin .sub (.t 23) (.c (.int .i64 1)), none, 0, 1⟩,
  ⟨(some 5), .move (.t 24), none, 0, 3⟩]
def f79r10 : List AOper := [
  ⟨(some 25), .move (.t 5), none, 0, 0⟩,
  ⟨(some 26), .move (.t 6), none, 0, 0⟩,
  ⟨(some 27), .bin .geq (.t 25) (.t 26), none, 0, 3⟩]
def f79r11 : List AOper := [
  ⟨(some 30), .move (.t 0), none, 0, 0⟩,
  ⟨(some 31), .move (.t 5), none, 0, 0⟩,
  ⟨(some 32), .strIndex (.t 30) (.t 31), none, 0, 3⟩,
  ⟨(some 33), .call (.c (.fn 88 [] [])) [(.t 32)], none, 0, 7⟩]
def f79r12 : List AOper := [
  ⟨(some 28), .move (.t 5), none, 0, 0⟩,
  ⟨(some 29), .bin .sub (.t 28) (.c (.int .i64 1)), none, 0, 1⟩,
  ⟨(some 5), .move (.t 29), none, 0, 3⟩]
def f79m10 : ACode :=
  .seq (.seq (.region false f79r10 [0, 4, 5, 6, 27] 0)
  (.cond (.t 27)
    (.skip)
    (.exit 0)))
  (.seq (.block 1 (.seq (.region false f79r11 [0, 4, 5, 6, 33] 0)
    (.cond (.t 33)
      (.exit 0)
      (.skip))))
  (.region false f79r12 [0, 4, 5, 6] 0))
def f79l10 : ACode := f79m10
theorem f79l10_b {A : Tab} {nt : Nat} {e : Env} {h : Heap} : Brun A nt f79l10 e h = Brun A nt f79m10 e h := rfl
def f79r13 : List AOper := [
  ⟨(some 34), .move (.t 5), none, 0, 0⟩,
  ⟨(some 35), .bin .lss (.t 34) (.c (.int .i64 0)), none, 0, 1⟩]
def f79r14 : List AOper := [
  ⟨(some 5), .move (.c (.int .i64 0)), none, 0, 0⟩]
def f79r15 : List AOper := [
  ⟨(some 37), .move (.t 0), none, 0, 0⟩,
  ⟨(some 38), .move (.t 5), none, 0, 0⟩,
  ⟨(some 39), .move (.t 4), none, 0, 0⟩,
  ⟨(some 40), .strSlice (.t 37) (some (.t 38)) (some (.t 39)), none, 0, 7⟩,
  ⟨(some 41), .call (.c (.fn 77 [] [])) [(.t 40)], none, 0, 15⟩,
  ⟨(some 36), .move (.t 41), none, 0, 31⟩,
  ⟨(some 42), .extract (.t 36) 0, none, 0, 63⟩,
  ⟨(some 43), .extract (.t 36) 1, none, 0, 63⟩,
  ⟨(some 2), .move (.t 42), none, 0, 127⟩,
  ⟨(some 3), .move (.t 43), none, 0, 511⟩]
def f79r16 : List AOper := [
  ⟨(some 44), .move (.t 5), none, 0, 0⟩,
  ⟨(some 45), .move (.t 3), none, 0, 0⟩,
  ⟨(some 46), .bin .add (.t 44) (.t 45), none, 0, 3⟩,
  ⟨(some 47), .move (.t 4), none, 0, 0⟩,
  ⟨(some 48), .bin .neq (.t 46) (.t 47), none, 0, 15⟩]
def f79r17 : List AOper := [
  ⟨(some 2), .move (.c (.int .i32 65533)), none, 0, 0⟩,
  ⟨(some 3), .move (.c (.int .i64 1)), none, 0, 1⟩]
def f79r18 : List AOper := [
  ⟨(some 49), .move (.t 2), none, 0, 0⟩,
  ⟨(some 50), .move (.t 3), none, 0, 0⟩,
  ⟨(some 2), .move (.t 49), none, 0, 1⟩,
  ⟨(some 3), .move (.t 50), none, 0, 7⟩]
def f79c : ACode :=
  .seq (.region false f79r0 [0] 0)
  (.seq (.region false f79r1 [0, 4] 0)
  (.seq (.seq (.region false f79r2 [0, 4, 10] 0)
  (.cond (.t 10)
    (.seq (.region false f79r3 [2, 3] 0)
    (.ret))
    (.skip)))
  (.seq (.region false f79r4 [0, 4, 5] 0)
  (.seq (.region false f79r5 [0, 2, 4, 5] 0)
  (.seq (.seq (.region false f79r6 [0, 2, 4, 5, 18] 0)
  (.cond (.t 18)
    (.seq (.region false f79r7 [2, 3] 0)
    (.ret))
    (.skip)))
  (.seq (.region false f79r8 [0, 4, 5, 6] 0)
  (.seq (.seq (.region false f79r9 [0, 4, 5, 6] 0)
  (.block 0 (.loop f79l10)))
  (.seq (.seq (.region false f79r13 [0, 4, 5, 35] 0)
  (.cond (.t 35)
    (.region false f79r14 [0, 4, 5] 0)
    (.skip)))
  (.seq (.region false f79r15 [2, 3, 4, 5] 0)
  (.seq (.seq (.region false f79r16 [2, 3, 48] 0)
  (.cond (.t 48)
    (.seq (.region false f79r17 [2, 3] 0)
    (.ret))
    (.skip)))
  (.seq (.region false f79r18 [2, 3] 0)
  (.ret))))))))))))
def f79 : AFn := ⟨1, 51, [.tmp 2, .tmp 3], f79c, 1, none⟩
def f79k : List (Nat × List Nat) := [(0, [0]), (1, [0, 4]), (2, [0, 4, 10]), (3, [2, 3]), (4, [0, 4, 5]), (5, [0, 2, 4, 5]), (6, [0, 2, 4, 5, 18]), (7, [2, 3]), (8, [0, 4, 5, 6]), (9, [0, 4, 5, 6]), (10, [0, 4, 5, 6, 27]), (12, [0, 4, 5, 6, 33]), (11, [0, 4, 5, 6]), (13, [0, 4, 5, 35]), (14, [0, 4, 5]), (15, [2, 3, 4, 5]), (16, [2, 3, 48]), (17, [2, 3]), (18, [2, 3])]
def f79v : List Nat := [16]

/-! 80: internal/strconv.small, parameters [3], results [9] -/
def f80r0 : List AOper := [
  ⟨(some 2), .move (.c (.str [])), none, 0, 0⟩]
def f80r1 : List AOper := [
  ⟨(some 3), .move (.t 0), none, 0, 0⟩,
  ⟨(some 4), .bin .lss (.t 3) (.c (.int .i64 10)), none, 0, 1⟩]
def f80r2 : List AOper := [
  ⟨(some 5), .move (.t 0), none, 0, 0⟩,
  ⟨(some 6), .move (.t 0), none, 0, 0⟩,
  ⟨(some 7), .bin .add (.t 6) (.c (.int .i64 1)), none, 0, 2⟩,
  ⟨(some 8), .strSlice (.c (.str [48, 49, 50, 51, 52, 53, 54, 55, 56, 57, 97, 98, 99, 100, 101, 102, 103, 104, 105, 106, 107, 108, 109, 110, 111, 112, 113, 114, 115, 116, 117, 118, 119, 120, 121, 122])) (some (.t 5)) (some (.t 7)), none, 0, 7⟩,
  ⟨(some 2), .move (.t 8), none, 0, 15⟩]
def f80r3 : List AOper := [
  ⟨(some 9), .move (.t 0), none, 0, 0⟩,
  ⟨(some 10), .bin .mul (.t 9) (.c (.int .i64 2)), none, 0, 1⟩,
  ⟨(some 11), .move (.t 0), none, 0, 0⟩,
  ⟨(some 12), .bin .mul (.t 11) (.c (.int .i64 2)), none, 0, 4⟩,
  ⟨(some 13), .bin .add (.t 12) (.c (.int .i64 2)), none, 0, 12⟩,
  ⟨(some 14), .strSlice (.c (.str [48, 48, 48, 49, 48, 50, 48, 51, 48, 52, 48, 53, 48, 54, 48, 55, 48, 56, 48, 57, 49, 48, 49, 49, 49, 50, 49, 51, 49, 52, 49, 53, 49, 54, 49, 55, 49, 56, 49, 57, 50, 48, 50, 49, 50, 50, 50, 51, 50, 52, 50, 53, 50, 54, 50, 55, 50, 56, 50, 57, 51, 48, 51, 49, 51, 50, 51, 51, 51, 52, 51, 53, 51, 54, 51, 55, 51, 56, 51, 57, 52, 48, 52, 49, 52, 50, 52, 51, 52, 52, 52, 53, 52, 54, 52, 55, 52, 56, 52, 57, 53, 48, 53, 49, 53, 50, 53, 51, 53, 52, 53, 53, 53, 54, 53, 55, 53, 56, 53, 57, 54, 48, 54, 49, 54, 50, 54, 51, 54, 52, 54, 53, 54, 54, 54, 55, 54, 56, 54, 57, 55, 48, 55, 49, 55, 50, 55, 51, 55, 52, 55, 53, 55, 54, 55, 55, 55, 56, 55, 57, 56, 48, 56, 49, 56, 50, 56, 51, 56, 52, 56, 53, 56, 54, 56, 55, 56, 56, 56, 57, 57, 48, 57, 49, 57, 50, 57, 51, 57, 52, 57, 53, 57, 54, 57, 55, 57, 56, 57, 57])) (some (.t 10)) (some (.t 13)), none, 0, 31⟩,
  ⟨(some 2), .move (.t 14), none, 0, 63⟩]
def f80c : ACode :=
  .seq (.region false f80r0 [0] 0)
  (.seq (.seq (.region false f80r1 [0, 4] 0)
  (.cond (.t 4)
    (.seq (.region false f80r2 [2] 0)
    (.ret))
    (.skip)))
  (.seq (.region false f80r3 [2] 0)
  (.ret)))
def f80 : AFn := ⟨1, 15, [.tmp 2], f80c, 1, none⟩
def f80k : List (Nat × List Nat) := [(0, [0]), (1, [0, 4]), (2, [2]), (3, [2])]
def f80v : List Nat := []

/-! 81: internal/strconv.numDigits, parameters [102], results [3] -/
def f81r0 : List AOper := [
  ⟨(some 2), .move (.c (.int .i64 0)), none, 0, 0⟩]
def f81r1 : List AOper := [
  ⟨(some 4), .move (.t 0), none, 0, 0⟩,
  ⟨(some 5), .call (.c (.fn 90 [] [])) [(.t 4)], none, 0, 1⟩,
  ⟨(some 6), .call (.c (.fn 89 [] [])) [(.t 5)], none, 0, 3⟩,
  ⟨(some 3), .move (.t 6), none, 0, 7⟩]
def f81r2 : List AOper := [
  ⟨(some 7), .move (.t 3), none, 0, 0⟩,
  ⟨(some 8), .move (.t 0), none, 0, 0⟩,
  ⟨(some 9), .move (.t 3), none, 0, 0⟩,
  ⟨(some 10), .idxArr 20 1 (.c (.ip gl0 0)) (.t 9), none, 0, 4⟩,
  ⟨(some 11), .load false 1 (.t 10), none, 0, 12⟩,
  ⟨(some 12), .bin .geq (.t 8) (.t 11), none, 0, 30⟩,
  ⟨(some 13), .call (.c (.fn 91 [] [])) [(.t 12)], none, 0, 62⟩,
  ⟨(some 14), .bin .add (.t 7) (.t 13), none, 0, 127⟩,
  ⟨(some 2), .move (.t 14), none, 0, 255⟩]
def f81c : ACode :=
  .seq (.region false f81r0 [0] 0)
  (.seq (.region false f81r1 [0, 3] 0)
  (.seq (.region false f81r2 [2] 0)
  (.ret)))
def f81 : AFn := ⟨1, 15, [.tmp 2], f81c, 1, none⟩
def f81k : List (Nat × List Nat) := [(0, [0]), (1, [0, 3]), (2, [2])]
def f81v : List Nat := []

/-! 82: internal/strconv.formatBase10, parameters [105, 102], results [] -/
def f82r0 : List AOper := [
  ⟨(some 17), .move (.t 0), none, 0, 0⟩,
  ⟨(some 18), .len 1 (.t 17), none, 0, 1⟩,
  ⟨(some 4), .move (.t 18), none, 0, 3⟩]
def f82r1 : List AOper := [
  ⟨(some 19), .move (.t 4), none, 0, 0⟩,
  ⟨(some 20), .bin .geq (.t 19) (.c (.int .i64 8)), none, 0, 1⟩]
def f82r2 : List AOper := [
  ⟨(some 21), .move (.t 1), none, 0, 0⟩,
  ⟨(some 22), .bin .rem (.t 21) (.c (.int .u64 100000000)), none, 0, 1⟩,
  ⟨(some 23), .conv .u32 (.t 22), none, 0, 3⟩,
  ⟨(some 5), .move (.t 23), none, 0, 7⟩]
def f82r3 : List AOper := [
  ⟨(some 24), .move (.t 1), none, 0, 0⟩,
  ⟨(some 25), .bin .quo (.t 24) (.c (.int .u64 100000000)), none, 0, 1⟩,
  ⟨(some 1), .move (.t 25), none, 0, 3⟩]
def f82r4 : List AOper := [
  ⟨(some 26), .move (.t 5), none, 0, 0⟩,
  ⟨(some 27), .bin .quo (.t 26) (.c (.int .u32 10000)), none, 0, 1⟩,
  ⟨(some 28), .move (.t 5), none, 0, 0⟩,
  ⟨(some 29), .bin .rem (.t 28) (.c (.int .u32 10000)), none, 0, 4⟩,
  ⟨(some 6), .move (.t 27), none, 0, 3⟩,
  ⟨(some 7), .move (.t 29), none, 0, 31⟩]
def f82r5 : List AOper := [
  ⟨(some 30), .move (.t 7), none, 0, 0⟩,
  ⟨(some 31), .bin .quo (.t 30) (.c (.int .u32 100)), none, 0, 1⟩,
  ⟨(some 32), .bin .mul (.t 31) (.c (.int .u32 2)), none, 0, 3⟩,
  ⟨(some 33), .move (.t 7), none, 0, 0⟩,
  ⟨(some 34), .bin .rem (.t 33) (.c (.int .u32 100)), none, 0, 8⟩,
  ⟨(some 35), .bin .mul (.t 34) (.c (.int .u32 2)), none, 0, 24⟩,
  ⟨(some 8), .move (.t 32), none, 0, 7⟩,
  ⟨(some 9), .move (.t 35), none, 0, 127⟩]
def f82r6 : List AOper := [
  ⟨(some 36), .move (.t 6), none, 0, 0⟩,
  ⟨(some 37), .bin .quo (.t 36) (.c (.int .u32 100)), none, 0, 1⟩,
  ⟨(some 38), .bin .mul (.t 37) (.c (.int .u32 2)), none, 0, 3⟩,
  ⟨(some 39), .move (.t 6), none, 0, 0⟩,
  ⟨(some 40), .bin .rem (.t 39) (.c (.int .u32 100)), none, 0, 8⟩,
  ⟨(some 41), .bin .mul (.t 40) (.c (.int .u32 2)), none, 0, 24⟩,
  ⟨(some 10), .move (.t 38), none, 0, 7⟩,
  ⟨(some 11), .move (.t 41), none, 0, 127⟩]
def f82q7 : List AOper := [
  ⟨(some 42), .move (.t 0), none, 0, 0⟩,
  ⟨(some 43), .move (.t 4), none, 0, 0⟩,
  ⟨(some 44), .bin .sub (.t 43) (.c (.int .i64 1)), none, 0, 2⟩,
  ⟨(some 45), .move (.t 0), none, 0, 0⟩,
  ⟨(some 46), .move (.t 4), none, 0, 0⟩,
  ⟨(some 47), .bin .sub (.t 46) (.c (.int .i64 2)), none, 0, 16⟩,
  ⟨(some 48), .move (.t 9), none, 0, 0⟩,
  ⟨(some 49), .bin .add (.t 48) (.c (.int .u32 1)), none, 0, 64⟩,
  ⟨(some 50), .strIndex (.c (.str [48, 48, 48, 49, 48, 50, 48, 51, 48, 52, 48, 53, 48, 54, 48, 55, 48, 56, 48, 57, 49, 48, 49, 49, 49, 50, 49, 51, 49, 52, 49, 53, 49, 54, 49, 55, 49, 56, 49, 57, 50, 48, 50, 49, 50, 50, 50, 51, 50, 52, 50, 53, 50, 54, 50, 55, 50, 56, 50, 57, 51, 48, 51, 49, 51, 50, 51, 51, 51, 52, 51, 53, 51, 54, 51, 55, 51, 56, 51, 57, 52, 48, 52, 49, 52, 50, 52, 51, 52, 52, 52, 53, 52, 54, 52, 55, 52, 56, 52, 57, 53, 48, 53, 49, 53, 50, 53, 51, 53, 52, 53, 53, 53, 54, 53, 55, 53, 56, 53, 57, 54, 48, 54, 49, 54, 50, 54, 51, 54, 52, 54, 53, 54, 54, 54, 55, 54, 56, 54, 57, 55, 48, 55, 49, 55, 50, 55, 51, 55, 52, 55, 53, 55, 54, 55, 55, 55, 56, 55, 57, 56, 48, 56, 49, 56, 50, 56, 51, 56, 52, 56, 53, 56, 54, 56, 55, 56, 56, 56, 57, 57, 48, 57, 49, 57, 50, 57, 51, 57, 52, 57, 53, 57, 54, 57, 55, 57, 56, 57, 57])) (.t 49), none, 0, 192⟩,
  ⟨(some 51), .move (.t 9), none, 0, 0⟩,
  ⟨(some 52), .strIndex (.c (.str [48, 48, 48, 49, 48, 50, 48, 51, 48, 52, 48, 53, 48, 54, 48, 55, 48, 56, 48, 57, 49, 48, 49, 49, 49, 50, 49, 51, 49, 52, 49, 53, 49, 54, 49, 55, 49, 56, 49, 57, 50, 48, 50, 49, 50, 50, 50, 51, 50, 52, 50, 53, 50, 54, 50, 55, 50, 56, 50, 57, 51, 48, 51, 49, 51, 50, 51, 51, 51, 52, 51, 53, 51, 54, 51, 55, 51, 56, 51, 57, 52, 48, 52, 49, 52, 50, 52, 51, 52, 52, 52, 53, 52, 54, 52, 55, 52, 56, 52, 57, 53, 48, 53, 49, 53, 50, 53, 51, 53, 52, 53, 53, 53, 54, 53, 55, 53, 56, 53, 57, 54, 48, 54, 49, 54, 50, 54, 51, 54, 52, 54, 53, 54, 54, 54, 55, 54, 56, 54, 57, 55, 48, 55, 49, 55, 50, 55, 51, 55, 52, 55, 53, 55, 54, 55, 55, 55, 56, 55, 57, 56, 48, 56, 49, 56, 50, 56, 51, 56, 52, 56, 53, 56, 54, 56, 55, 56, 56, 56, 57, 57, 48, 57, 49, 57, 50, 57, 51, 57, 52, 57, 53, 57, 54, 57, 55, 57, 56, 57, 57])) (.t 51), none, 0, 512⟩,
  ⟨(some 53), .idxAddr 1 (.t 42) (.t 44), none, 0, 455⟩,
  ⟨none, .store 1 (.t 53) (.t 50), none, 0, 2503⟩,
  ⟨(some 54), .idxAddr 1 (.t 45) (.t 47), none, 0, 8191⟩,
  ⟨none, .store 1 (.t 54) (.t 52), none, 0, 16383⟩]
def f82r7 : List AOper := f82q7
def f82q8 : List AOper := [
  ⟨(some 55), .move (.t 0), none, 0, 0⟩,
  ⟨(some 56), .move (.t 4), none, 0, 0⟩,
  ⟨(some 57), .bin .sub (.t 56) (.c (.int .i64 3)), none, 0, 2⟩,
  ⟨(some 58), .move (.t 0), none, 0, 0⟩,
  ⟨(some 59), .move (.t 4), none, 0, 0⟩,
  ⟨(some 60), .bin .sub (.t 59) (.c (.int .i64 4)), none, 0, 16⟩,
  ⟨(some 61), .move (.t 8), none, 0, 0⟩,
  ⟨(some 62), .bin .add (.t 61) (.c (.int .u32 1)), none, 0, 64⟩,
  ⟨(some 63), .strIndex (.c (.str [48, 48, 48, 49, 48, 50, 48, 51, 48, 52, 48, 53, 48, 54, 48, 55, 48, 56, 48, 57, 49, 48, 49, 49, 49, 50, 49, 51, 49, 52, 49, 53, 49, 54, 49, 55, 49, 56, 49, 57, 50, 48, 50, 49, 50, 50, 50, 51, 50, 52, 50, 53, 50, 54, 50, 55, 50, 56, 50, 57, 51, 48, 51, 49, 51, 50, 51, 51, 51, 52, 51, 53, 51, 54, 51, 55, 51, 56, 51, 57, 52, 48, 52, 49, 52, 50, 52, 51, 52, 52, 52, 53, 52, 54, 52, 55, 52, 56, 52, 57, 53, 48, 53, 49, 53, 50, 53, 51, 53, 52, 53, 53, 53, 54, 53, 55, 53, 56, 53, 57, 54, 48, 54, 49, 54, 50, 54, 51, 54, 52, 54, 53, 54, 54, 54, 55, 54, 56, 54, 57, 55, 48, 55, 49, 55, 50, 55, 51, 55, 52, 55, 53, 55, 54, 55, 55, 55, 56, 55, 57, 56, 48, 56, 49, 56, 50, 56, 51, 56, 52, 56, 53, 56, 54, 56, 55, 56, 56, 56, 57, 57, 48, 57, 49, 57, 50, 57, 51, 57, 52, 57, 53, 57, 54, 57, 55, 57, 56, 57, 57])) (.t 62), none, 0, 192⟩,
  ⟨(some 64), .move (.t 8), none, 0, 0⟩,
  ⟨(some 65), .strIndex (.c (.str [48, 48, 48, 49, 48, 50, 48, 51, 48, 52, 48, 53, 48, 54, 48, 55, 48, 56, 48, 57, 49, 48, 49, 49, 49, 50, 49, 51, 49, 52, 49, 53, 49, 54, 49, 55, 49, 56, 49, 57, 50, 48, 50, 49, 50, 50, 50, 51, 50, 52, 50, 53, 50, 54, 50, 55, 50, 56, 50, 57, 51, 48, 51, 49, 51, 50, 51, 51, 51, 52, 51, 53, 51, 54, 51, 55, 51, 56, 51, 57, 52, 48, 52, 49, 52, 50, 52, 51, 52, 52, 52, 53, 52, 54, 52, 55, 52, 56, 52, 57, 53, 48, 53, 49, 53, 50, 53, 51, 53, 52, 53, 53, 53, 54, 53, 55, 53, 56, 53, 57, 54, 48, 54, 49, 54, 50, 54, 51, 54, 52, 54, 53, 54, 54, 54, 55, 54, 56, 54, 57, 55, 48, 55, 49, 55, 50, 55, 51, 55, 52, 55, 53, 55, 54, 55, 55, 55, 56, 55, 57, 56, 48, 56, 49, 56, 50, 56, 51, 56, 52, 56, 53, 56, 54, 56, 55, 56, 56, 56, 57, 57, 48, 57, 49, 57, 50, 57, 51, 57, 52, 57, 53, 57, 54, 57, 55, 57, 56, 57, 57])) (.t 64), none, 0, 512⟩,
  ⟨(some 66), .idxAddr 1 (.t 55) (.t 57), none, 0, 455⟩,
  ⟨none, .store 1 (.t 66) (.t 63), none, 0, 2503⟩,
  ⟨(some 67), .idxAddr 1 (.t 58) (.t 60), none, 0, 8191⟩,
  ⟨none, .store 1 (.t 67) (.t 65), none, 0, 16383⟩]
def f82r8 : List AOper := f82q8
def f82q9 : List AOper := [
  ⟨(some 68), .move (.t 0), none, 0, 0⟩,
  ⟨(some 69), .move (.t 4), none, 0, 0⟩,
  ⟨(some 70), .bin .sub (.t 69) (.c (.int .i64 5)), none, 0, 2⟩,
  ⟨(some 71), .move (.t 0), none, 0, 0⟩,
  ⟨(some 72), .move (.t 4), none, 0, 0⟩,
  ⟨(some 73), .bin .sub (.t 72) (.c (.int .i64 6)), none, 0, 16⟩,
  ⟨(some 74), .move (.t 11), none, 0, 0⟩,
  ⟨(some 75), .bin .add (.t 74) (.c (.int .u32 1)), none, 0, 64⟩,
  ⟨(some 76), .strIndex (.c (.str [48, 48, 48, 49, 48, 50, 48, 51, 48, 52, 48, 53, 48, 54, 48, 55, 48, 56, 48, 57, 49, 48, 49, 49, 49, 50, 49, 51, 49, 52, 49, 53, 49, 54, 49, 55, 49, 56, 49, 57, 50, 48, 50, 49, 50, 50, 50, 51, 50, 52, 50, 53, 50, 54, 50, 55, 50, 56, 50, 57, 51, 48, 51, 49, 51, 50, 51, 51, 51, 52, 51, 53, 51, 54, 51, 55, 51, 56, 51, 57, 52, 48, 52, 49, 52, 50, 52, 51, 52, 52, 52, 53, 52, 54, 52, 55, 52, 56, 52, 57, 53, 48, 53, 49, 53, 50, 53, 51, 53, 52, 53, 53, 53, 54, 53, 55, 53, 56, 53, 57, 54, 48, 54, 49, 54, 50, 54, 51, 54, 52, 54, 53, 54, 54, 54, 55, 54, 56, 54, 57, 55, 48, 55, 49, 55, 50, 55, 51, 55, 52, 55, 53, 55, 54, 55, 55, 55, 56, 55, 57, 56, 48, 56, 49, 56, 50, 56, 51, 56, 52, 56, 53, 56, 54, 56, 55, 56, 56, 56, 57, 57, 48, 57, 49, 57, 50, 57, 51, 57, 52, 57, 53, 57, 54, 57, 55, 57, 56, 57, 57])) (.t 75), none, 0, 192⟩,
  ⟨(some 77), .move (.t 11), none, 0, 0⟩,
  ⟨(some 78), .strIndex (.c (.str [48, 48, 48, 49, 48, 50, 48, 51, 48, 52, 48, 53, 48, 54, 48, 55, 48, 56, 48, 57, 49, 48, 49, 49, 49, 50, 49, 51, 49, 52, 49, 53, 49, 54, 49, 55, 49, 56, 49, 57, 50, 48, 50, 49, 50, 50, 50, 51, 50, 52, 50, 53, 50, 54, 50, 55, 50, 56, 50, 57, 51, 48, 51, 49, 51, 50, 51, 51, 51, 52, 51, 53, 51, 54, 51, 55, 51, 56, 51, 57, 52, 48, 52, 49, 52, 50, 52, 51, 52, 52, 52, 53, 52, 54, 52, 55, 52, 56, 52, 57, 53, 48, 53, 49, 53, 50, 53, 51, 53, 52, 53, 53, 53, 54, 53, 55, 53, 56, 53, 57, 54, 48, 54, 49, 54, 50, 54, 51, 54, 52, 54, 53, 54, 54, 54, 55, 54, 56, 54, 57, 55, 48, 55, 49, 55, 50, 55, 51, 55, 52, 55, 53, 55, 54, 55, 55, 55, 56, 55, 57, 56, 48, 56, 49, 56, 50, 56, 51, 56, 52, 56, 53, 56, 54, 56, 55, 56, 56, 56, 57, 57, 48, 57, 49, 57, 50, 57, 51, 57, 52, 57, 53, 57, 54, 57, 55, 57, 56, 57, 57])) (.t 77), none, 0, 512⟩,
  ⟨(some 79), .idxAddr 1 (.t 68) (.t 70), none, 0, 455⟩,
  ⟨none, .store 1 (.t 79) (.t 76), none, 0, 2503⟩,
  ⟨(some 80), .idxAddr 1 (.t 71) (.t 73), none, 0, 8191⟩,
  ⟨none, .store 1 (.t 80) (.t 78), none, 0, 16383⟩]
def f82r9 : List AOper := f82q9
def f82q10 : List AOper := [
  ⟨(some 81), .move (.t 0), none, 0, 0⟩,
  ⟨(some 82), .move (.t 4), none, 0, 0⟩,
  ⟨(some 83), .bin .sub (.t 82) (.c (.int .i64 7)), none, 0, 2⟩,
  ⟨(some 84), .move (.t 0), none, 0, 0⟩,
  ⟨(some 85), .move (.t 4), none, 0, 0⟩,
  ⟨(some 86), .bin .sub (.t 85) (.c (.int .i64 8)), none, 0, 16⟩,
  ⟨(some 87), .move (.t 10), none, 0, 0⟩,
  ⟨(some 88), .bin .add (.t 87) (.c (.int .u32 1)), none, 0, 64⟩,
  ⟨(some 89), .strIndex (.c (.str [48, 48, 48, 49, 48, 50, 48, 51, 48, 52, 48, 53, 48, 54, 48, 55, 48, 56, 48, 57, 49, 48, 49, 49, 49, 50, 49, 51, 49, 52, 49, 53, 49, 54, 49, 55, 49, 56, 49, 57, 50, 48, 50, 49, 50, 50, 50, 51, 50, 52, 50, 53, 50, 54, 50, 55, 50, 56, 50, 57, 51, 48, 51, 49, 51, 50, 51, 51, 51, 52, 51, 53, 51, 54, 51, 55, 51, 56, 51, 57, 52, 48, 52, 49, 52, 50, 52, 51, 52, 52, 52, 53, 52, 54, 52, 55, 52, 56, 52, 57, 53, 48, 53, 49, 53, 50, 53, 51, 53, 52, 53, 53, 53, 54, 53, 55, 53, 56, 53, 57, 54, 48, 54, 49, 54, 50, 54, 51, 54, 52, 54, 53, 54, 54, 54, 55, 54, 56, 54, 57, 55, 48, 55, 49, 55, 50, 55, 51, 55, 52, 55, 53, 55, 54, 55, 55, 55, 56, 55, 57, 56, 48, 56, 49, 56, 50, 56, 51, 56, 52, 56, 53, 56, 54, 56, 55, 56, 56, 56, 57, 57, 48, 57, 49, 57, 50, 57, 51, 57, 52, 57, 53, 57, 54, 57, 55, 57, 56, 57, 57])) (.t 88), none, 0, 192⟩,
  ⟨(some 90), .move (.t 10), none, 0, 0⟩,
  ⟨(some 91), .strIndex (.c (.str [48, 48, 48, 49, 48, 50, 48, 51, 48, 52, 48, 53, 48, 54, 48, 55, 48, 56, 48, 57, 49, 48, 49, 49, 49, 50, 49, 51, 49, 52, 49, 53, 49, 54, 49, 55, 49, 56, 49, 57, 50, 48, 50, 49, 50, 50, 50, 51, 50, 52, 50, 53, 50, 54, 50, 55, 50, 56, 50, 57, 51, 48, 51, 49, 51, 50, 51, 51, 51, 52, 51, 53, 51, 54, 51, 55, 51, 56, 51, 57, 52, 48, 52, 49, 52, 50, 52, 51, 52, 52, 52, 53, 52, 54, 52, 55, 52, 56, 52, 57, 53, 48, 53, 49, 53, 50, 53, 51, 53, 52, 53, 53, 53, 54, 53, 55, 53, 56, 53, 57, 54, 48, 54, 49, 54, 50, 54, 51, 54, 52, 54, 53, 54, 54, 54, 55, 54, 56, 54, 57, 55, 48, 55, 49, 55, 50, 55, 51, 55, 52, 55, 53, 55, 54, 55, 55, 55, 56, 55, 57, 56, 48, 56, 49, 56, 50, 56, 51, 56, 52, 56, 53, 56, 54, 56, 55, 56, 56, 56, 57, 57, 48, 57, 49, 57, 50, 57, 51, 57, 52, 57, 53, 57, 54, 57, 55, 57, 56, 57, 57])) (.t 90), none, 0, 512⟩,
  ⟨(some 92), .idxAddr 1 (.t 81) (.t 83), none, 0, 455⟩,
  ⟨none, .store 1 (.t 92) (.t 89), none, 0, 2503⟩,
  ⟨(some 93), .idxAddr 1 (.t 84) (.t 86), none, 0, 8191⟩,
  ⟨none, .store 1 (.t 93) (.t 91), none, 0, 16383⟩]
def f82r10 : List AOper := f82q10
def f82r11 : List AOper := [
  ⟨(some 94), .move (.t 4), none, 0, 0⟩,
  ⟨(some 95), .bin .sub (.t 94) (.c (.int .i64 8)), none, 0, 1⟩,
  ⟨(some 4), .move (.t 95), none, 0, 3⟩]
def f82m1 : ACode :=
  .seq (.seq (.region false f82r1 [0, 1, 4, 20] 0)
  (.cond (.t 20)
    (.skip)
    (.exit 0)))
  (.block 1 (.seq (.region false f82r2 [0, 1, 4, 5] 0)
    (.seq (.region false f82r3 [0, 1, 4, 5] 0)
    (.seq (.region false f82r4 [0, 1, 4, 6, 7] 0)
    (.seq (.region false f82r5 [0, 1, 4, 6, 8, 9] 0)
    (.seq (.region false f82r6 [0, 1, 4, 8, 9, 10, 11] 0)
    (.seq (.region true f82r7 [0, 1, 4, 8, 10, 11] 0)
    (.seq (.region true f82r8 [0, 1, 4, 10, 11] 0)
    (.seq (.region true f82r9 [0, 1, 4, 10] 0)
    (.seq (.region true f82r10 [0, 1, 4] 0)
    (.region false f82r11 [0, 1, 4] 0)))))))))))
def f82l1 : ACode := f82m1
theorem f82l1_b {A : Tab} {nt : Nat} {e : Env} {h : Heap} : Brun A nt f82l1 e h = Brun A nt f82m1 e h := rfl
def f82r12 : List AOper := [
  ⟨(some 96), .move (.t 1), none, 0, 0⟩,
  ⟨(some 97), .conv .u32 (.t 96), none, 0, 1⟩,
  ⟨(some 12), .move (.t 97), none, 0, 3⟩]
def f82r13 : List AOper := [
  ⟨(some 98), .move (.t 4), none, 0, 0⟩,
  ⟨(some 99), .bin .geq (.t 98) (.c (.int .i64 4)), none, 0, 1⟩]
def f82r14 : List AOper := [
  ⟨(some 100), .move (.t 12), none, 0, 0⟩,
  ⟨(some 101), .bin .rem (.t 100) (.c (.int .u32 10000)), none, 0, 1⟩,
  ⟨(some 13), .move (.t 101), none, 0, 3⟩]
def f82r15 : List AOper := [
  ⟨(some 102), .move (.t 12), none, 0, 0⟩,
  ⟨(some 103), .bin .quo (.t 102) (.c (.int .u32 10000)), none, 0, 1⟩,
  ⟨(some 12), .move (.t 103), none, 0, 3⟩]
def f82r16 : List AOper := [
  ⟨(some 104), .move (.t 13), none, 0, 0⟩,
  ⟨(some 105), .bin .quo (.t 104) (.c (.int .u32 100)), none, 0, 1⟩,
  ⟨(some 106), .bin .mul (.t 105) (.c (.int .u32 2)), none, 0, 3⟩,
  ⟨(some 107), .move (.t 13), none, 0, 0⟩,
  ⟨(some 108), .bin .rem (.t 107) (.c (.int .u32 100)), none, 0, 8⟩,
  ⟨(some 109), .bin .mul (.t 108) (.c (.int .u32 2)), none, 0, 24⟩,
  ⟨(some 14), .move (.t 106), none, 0, 7⟩,
  ⟨(some 15), .move (.t 109), none, 0, 127⟩]
def f82q17 : List AOper := [
  ⟨(some 110), .move (.t 0), none, 0, 0⟩,
  ⟨(some 111), .move (.t 4), none, 0, 0⟩,
  ⟨(some 112), .bin .sub (.t 111) (.c (.int .i64 1)), none, 0, 2⟩,
  ⟨(some 113), .move (.t 0), none, 0, 0⟩,
  ⟨(some 114), .move (.t 4), none, 0, 0⟩,
  ⟨(some 115), .bin .sub (.t 114) (.c (.int .i64 2)), none, 0, 16⟩,
  ⟨(some 116), .move (.t 15), none, 0, 0⟩,
  ⟨(some 117), .bin .add (.t 116) (.c (.int .u32 1)), none, 0, 64⟩,
  ⟨(some 118), .strIndex (.c (.str [48, 48, 48, 49, 48, 50, 48, 51, 48, 52, 48, 53, 48, 54, 48, 55, 48, 56, 48, 57, 49, 48, 49, 49, 49, 50, 49, 51, 49, 52, 49, 53, 49, 54, 49, 55, 49, 56, 49, 57, 50, 48, 50, 49, 50, 50, 50, 51, 50, 52, 50, 53, 50, 54, 50, 55, 50, 56, 50, 57, 51, 48, 51, 49, 51, 50, 51, 51, 51, 52, 51, 53, 51, 54, 51, 55, 51, 56, 51, 57, 52, 48, 52, 49, 52, 50, 52, 51, 52, 52, 52, 53, 52, 54, 52, 55, 52, 56, 52, 57, 53, 48, 53, 49, 53, 50, 53, 51, 53, 52, 53, 53, 53, 54, 53, 55, 53, 56, 53, 57, 54, 48, 54, 49, 54, 50, 54, 51, 54, 52, 54, 53, 54, 54, 54, 55, 54, 56, 54, 57, 55, 48, 55, 49, 55, 50, 55, 51, 55, 52, 55, 53, 55, 54, 55, 55, 55, 56, 55, 57, 56, 48, 56, 49, 56, 50, 56, 51, 56, 52, 56, 53, 56, 54, 56, 55, 56, 56, 56, 57, 57, 48, 57, 49, 57, 50, 57, 51, 57, 52, 57, 53, 57, 54, 57, 55, 57, 56, 57, 57])) (.t 117), none, 0, 192⟩,
  ⟨(some 119), .move (.t 15), none, 0, 0⟩,
  ⟨(some 120), .strIndex (.c (.str [48, 48, 48, 49, 48, 50, 48, 51, 48, 52, 48, 53, 48, 54, 48, 55, 48, 56, 48, 57, 49, 48, 49, 49, 49, 50, 49, 51, 49, 52, 49, 53, 49, 54, 49, 55, 49, 56, 49, 57, 50, 48, 50, 49, 50, 50, 50, 51, 50, 52, 50, 53, 50, 54, 50, 55, 50, 56, 50, 57, 51, 48, 51, 49, 51, 50, 51, 51, 51, 52, 51, 53, 51, 54, 51, 55, 51, 56, 51, 57, 52, 48, 52, 49, 52, 50, 52, 51, 52, 52, 52, 53, 52, 54, 52, 55, 52, 56, 52, 57, 53, 48, 53, 49, 53, 50, 53, 51, 53, 52, 53, 53, 53, 54, 53, 55, 53, 56, 53, 57, 54, 48, 54, 49, 54, 50, 54, 51, 54, 52, 54, 53, 54, 54, 54, 55, 54, 56, 54, 57, 55, 48, 55, 49, 55, 50, 55, 51, 55, 52, 55, 53, 55, 54, 55, 55, 55, 56, 55, 57, 56, 48, 56, 49, 56, 50, 56, 51, 56, 52, 56, 53, 56, 54, 56, 55, 56, 56, 56, 57, 57, 48, 57, 49, 57, 50, 57, 51, 57, 52, 57, 53, 57, 54, 57, 55, 57, 56, 57, 57])) (.t 119), none, 0, 512⟩,
  ⟨(some 121), .idxAddr 1 (.t 110) (.t 112), none, 0, 455⟩,
  ⟨none, .store 1 (.t 121) (.t 118), none, 0, 2503⟩,
  ⟨(some 122), .idxAddr 1 (.t 113) (.t 115), none, 0, 8191⟩,
  ⟨none, .store 1 (.t 122) (.t 120), none, 0, 16383⟩]
def f82r17 : List AOper := f82q17
def f82q18 : List AOper := [
  ⟨(some 123), .move (.t 0), none, 0, 0⟩,
  ⟨(some 124), .move (.t 4), none, 0, 0⟩,
  ⟨(some 125), .bin .sub (.t 124) (.c (.int .i64 3)), none, 0, 2⟩,
  ⟨(some 126), .move (.t 0), none, 0, 0⟩,
  ⟨(some 127), .move (.t 4), none, 0, 0⟩,
  ⟨(some 128), .bin .sub (.t 127) (.c (.int .i64 4)), none, 0, 16⟩,
  ⟨(some 129), .move (.t 14), none, 0, 0⟩,
  ⟨(some 130), .bin .add (.t 129) (.c (.int .u32 1)), none, 0, 64⟩,
  ⟨(some 131), .strIndex (.c (.str [48, 48, 48, 49, 48, 50, 48, 51, 48, 52, 48, 53, 48, 54, 48, 55, 48, 56, 48, 57, 49, 48, 49, 49, 49, 50, 49, 51, 49, 52, 49, 53, 49, 54, 49, 55, 49, 56, 49, 57, 50, 48, 50, 49, 50, 50, 50, 51, 50, 52, 50, 53, 50, 54, 50, 55, 50, 56, 50, 57, 51, 48, 51, 49, 51, 50, 51, 51, 51, 52, 51, 53, 51, 54, 51, 55, 51, 56, 51, 57, 52, 48, 52, 49, 52, 50, 52, 51, 52, 52, 52, 53, 52, 54, 52, 55, 52, 56, 52, 57, 53, 48, 53, 49, 53, 50, 53, 51, 53, 52, 53, 53, 53, 54, 53, 55, 53, 56, 53, 57, 54, 48, 54, 49, 54, 50, 54, 51, 54, 52, 54, 53, 54, 54, 54, 55, 54, 56, 54, 57, 55, 48, 55, 49, 55, 50, 55, 51, 55, 52, 55, 53, 55, 54, 55, 55, 55, 56, 55, 57, 56, 48, 56, 49, 56, 50, 56, 51, 56, 52, 56, 53, 56, 54, 56, 55, 56, 56, 56, 57, 57, 48, 57, 49, 57, 50, 57, 51, 57, 52, 57, 53, 57, 54, 57, 55, 57, 56, 57, 57])) (.t 130), none, 0, 192⟩,
  ⟨(some 132), .move (.t 14), none, 0, 0⟩,
  ⟨(some 133), .strIndex (.c (.str [48, 48, 48, 49, 48, 50, 48, 51, 48, 52, 48, 53, 48, 54, 48, 55, 48, 56, 48, 57, 49, 48, 49, 49, 49, 50, 49, 51, 49, 52, 49, 53, 49, 54, 49, 55, 49, 56, 49, 57, 50, 48, 50, 49, 50, 50, 50, 51, 50, 52, 50, 53, 50, 54, 50, 55, 50, 56, 50, 57, 51, 48, 51, 49, 51, 50, 51, 51, 51, 52, 51, 53, 51, 54, 51, 55, 51, 56, 51, 57, 52, 48, 52, 49, 52, 50, 52, 51, 52, 52, 52, 53, 52, 54, 52, 55, 52, 56, 52, 57, 53, 48, 53, 49, 53, 50, 53, 51, 53, 52, 53, 53, 53, 54, 53, 55, 53, 56, 53, 57, 54, 48, 54, 49, 54, 50, 54, 51, 54, 52, 54, 53, 54, 54, 54, 55, 54, 56, 54, 57, 55, 48, 55, 49, 55, 50, 55, 51, 55, 52, 55, 53, 55, 54, 55, 55, 55, 56, 55, 57, 56, 48, 56, 49, 56, 50, 56, 51, 56, 52, 56, 53, 56, 54, 56, 55, 56, 56, 56, 57, 57, 48, 57, 49, 57, 50, 57, 51, 57, 52, 57, 53, 57, 54, 57, 55, 57, 56, 57, 57])) (.t 132), none, 0, 512⟩,
  ⟨(some 134), .idxAddr 1 (.t 123) (.t 125), none, 0, 455⟩,
  ⟨none, .store 1 (.t 134) (.t 131), none, 0, 2503⟩,
  ⟨(some 135), .idxAddr 1 (.t 126) (.t 128), none, 0, 8191⟩,
  ⟨none, .store 1 (.t 135) (.t 133), none, 0, 16383⟩]
def f82r18 : List AOper := f82q18
def f82r19 : List AOper := [
  ⟨(some 136), .move (.t 4), none, 0, 0⟩,
  ⟨(some 137), .bin .sub (.t 136) (.c (.int .i64 4)), none, 0, 1⟩,
  ⟨(some 4), .move (.t 137), none, 0, 3⟩]
def f82r20 : List AOper := [
  ⟨(some 138), .move (.t 4), none, 0, 0⟩,
  ⟨(some 139), .bin .geq (.t 138) (.c (.int .i64 2)), none, 0, 1⟩]
def f82r21 : List AOper := [
  ⟨(some 140), .move (.t 12), none, 0, 0⟩,
  ⟨(some 141), .bin .rem (.t 140) (.c (.int .u32 100)), none, 0, 1⟩,
  ⟨(some 142), .bin .mul (.t 141) (.c (.int .u32 2)), none, 0, 3⟩,
  ⟨(some 16), .move (.t 142), none, 0, 7⟩]
def f82r22 : List AOper := [
  ⟨(some 143), .move (.t 12), none, 0, 0⟩,
  ⟨(some 144), .bin .quo (.t 143) (.c (.int .u32 100)), none, 0, 1⟩,
  ⟨(some 12), .move (.t 144), none, 0, 3⟩]
def f82q23 : List AOper := [
  ⟨(some 145), .move (.t 0), none, 0, 0⟩,
  ⟨(some 146), .move (.t 4), none, 0, 0⟩,
  ⟨(some 147), .bin .sub (.t 146) (.c (.int .i64 1)), none, 0, 2⟩,
  ⟨(some 148), .move (.t 0), none, 0, 0⟩,
  ⟨(some 149), .move (.t 4), none, 0, 0⟩,
  ⟨(some 150), .bin .sub (.t 149) (.c (.int .i64 2)), none, 0, 16⟩,
  ⟨(some 151), .move (.t 16), none, 0, 0⟩,
  ⟨(some 152), .bin .add (.t 151) (.c (.int .u32 1)), none, 0, 64⟩,
  ⟨(some 153), .strIndex (.c (.str [48, 48, 48, 49, 48, 50, 48, 51, 48, 52, 48, 53, 48, 54, 48, 55, 48, 56, 48, 57, 49, 48, 49, 49, 49, 50, 49, 51, 49, 52, 49, 53, 49, 54, 49, 55, 49, 56, 49, 57, 50, 48, 50, 49, 50, 50, 50, 51, 50, 52, 50, 53, 50, 54, 50, 55, 50, 56, 50, 57, 51, 48, 51, 49, 51, 50, 51, 51, 51, 52, 51, 53, 51, 54, 51, 55, 51, 56, 51, 57, 52, 48, 52, 49, 52, 50, 52, 51, 52, 52, 52, 53, 52, 54, 52, 55, 52, 56, 52, 57, 53, 48, 53, 49, 53, 50, 53, 51, 53, 52, 53, 53, 53, 54, 53, 55, 53, 56, 53, 57, 54, 48, 54, 49, 54, 50, 54, 51, 54, 52, 54, 53, 54, 54, 54, 55, 54, 56, 54, 57, 55, 48, 55, 49, 55, 50, 55, 51, 55, 52, 55, 53, 55, 54, 55, 55, 55, 56, 55, 57, 56, 48, 56, 49, 56, 50, 56, 51, 56, 52, 56, 53, 56, 54, 56, 55, 56, 56, 56, 57, 57, 48, 57, 49, 57, 50, 57, 51, 57, 52, 57, 53, 57, 54, 57, 55, 57, 56, 57, 57])) (.t 152), none, 0, 192⟩,
  ⟨(some 154), .move (.t 16), none, 0, 0⟩,
  ⟨(some 155), .strIndex (.c (.str [48, 48, 48, 49, 48, 50, 48, 51, 48, 52, 48, 53, 48, 54, 48, 55, 48, 56, 48, 57, 49, 48, 49, 49, 49, 50, 49, 51, 49, 52, 49, 53, 49, 54, 49, 55, 49, 56, 49, 57, 50, 48, 50, 49, 50, 50, 50, 51, 50, 52, 50, 53, 50, 54, 50, 55, 50, 56, 50, 57, 51, 48, 51, 49, 51, 50, 51, 51, 51, 52, 51, 53, 51, 54, 51, 55, 51, 56, 51, 57, 52, 48, 52, 49, 52, 50, 52, 51, 52, 52, 52, 53, 52, 54, 52, 55, 52, 56, 52, 57, 53, 48, 53, 49, 53, 50, 53, 51, 53, 52, 53, 53, 53, 54, 53, 55, 53, 56, 53, 57, 54, 48, 54, 49, 54, 50, 54, 51, 54, 52, 54, 53, 54, 54, 54, 55, 54, 56, 54, 57, 55, 48, 55, 49, 55, 50, 55, 51, 55, 52, 55, 53, 55, 54, 55, 55, 55, 56, 55, 57, 56, 48, 56, 49, 56, 50, 56, 51, 56, 52, 56, 53, 56, 54, 56, 55, 56, 56, 56, 57, 57, 48, 57, 49, 57, 50, 57, 51, 57, 52, 57, 53, 57, 54, 57, 55, 57, 56, 57, 57])) (.t 154), none, 0, 512⟩,
  ⟨(some 156), .idxAddr 1 (.t 145) (.t 147), none, 0, 455⟩,
  ⟨none, .store 1 (.t 156) (.t 153), none, 0, 2503⟩,
  ⟨(some 157), .idxAddr 1 (.t 148) (.t 150), none, 0, 8191⟩,
  ⟨none, .store 1 (.t 157) (.t 155), none, 0, 16383⟩]
def f82r23 : List AOper := f82q23
def f82r24 : List AOper := [
  ⟨(some 158), .move (.t 4), none, 0, 0⟩,
  ⟨(some 159), .bin .sub (.t 158) (.c (.int .i64 2)), none, 0, 1⟩,
  ⟨(some 4), .move (.t 159), none, 0, 3⟩]
def f82r25 : List AOper := [
  ⟨(some 160), .move (.t 4), none, 0, 0⟩,
  ⟨(some 161), .bin .gtr (.t 160) (.c (.int .i64 0)), none, 0, 1⟩]
def f82r26 : List AOper := [
  ⟨(some 162), .move (.t 0), none, 0, 0⟩,
  ⟨(some 163), .move (.t 12), none, 0, 0⟩,
  ⟨(some 164), .bin .add (.c (.int .u32 48)) (.t 163), none, 0, 2⟩,
  ⟨(some 165), .conv .u8 (.t 164), none, 0, 6⟩,
  ⟨(some 166), .idxAddr 1 (.t 162) (.c (.int .i64 0)), none, 0, 15⟩,
  ⟨none, .store 1 (.t 166) (.t 165), none, 0, 31⟩]
theorem f82r7_s : staticOK 0 f82r7 = true := by rfl
theorem f82r7_w {A : Tab} {nt : Nat} {keep : List Nat} {n : Nat} {e : Env} {h : Heap} (hr : (bkeep keep (stepsF nt (stepF A true) h.length f82r7 e (h ++ List.replicate n .free))).isSome = true) : Brun A nt (.region true f82r7 keep n) e h = bkeep keep (stepsF nt (stepF A true) h.length f82r7 e (h ++ List.replicate n .free)) := Brun_drawnS f82r7_s hr
theorem f82r7_u (nt base : Nat) (step : Nat → AOp → Env → Heap → Option (AV × Heap)) (e : Env) (h : Heap) : stepsF nt step base f82r7 e h = stepsF nt step base f82q7 e h := rfl
theorem f82r8_s : staticOK 0 f82r8 = true := by rfl
theorem f82r8_w {A : Tab} {nt : Nat} {keep : List Nat} {n : Nat} {e : Env} {h : Heap} (hr : (bkeep keep (stepsF nt (stepF A true) h.length f82r8 e (h ++ List.replicate n .free))).isSome = true) : Brun A nt (.region true f82r8 keep n) e h = bkeep keep (stepsF nt (stepF A true) h.length f82r8 e (h ++ List.replicate n .free)) := Brun_drawnS f82r8_s hr
theorem f82r8_u (nt base : Nat) (step : Nat → AOp → Env → Heap → Option (AV × Heap)) (e : Env) (h : Heap) : stepsF nt step base f82r8 e h = stepsF nt step base f82q8 e h := rfl
theorem f82r9_s : staticOK 0 f82r9 = true := by rfl
theorem f82r9_w {A : Tab} {nt : Nat} {keep : List Nat} {n : Nat} {e : Env} {h : Heap} (hr : (bkeep keep (stepsF nt (stepF A true) h.length f82r9 e (h ++ List.replicate n .free))).isSome = true) : Brun A nt (.region true f82r9 keep n) e h = bkeep keep (stepsF nt (stepF A true) h.length f82r9 e (h ++ List.replicate n .free)) := Brun_drawnS f82r9_s hr
theorem f82r9_u (nt base : Nat) (step : Nat → AOp → Env → Heap → Option (AV × Heap)) (e : Env) (h : Heap) : stepsF nt step base f82r9 e h = stepsF nt step base f82q9 e h := rfl
theorem f82r10_s : staticOK 0 f82r10 = true := by rfl
theorem f82r10_w {A : Tab} {nt : Nat} {keep : List Nat} {n : Nat} {e : Env} {h : Heap} (hr : (bkeep keep (stepsF nt (stepF A true) h.length f82r10 e (h ++ List.replicate n .free))).isSome = true) : Brun A nt (.region true f82r10 keep n) e h = bkeep keep (stepsF nt (stepF A true) h.length f82r10 e (h ++ List.replicate n .free)) := Brun_drawnS f82r10_s hr
theorem f82r10_u (nt base : Nat) (step : Nat → AOp → Env → Heap → Option (AV × Heap)) (e : Env) (h : Heap) : stepsF nt step base f82r10 e h = stepsF nt step base f82q10 e h := rfl
theorem f82r17_s : staticOK 0 f82r17 = true := by rfl
theorem f82r17_w {A : Tab} {nt : Nat} {keep : List Nat} {n : Nat} {e : Env} {h : Heap} (hr : (bkeep keep (stepsF nt (stepF A true) h.length f82r17 e (h ++ List.replicate n .free))).isSome = true) : Brun A nt (.region true f82r17 keep n) e h = bkeep keep (stepsF nt (stepF A true) h.length f82r17 e (h ++ List.replicate n .free)) := Brun_drawnS f82r17_s hr
theorem f82r17_u (nt base : Nat) (step : Nat → AOp → Env → Heap → Option (AV × Heap)) (e : Env) (h : Heap) : stepsF nt step base f82r17 e h = stepsF nt step base f82q17 e h := rfl
theorem f82r18_s : staticOK 0 f82r18 = true := by rfl
theorem f82r18_w {A : Tab} {nt : Nat} {keep : List Nat} {n : Nat} {e : Env} {h : Heap} (hr : (bkeep keep (stepsF nt (stepF A true) h.length f82r18 e (h ++ List.replicate n .free))).isSome = true) : Brun A nt (.region true f82r18 keep n) e h = bkeep keep (stepsF nt (stepF A true) h.length f82r18 e (h ++ List.replicate n .free)) := Brun_drawnS f82r18_s hr
theorem f82r18_u (nt base : Nat) (step : Nat → AOp → Env → Heap → Option (AV × Heap)) (e : Env) (h : Heap) : stepsF nt step base f82r18 e h = stepsF nt step base f82q18 e h := rfl
theorem f82r23_s : staticOK 0 f82r23 = true := by rfl
theorem f82r23_w {A : Tab} {nt : Nat} {keep : List Nat} {n : Nat} {e : Env} {h : Heap} (hr : (bkeep keep (stepsF nt (stepF A true) h.length f82r23 e (h ++ List.replicate n .free))).isSome = true) : Brun A nt (.region true f82r23 keep n) e h = bkeep keep (stepsF nt (stepF A true) h.length f82r23 e (h ++ List.replicate n .free)) := Brun_drawnS f82r23_s hr
theorem f82r23_u (nt base : Nat) (step : Nat → AOp → Env → Heap → Option (AV × Heap)) (e : Env) (h : Heap) : stepsF nt step base f82r23 e h = stepsF nt step base f82q23 e h := rfl
def f82c : ACode :=
  .seq (.region false f82r0 [0, 1, 4] 0)
  (.seq (.block 0 (.loop f82l1))
  (.seq (.region false f82r12 [0, 4, 12] 0)
  (.seq (.seq (.region false f82r13 [0, 4, 12, 99] 0)
  (.cond (.t 99)
    (.seq (.region false f82r14 [0, 4, 12, 13] 0)
    (.seq (.region false f82r15 [0, 4, 12, 13] 0)
    (.seq (.region false f82r16 [0, 4, 12, 14, 15] 0)
    (.seq (.region true f82r17 [0, 4, 12, 14] 0)
    (.seq (.region true f82r18 [0, 4, 12] 0)
    (.region false f82r19 [0, 4, 12] 0))))))
    (.skip)))
  (.seq (.seq (.region false f82r20 [0, 4, 12, 139] 0)
  (.cond (.t 139)
    (.seq (.region false f82r21 [0, 4, 12, 16] 0)
    (.seq (.region false f82r22 [0, 4, 12, 16] 0)
    (.seq (.region true f82r23 [0, 4, 12] 0)
    (.region false f82r24 [0, 4, 12] 0))))
    (.skip)))
  (.seq (.region false f82r25 [0, 12, 161] 0)
  (.cond (.t 161)
    (.region false f82r26 [] 0)
    (.skip)))))))
def f82 : AFn := ⟨2, 167, [], f82c, 1, none⟩
def f82k : List (Nat × List Nat) := [(0, [0, 1, 4]), (1, [0, 1, 4, 20]), (2, [0, 1, 4, 5]), (3, [0, 1, 4, 5]), (4, [0, 1, 4, 6, 7]), (5, [0, 1, 4, 6, 8, 9]), (6, [0, 1, 4, 8, 9, 10, 11]), (7, [0, 1, 4, 8, 10, 11]), (8, [0, 1, 4, 10, 11]), (9, [0, 1, 4, 10]), (10, [0, 1, 4]), (11, [0, 1, 4]), (12, [0, 4, 12]), (13, [0, 4, 12, 99]), (14, [0, 4, 12, 13]), (15, [0, 4, 12, 13]), (16, [0, 4, 12, 14, 15]), (17, [0, 4, 12, 14]), (18, [0, 4, 12]), (19, [0, 4, 12]), (20, [0, 4, 12, 139]), (21, [0, 4, 12, 16]), (22, [0, 4, 12, 16]), (23, [0, 4, 12]), (24, [0, 4, 12]), (25, [0, 12, 161]), (26, [])]
def f82v : List Nat := []

/-! 83: internal/strconv.formatBits, parameters [105, 102, 3, 4, 4], results [105, 9] -/
def f83r0 : List AOper := [
  ⟨(some 10), .move (.c (.is [] .nil)), none, 0, 0⟩,
  ⟨(some 11), .move (.c (.str [])), none, 0, 1⟩]
def f83r1 : List AOper := [
  ⟨(some 19), .move (.t 2), none, 0, 0⟩,
  ⟨(some 20), .bin .lss (.t 19) (.c (.int .i64 2)), none, 0, 1⟩,
  ⟨(some 21), .move (.t 20), none, 0, 3⟩,
  ⟨(some 22), .move (.t 2), (some (21, false)), 0, 7⟩,
  ⟨(some 23), .bin .eql (.t 22) (.c (.int .i64 10)), (some (21, false)), 0, 15⟩,
  ⟨(some 24), .pick (.t 21) (.c (.bool true)) (.t 23), none, 0, 31⟩,
  ⟨(some 25), .move (.t 24), none, 0, 63⟩,
  ⟨(some 26), .move (.t 2), (some (25, false)), 0, 127⟩,
  ⟨(some 27), .bin .gtr (.t 26) (.c (.int .i64 36)), (some (25, false)), 0, 255⟩,
  ⟨(some 28), .pick (.t 25) (.c (.bool true)) (.t 27), none, 0, 511⟩]
def f83r2 : List AOper := [
  ⟨(some 29), .mkIface 9 (.c (.str [115, 116, 114, 99, 111, 110, 118, 58, 32, 105, 108, 108, 101, 103, 97, 108, 32, 65, 112, 112, 101, 110, 100, 73, 110, 116, 47, 70, 111, 114, 109, 97, 116, 73, 110, 116, 32, 98, 97, 115, 101])), none, 0, 0⟩,
  ⟨none, .stuck, none, 0, 1⟩]
def f83r3 : List AOper := [
  ⟨(some 12), .alloc false (List.replicate 65 (.int .u8 0)), none, 0, 0⟩]
def f83r4 : List AOper := [
  ⟨(some 13), .move (.c (.int .i64 65)), none, 0, 0⟩]
def f83r5 : List AOper := [
  ⟨(some 30), .move (.t 3), none, 0, 0⟩]
def f83r6 : List AOper := [
  ⟨(some 31), .move (.t 1), none, 0, 0⟩,
  ⟨(some 32), .un .neg (.t 31), none, 0, 1⟩,
  ⟨(some 1), .move (.t 32), none, 0, 3⟩]
def f83r7 : List AOper := [
  ⟨(some 33), .move (.t 2), none, 0, 0⟩,
  ⟨(some 34), .call (.c (.fn 92 [] [])) [(.t 33)], none, 0, 1⟩]
def f83r8 : List AOper := [
  ⟨(some 35), .move (.t 2), none, 0, 0⟩,
  ⟨(some 36), .conv .u64 (.t 35), none, 0, 1⟩,
  ⟨(some 37), .call (.c (.fn 93 [] [])) [(.t 36)], none, 0, 3⟩,
  ⟨(some 38), .conv .u64 (.t 37), none, 0, 7⟩,
  ⟨(some 14), .move (.t 38), none, 0, 15⟩]
def f83r9 : List AOper := [
  ⟨(some 39), .move (.t 2), none, 0, 0⟩,
  ⟨(some 40), .conv .u64 (.t 39), none, 0, 1⟩,
  ⟨(some 15), .move (.t 40), none, 0, 3⟩]
def f83r10 : List AOper := [
  ⟨(some 41), .move (.t 2), none, 0, 0⟩,
  ⟨(some 42), .conv .u64 (.t 41), none, 0, 1⟩,
  ⟨(some 43), .bin .sub (.t 42) (.c (.int .u64 1)), none, 0, 3⟩,
  ⟨(some 16), .move (.t 43), none, 0, 7⟩]
def f83r11 : List AOper := [
  ⟨(some 44), .move (.t 1), none, 0, 0⟩,
  ⟨(some 45), .move (.t 15), none, 0, 0⟩,
  ⟨(some 46), .bin .geq (.t 44) (.t 45), none, 0, 3⟩]
def f83r12 : List AOper := [
  ⟨(some 47), .move (.t 13), none, 0, 0⟩,
  ⟨(some 48), .bin .sub (.t 47) (.c (.int .i64 1)), none, 0, 1⟩,
  ⟨(some 13), .move (.t 48), none, 0, 3⟩]
def f83r13 : List AOper := [
  ⟨(some 49), .move (.t 13), none, 0, 0⟩,
  ⟨(some 50), .move (.t 1), none, 0, 0⟩,
  ⟨(some 51), .move (.t 16), none, 0, 0⟩,
  ⟨(some 52), .bin .and (.t 50) (.t 51), none, 0, 6⟩,
  ⟨(some 53), .strIndex (.c (.str [48, 49, 50, 51, 52, 53, 54, 55, 56, 57, 97, 98, 99, 100, 101, 102, 103, 104, 105, 106, 107, 108, 109, 110, 111, 112, 113, 114, 115, 116, 117, 118, 119, 120, 121, 122])) (.t 52), none, 0, 14⟩,
  ⟨(some 54), .idxArr 65 1 (.t 12) (.t 49), none, 0, 31⟩,
  ⟨none, .store 1 (.t 54) (.t 53), none, 0, 63⟩]
def f83r14 : List AOper := [
  ⟨(some 55), .move (.t 1), none, 0, 0⟩,
  ⟨(some 56), .move (.t 14), none, 0, 0⟩,
  ⟨(some 57), .bin .shr (.t 55) (.t 56), none, 0, 3⟩,
  ⟨(some 1), .move (.t 57), none, 0, 7⟩]
def f83m11 : ACode :=
  .seq (.seq (.region false f83r11 [0, 1, 3, 4, 10, 11, 12, 13, 14, 15, 16, 46] 0)
  (.cond (.t 46)
    (.skip)
    (.exit 0)))
  (.block 1 (.seq (.region false f83r12 [0, 1, 3, 4, 10, 11, 12, 13, 14, 15, 16] 0)
    (.seq (.region false f83r13 [0, 1, 3, 4, 10, 11, 12, 13, 14, 15, 16] 0)
    (.region false f83r14 [0, 1, 3, 4, 10, 11, 12, 13, 14, 15, 16] 0))))
def f83l11 : ACode := f83m11
theorem f83l11_b {A : Tab} {nt : Nat} {e : Env} {h : Heap} : Brun A nt f83l11 e h = Brun A nt f83m11 e h := rfl
def f83r15 : List AOper := [
  ⟨(some 58), .move (.t 13), none, 0, 0⟩,
  ⟨(some 59), .bin .sub (.t 58) (.c (.int .i64 1)), none, 0, 1⟩,
  ⟨(some 13), .move (.t 59), none, 0, 3⟩]
def f83r16 : List AOper := [
  ⟨(some 60), .move (.t 13), none, 0, 0⟩,
  ⟨(some 61), .move (.t 1), none, 0, 0⟩,
  ⟨(some 62), .strIndex (.c (.str [48, 49, 50, 51, 52, 53, 54, 55, 56, 57, 97, 98, 99, 100, 101, 102, 103, 104, 105, 106, 107, 108, 109, 110, 111, 112, 113, 114, 115, 116, 117, 118, 119, 120, 121, 122])) (.t 61), none, 0, 2⟩,
  ⟨(some 63), .idxArr 65 1 (.t 12) (.t 60), none, 0, 7⟩,
  ⟨none, .store 1 (.t 63) (.t 62), none, 0, 15⟩]
def f83r17 : List AOper := [
  ⟨(some 64), .move (.t 2), none, 0, 0⟩,
  ⟨(some 65), .conv .u64 (.t 64), none, 0, 1⟩,
  ⟨(some 17), .move (.t 65), none, 0, 3⟩]
def f83r18 : List AOper := [
  ⟨(some 66), .move (.t 1), none, 0, 0⟩,
  ⟨(some 67), .move (.t 17), none, 0, 0⟩,
  ⟨(some 68), .bin .geq (.t 66) (.t 67), none, 0, 3⟩]
def f83r19 : List AOper := [
  ⟨(some 69), .move (.t 13), none, 0, 0⟩,
  ⟨(some 70), .bin .sub (.t 69) (.c (.int .i64 1)), none, 0, 1⟩,
  ⟨(some 13), .move (.t 70), none, 0, 3⟩]
def f83r20 : List AOper := [
  ⟨(some 71), .move (.t 1), none, 0, 0⟩,
  ⟨(some 72), .move (.t 17), none, 0, 0⟩,
  ⟨(some 73), .bin .quo (.t 71) (.t 72), none, 0, 3⟩,
  ⟨(some 18), .move (.t 73), none, 0, 7⟩]
def f83r21 : List AOper := [
  ⟨(some 74), .move (.t 13), none, 0, 0⟩,
  ⟨(some 75), .move (.t 1), none, 0, 0⟩,
  ⟨(some 76), .move (.t 18), none, 0, 0⟩,
  ⟨(some 77), .move (.t 17), none, 0, 0⟩,
  ⟨(some 78), .bin .mul (.t 76) (.t 77), none, 0, 12⟩,
  ⟨(some 79), .bin .sub (.t 75) (.t 78), none, 0, 30⟩,
  ⟨(some 80), .strIndex (.c (.str [48, 49, 50, 51, 52, 53, 54, 55, 56, 57, 97, 98, 99, 100, 101, 102, 103, 104, 105, 106, 107, 108, 109, 110, 111, 112, 113, 114, 115, 116, 117, 118, 119, 120, 121, 122])) (.t 79), none, 0, 62⟩,
  ⟨(some 81), .idxArr 65 1 (.t 12) (.t 74), none, 0, 127⟩,
  ⟨none, .store 1 (.t 81) (.t 80), none, 0, 255⟩]
def f83r22 : List AOper := [
  ⟨(some 82), .move (.t 18), none, 0, 0⟩,
  ⟨(some 1), .move (.t 82), none, 0, 1⟩]
def f83m18 : ACode :=
  .seq (.seq (.region false f83r18 [0, 1, 3, 4, 10, 11, 12, 13, 17, 68] 0)
  (.cond (.t 68)
    (.skip)
    (.exit 2)))
  (.block 3 (.seq (.region false f83r19 [0, 1, 3, 4, 10, 11, 12, 13, 17] 0)
    (.seq (.region false f83r20 [0, 1, 3, 4, 10, 11, 12, 13, 17, 18] 0)
    (.seq (.region false f83r21 [0, 3, 4, 10, 11, 12, 13, 17, 18] 0)
    (.region false f83r22 [0, 1, 3, 4, 10, 11, 12, 13, 17] 0)))))
def f83l18 : ACode := f83m18
theorem f83l18_b {A : Tab} {nt : Nat} {e : Env} {h : Heap} : Brun A nt f83l18 e h = Brun A nt f83m18 e h := rfl
def f83r23 : List AOper := [
  ⟨(some 83), .move (.t 13), none, 0, 0⟩,
  ⟨(some 84), .bin .sub (.t 83) (.c (.int .i64 1)), none, 0, 1⟩,
  ⟨(some 13), .move (.t 84), none, 0, 3⟩]
def f83r24 : List AOper := [
  ⟨(some 85), .move (.t 13), none, 0, 0⟩,
  ⟨(some 86), .move (.t 1), none, 0, 0⟩,
  ⟨(some 87), .strIndex (.c (.str [48, 49, 50, 51, 52, 53, 54, 55, 56, 57, 97, 98, 99, 100, 101, 102, 103, 104, 105, 106, 107, 108, 109, 110, 111, 112, 113, 114, 115, 116, 117, 118, 119, 120, 121, 122])) (.t 86), none, 0, 2⟩,
  ⟨(some 88), .idxArr 65 1 (.t 12) (.t 85), none, 0, 7⟩,
  ⟨none, .store 1 (.t 88) (.t 87), none, 0, 15⟩]
def f83r25 : List AOper := [
  ⟨(some 89), .move (.t 3), none, 0, 0⟩]
def f83r26 : List AOper := [
  ⟨(some 90), .move (.t 13), none, 0, 0⟩,
  ⟨(some 91), .bin .sub (.t 90) (.c (.int .i64 1)), none, 0, 1⟩,
  ⟨(some 13), .move (.t 91), none, 0, 3⟩]
def f83r27 : List AOper := [
  ⟨(some 92), .move (.t 13), none, 0, 0⟩,
  ⟨(some 93), .idxArr 65 1 (.t 12) (.t 92), none, 0, 1⟩,
  ⟨none, .store 1 (.t 93) (.c (.int .u8 45)), none, 0, 3⟩]
def f83r28 : List AOper := [
  ⟨(some 94), .move (.t 4), none, 0, 0⟩]
def f83r29 : List AOper := [
  ⟨(some 95), .move (.t 0), none, 0, 0⟩,
  ⟨(some 96), .move (.t 13), none, 0, 0⟩,
  ⟨(some 97), .stuck, none, 0, 2⟩,
  ⟨(some 98), .append true 1 1 (.t 95) (.t 97), none, 0, 7⟩,
  ⟨(some 10), .move (.t 98), none, 1, 15⟩]
def f83r30 : List AOper := [
  ⟨(some 99), .move (.t 13), none, 0, 0⟩,
  ⟨(some 100), .stuck, none, 0, 1⟩,
  ⟨(some 101), .toStr (.t 100), none, 0, 3⟩,
  ⟨(some 11), .move (.t 101), none, 0, 7⟩]
def f83c : ACode :=
  .seq (.region false f83r0 [0, 1, 2, 3, 4, 10, 11] 0)
  (.seq (.seq (.region false f83r1 [0, 1, 2, 3, 4, 10, 11, 28] 0)
  (.cond (.t 28)
    (.region false f83r2 [0, 1, 2, 3, 4, 10, 11] 0)
    (.skip)))
  (.seq (.region false f83r3 [0, 1, 2, 3, 4, 10, 11, 12] 1)
  (.seq (.region false f83r4 [0, 1, 2, 3, 4, 10, 11, 12, 13] 0)
  (.seq (.seq (.region false f83r5 [0, 1, 2, 3, 4, 10, 11, 12, 13, 30] 0)
  (.cond (.t 30)
    (.region false f83r6 [0, 1, 2, 3, 4, 10, 11, 12, 13] 0)
    (.skip)))
  (.seq (.seq (.region false f83r7 [0, 1, 2, 3, 4, 10, 11, 12, 13, 34] 0)
  (.cond (.t 34)
    (.seq (.region false f83r8 [0, 1, 2, 3, 4, 10, 11, 12, 13, 14] 0)
    (.seq (.region false f83r9 [0, 1, 2, 3, 4, 10, 11, 12, 13, 14, 15] 0)
    (.seq (.region false f83r10 [0, 1, 3, 4, 10, 11, 12, 13, 14, 15, 16] 0)
    (.seq (.block 0 (.loop f83l11))
    (.seq (.region false f83r15 [0, 1, 3, 4, 10, 11, 12, 13] 0)
    (.region false f83r16 [0, 3, 4, 10, 11, 12, 13] 0))))))
    (.seq (.region false f83r17 [0, 1, 3, 4, 10, 11, 12, 13, 17] 0)
    (.seq (.block 2 (.loop f83l18))
    (.seq (.region false f83r23 [0, 1, 3, 4, 10, 11, 12, 13] 0)
    (.region false f83r24 [0, 3, 4, 10, 11, 12, 13] 0))))))
  (.seq (.seq (.region false f83r25 [0, 4, 10, 11, 12, 13, 89] 0)
  (.cond (.t 89)
    (.seq (.region false f83r26 [0, 4, 10, 11, 12, 13] 0)
    (.region false f83r27 [0, 4, 10, 11, 13] 0))
    (.skip)))
  (.seq (.seq (.region false f83r28 [0, 10, 11, 13, 94] 0)
  (.cond (.t 94)
    (.seq (.region false f83r29 [10, 11] 1)
    (.ret))
    (.skip)))
  (.seq (.region false f83r30 [10, 11] 0)
  (.ret)))))))))
def f83 : AFn := ⟨5, 102, [.tmp 10, .tmp 11], f83c, 1, none⟩
def f83k : List (Nat × List Nat) := [(0, [0, 1, 2, 3, 4, 10, 11]), (1, [0, 1, 2, 3, 4, 10, 11, 28]), (2, [0, 1, 2, 3, 4, 10, 11]), (3, [0, 1, 2, 3, 4, 10, 11, 12]), (4, [0, 1, 2, 3, 4, 10, 11, 12, 13]), (5, [0, 1, 2, 3, 4, 10, 11, 12, 13, 30]), (6, [0, 1, 2, 3, 4, 10, 11, 12, 13]), (7, [0, 1, 2, 3, 4, 10, 11, 12, 13, 34]), (17, [0, 1, 3, 4, 10, 11, 12, 13, 17]), (18, [0, 1, 3, 4, 10, 11, 12, 13, 17, 68]), (19, [0, 1, 3, 4, 10, 11, 12, 13, 17]), (20, [0, 1, 3, 4, 10, 11, 12, 13, 17, 18]), (21, [0, 3, 4, 10, 11, 12, 13, 17, 18]), (22, [0, 1, 3, 4, 10, 11, 12, 13, 17]), (23, [0, 1, 3, 4, 10, 11, 12, 13]), (24, [0, 3, 4, 10, 11, 12, 13]), (8, [0, 1, 2, 3, 4, 10, 11, 12, 13, 14]), (9, [0, 1, 2, 3, 4, 10, 11, 12, 13, 14, 15]), (10, [0, 1, 3, 4, 10, 11, 12, 13, 14, 15, 16]), (11, [0, 1, 3, 4, 10, 11, 12, 13, 14, 15, 16, 46]), (12, [0, 1, 3, 4, 10, 11, 12, 13, 14, 15, 16]), (13, [0, 1, 3, 4, 10, 11, 12, 13, 14, 15, 16]), (14, [0, 1, 3, 4, 10, 11, 12, 13, 14, 15, 16]), (15, [0, 1, 3, 4, 10, 11, 12, 13]), (16, [0, 3, 4, 10, 11, 12, 13]), (25, [0, 4, 10, 11, 12, 13, 89]), (26, [0, 4, 10, 11, 12, 13]), (27, [0, 4, 10, 11, 13]), (28, [0, 10, 11, 13, 94]), (29, [10, 11]), (30, [10, 11])]
def f83v : List Nat := [101, 98, 65, 42, 40, 38, 36]

/-! 84: mortise/mortiseref01.Width, parameters [40], results [3] -/
def f84r0 : List AOper := [
  ⟨(some 2), .move (.c (.int .i64 0)), none, 0, 0⟩]
def f84r1 : List AOper := [
  ⟨(some 3), .move (.t 0), none, 0, 0⟩]
def f84r2 : List AOper := [
  ⟨(some 5), .bin .eql (.t 3) (.c (.int .i64 2)), none, 0, 0⟩,
  ⟨(some 4), .move (.t 5), none, 0, 1⟩]
def f84r3 : List AOper := [
  ⟨(some 6), .bin .eql (.t 3) (.c (.int .i64 3)), none, 0, 0⟩,
  ⟨(some 4), .move (.t 6), none, 0, 1⟩]
def f84r4 : List AOper := [
  ⟨(some 7), .bin .eql (.t 3) (.c (.int .i64 4)), none, 0, 0⟩,
  ⟨(some 4), .move (.t 7), none, 0, 1⟩]
def f84r5 : List AOper := [
  ⟨(some 8), .bin .eql (.t 3) (.c (.int .i64 5)), none, 0, 0⟩,
  ⟨(some 4), .move (.t 8), none, 0, 1⟩]
def f84r6 : List AOper := [
  ⟨(some 2), .move (.c (.int .i64 1)), none, 0, 0⟩]
def f84r7 : List AOper := [
  ⟨(some 10), .bin .eql (.t 3) (.c (.int .i64 6)), none, 0, 0⟩,
  ⟨(some 9), .move (.t 10), none, 0, 1⟩]
def f84r8 : List AOper := [
  ⟨(some 11), .bin .eql (.t 3) (.c (.int .i64 7)), none, 0, 0⟩,
  ⟨(some 9), .move (.t 11), none, 0, 1⟩]
def f84r9 : List AOper := [
  ⟨(some 2), .move (.c (.int .i64 2)), none, 0, 0⟩]
def f84r10 : List AOper := [
  ⟨(some 13), .bin .eql (.t 3) (.c (.int .i64 8)), none, 0, 0⟩,
  ⟨(some 12), .move (.t 13), none, 0, 1⟩]
def f84r11 : List AOper := [
  ⟨(some 14), .bin .eql (.t 3) (.c (.int .i64 9)), none, 0, 0⟩,
  ⟨(some 12), .move (.t 14), none, 0, 1⟩]
def f84r12 : List AOper := [
  ⟨(some 15), .bin .eql (.t 3) (.c (.int .i64 10)), none, 0, 0⟩,
  ⟨(some 12), .move (.t 15), none, 0, 1⟩]
def f84r13 : List AOper := [
  ⟨(some 16), .bin .eql (.t 3) (.c (.int .i64 11)), none, 0, 0⟩,
  ⟨(some 12), .move (.t 16), none, 0, 1⟩]
def f84r14 : List AOper := [
  ⟨(some 17), .bin .eql (.t 3) (.c (.int .i64 12)), none, 0, 0⟩,
  ⟨(some 12), .move (.t 17), none, 0, 1⟩]
def f84r15 : List AOper := [
  ⟨(some 18), .bin .eql (.t 3) (.c (.int .i64 13)), none, 0, 0⟩,
  ⟨(some 12), .move (.t 18), none, 0, 1⟩]
def f84r16 : List AOper := [
  ⟨(some 2), .move (.c (.int .i64 4)), none, 0, 0⟩]
def f84r17 : List AOper := [
  ⟨(some 2), .move (.c (.int .i64 0)), none, 0, 0⟩]
def f84c : ACode :=
  .seq (.region false f84r0 [0] 0)
  (.seq (.seq (.region false f84r1 [3] 0)
  (.block 0 (.seq (.seq (.region false f84r2 [3, 4] 0)
    (.cond (.t 4)
      (.skip)
      (.seq (.region false f84r3 [3, 4] 0)
      (.cond (.t 4)
        (.skip)
        (.seq (.region false f84r4 [3, 4] 0)
        (.cond (.t 4)
          (.skip)
          (.region false f84r5 [3, 4] 0)))))))
    (.cond (.t 4)
      (.seq (.region false f84r6 [2] 0)
      (.ret))
      (.seq (.seq (.region false f84r7 [3, 9] 0)
      (.cond (.t 9)
        (.skip)
        (.region false f84r8 [3, 9] 0)))
      (.cond (.t 9)
        (.seq (.region false f84r9 [2] 0)
        (.ret))
        (.seq (.seq (.region false f84r10 [3, 12] 0)
        (.cond (.t 12)
          (.skip)
          (.seq (.region false f84r11 [3, 12] 0)
          (.cond (.t 12)
            (.skip)
            (.seq (.region false f84r12 [3, 12] 0)
            (.cond (.t 12)
              (.skip)
              (.seq (.region false f84r13 [3, 12] 0)
              (.cond (.t 12)
                (.skip)
                (.seq (.region false f84r14 [3, 12] 0)
                (.cond (.t 12)
                  (.skip)
                  (.region false f84r15 [12] 0)))))))))))
        (.cond (.t 12)
          (.seq (.region false f84r16 [2] 0)
          (.ret))
          (.skip)))))))))
  (.seq (.region false f84r17 [2] 0)
  (.ret)))
def f84 : AFn := ⟨1, 19, [.tmp 2], f84c, 1, none⟩
def f84k : List (Nat × List Nat) := [(0, [0]), (1, [3]), (2, [3, 4]), (3, [3, 4]), (4, [3, 4]), (5, [3, 4]), (7, [3, 9]), (8, [3, 9]), (10, [3, 12]), (11, [3, 12]), (12, [3, 12]), (13, [3, 12]), (14, [3, 12]), (15, [12]), (16, [2]), (9, [2]), (6, [2]), (17, [2])]
def f84v : List Nat := []

/-! 85: (*mortise/mortiseref03.T).Integer, parameters [33, 3], results [4] -/
def f85r0 : List AOper := [
  ⟨(some 4), .move (.c (.bool false)), none, 0, 0⟩]
def f85r1 : List AOper := [
  ⟨(some 6), .move (.t 0), none, 0, 0⟩,
  ⟨(some 7), .move (.t 1), none, 0, 0⟩,
  ⟨(some 8), .call (.c (.fn 61 [] [])) [(.t 6), (.t 7)], none, 0, 3⟩,
  ⟨(some 5), .move (.t 8), none, 0, 7⟩]
def f85r2 : List AOper := [
  ⟨(some 9), .move (.t 5), none, 0, 0⟩,
  ⟨(some 10), .bin .gtr (.t 9) (.c (.int .i64 1)), none, 0, 1⟩,
  ⟨(some 11), .move (.t 10), none, 0, 3⟩,
  ⟨(some 12), .move (.t 5), (some (11, true)), 0, 7⟩,
  ⟨(some 13), .bin .leq (.t 12) (.c (.int .i64 12)), (some (11, true)), 0, 15⟩,
  ⟨(some 14), .pick (.t 11) (.t 13) (.c (.bool false)), none, 0, 31⟩,
  ⟨(some 4), .move (.t 14), none, 0, 63⟩]
def f85c : ACode :=
  .seq (.region false f85r0 [0, 1] 0)
  (.seq (.region false f85r1 [5] 0)
  (.seq (.region false f85r2 [4] 0)
  (.ret)))
def f85 : AFn := ⟨2, 15, [.tmp 4], f85c, 1, none⟩
def f85k : List (Nat × List Nat) := [(0, [0, 1]), (1, [5]), (2, [4])]
def f85v : List Nat := []

/-! 86: unicode/utf8.decodeRuneInStringSlow, parameters [9], results [21, 3] -/
def f86r0 : List AOper := [
  ⟨(some 2), .move (.c (.int .i32 0)), none, 0, 0⟩,
  ⟨(some 3), .move (.c (.int .i64 0)), none, 0, 1⟩]
def f86r1 : List AOper := [
  ⟨(some 13), .move (.t 0), none, 0, 0⟩,
  ⟨(some 14), .len 0 (.t 13), none, 0, 1⟩,
  ⟨(some 4), .move (.t 14), none, 0, 3⟩]
def f86r2 : List AOper := [
  ⟨(some 15), .move (.t 4), none, 0, 0⟩,
  ⟨(some 16), .bin .lss (.t 15) (.c (.int .i64 1)), none, 0, 1⟩]
def f86r3 : List AOper := [
  ⟨(some 2), .move (.c (.int .i32 65533)), none, 0, 0⟩,
  ⟨(some 3), .move (.c (.int .i64 0)), none, 0, 1⟩]
def f86r4 : List AOper := [
  ⟨(some 17), .move (.t 0), none, 0, 0⟩,
  ⟨(some 18), .strIndex (.t 17) (.c (.int .i64 0)), none, 0, 1⟩,
  ⟨(some 5), .move (.t 18), none, 0, 3⟩]
def f86r5 : List AOper := [
  ⟨(some 19), .move (.t 5), none, 0, 0⟩,
  ⟨(some 20), .idxArr 256 1 (.c (.ip gl1 0)) (.t 19), none, 0, 1⟩,
  ⟨(some 21), .load false 1 (.t 20), none, 0, 3⟩,
  ⟨(some 6), .move (.t 21), none, 0, 7⟩]
def f86r6 : List AOper := [
  ⟨(some 22), .move (.t 6), none, 0, 0⟩,
  ⟨(some 23), .bin .geq (.t 22) (.c (.int .u8 240)), none, 0, 1⟩]
def f86r7 : List AOper := [
  ⟨(some 24), .move (.t 6), none, 0, 0⟩,
  ⟨(some 25), .conv .i32 (.t 24), none, 0, 1⟩,
  ⟨(some 26), .bin .shl (.t 25) (.c (.int .u64 31)), none, 0, 3⟩,
  ⟨(some 27), .bin .shr (.t 26) (.c (.int .u64 31)), none, 0, 7⟩,
  ⟨(some 7), .move (.t 27), none, 0, 15⟩]
def f86r8 : List AOper := [
  ⟨(some 28), .move (.t 0), none, 0, 0⟩,
  ⟨(some 29), .strIndex (.t 28) (.c (.int .i64 0)), none, 0, 1⟩,
  ⟨(some 30), .conv .i32 (.t 29), none, 0, 3⟩,
  ⟨(some 31), .move (.t 7), none, 0, 0⟩,
  ⟨(some 32), .bin .andNot (.t 30) (.t 31), none, 0, 15⟩,
  ⟨(some 33), .move (.t 7), none, 0, 0⟩,
  ⟨(some 34), .bin .and (.c (.int .i32 65533)) (.t 33), none, 0, 32⟩,
  ⟨(some 35), .bin .or (.t 32) (.t 34), none, 0, 127⟩,
  ⟨(some 2), .move (.t 35), none, 0, 255⟩,
  ⟨(some 3), .move (.c (.int .i64 1)), none, 0, 511⟩]
def f86r9 : List AOper := [
  ⟨(some 36), .move (.t 6), none, 0, 0⟩,
  ⟨(some 37), .bin .and (.t 36) (.c (.int .u8 7)), none, 0, 1⟩,
  ⟨(some 38), .conv .i64 (.t 37), none, 0, 3⟩,
  ⟨(some 8), .move (.t 38), none, 0, 7⟩]
def f86r10 : List AOper := [
  ⟨(some 39), .move (.t 6), none, 0, 0⟩,
  ⟨(some 40), .bin .shr (.t 39) (.c (.int .u64 4)), none, 0, 1⟩,
  ⟨(some 41), .idxArr 16 2 (.c (.ip gl2 0)) (.t 40), none, 0, 3⟩,
  ⟨(some 42), .load true 2 (.t 41), none, 0, 7⟩,
  ⟨(some 9), .alloc false [(.int .u8 0), (.int .u8 0)], none, 0, 0⟩,
  ⟨none, .store 2 (.t 9) (.t 42), none, 1, 31⟩]
def f86r11 : List AOper := [
  ⟨(some 43), .move (.t 4), none, 0, 0⟩,
  ⟨(some 44), .move (.t 8), none, 0, 0⟩,
  ⟨(some 45), .bin .lss (.t 43) (.t 44), none, 0, 3⟩]
def f86r12 : List AOper := [
  ⟨(some 2), .move (.c (.int .i32 65533)), none, 0, 0⟩,
  ⟨(some 3), .move (.c (.int .i64 1)), none, 0, 1⟩]
def f86r13 : List AOper := [
  ⟨(some 46), .move (.t 0), none, 0, 0⟩,
  ⟨(some 47), .strIndex (.t 46) (.c (.int .i64 1)), none, 0, 1⟩,
  ⟨(some 10), .move (.t 47), none, 0, 3⟩]
def f86r14 : List AOper := [
  ⟨(some 48), .move (.t 10), none, 0, 0⟩,
  ⟨(some 49), .fieldAddr 0 (.t 9), none, 0, 0⟩,
  ⟨(some 50), .load false 1 (.t 49), none, 0, 2⟩,
  ⟨(some 51), .bin .lss (.t 48) (.t 50), none, 0, 7⟩,
  ⟨(some 52), .move (.t 51), none, 0, 15⟩,
  ⟨(some 53), .fieldAddr 1 (.t 9), (some (52, false)), 0, 31⟩,
  ⟨(some 54), .load false 1 (.t 53), (some (52, false)), 0, 63⟩,
  ⟨(some 55), .move (.t 10), (some (52, false)), 0, 31⟩,
  ⟨(some 56), .bin .lss (.t 54) (.t 55), (some (52, false)), 0, 255⟩,
  ⟨(some 57), .pick (.t 52) (.c (.bool true)) (.t 56), none, 0, 511⟩]
def f86r15 : List AOper := [
  ⟨(some 2), .move (.c (.int .i32 65533)), none, 0, 0⟩,
  ⟨(some 3), .move (.c (.int .i64 1)), none, 0, 1⟩]
def f86r16 : List AOper := [
  ⟨(some 58), .move (.t 8), none, 0, 0⟩,
  ⟨(some 59), .bin .leq (.t 58) (.c (.int .i64 2)), none, 0, 1⟩]
def f86r17 : List AOper := [
  ⟨(some 60), .move (.t 5), none, 0, 0⟩,
  ⟨(some 61), .bin .and (.t 60) (.c (.int .u8 31)), none, 0, 1⟩,
  ⟨(some 62), .conv .i32 (.t 61), none, 0, 3⟩,
  ⟨(some 63), .bin .shl (.t 62) (.c (.int .u64 6)), none, 0, 7⟩,
  ⟨(some 64), .move (.t 10), none, 0, 0⟩,
  ⟨(some 65), .bin .and (.t 64) (.c (.int .u8 63)), none, 0, 16⟩,
  ⟨(some 66), .conv .i32 (.t 65), none, 0, 48⟩,
  ⟨(some 67), .bin .or (.t 63) (.t 66), none, 0, 127⟩,
  ⟨(some 2), .move (.t 67), none, 0, 255⟩,
  ⟨(some 3), .move (.c (.int .i64 2)), none, 0, 511⟩]
def f86r18 : List AOper := [
  ⟨(some 68), .move (.t 0), none, 0, 0⟩,
  ⟨(some 69), .strIndex (.t 68) (.c (.int .i64 2)), none, 0, 1⟩,
  ⟨(some 11), .move (.t 69), none, 0, 3⟩]
def f86r19 : List AOper := [
  ⟨(some 70), .move (.t 11), none, 0, 0⟩,
  ⟨(some 71), .bin .lss (.t 70) (.c (.int .u8 128)), none, 0, 1⟩,
  ⟨(some 72), .move (.t 71), none, 0, 3⟩,
  ⟨(some 73), .move (.t 11), (some (72, false)), 0, 7⟩,
  ⟨(some 74), .bin .lss (.c (.int .u8 191)) (.t 73), (some (72, false)), 0, 15⟩,
  ⟨(some 75), .pick (.t 72) (.c (.bool true)) (.t 74), none, 0, 31⟩]
def f86r20 : List AOper := [
  ⟨(some 2), .move (.c (.int .i32 65533)), none, 0, 0⟩,
  ⟨(some 3), .move (.c (.int .i64 1)), none, 0, 1⟩]
def f86r21 : List AOper := [
  ⟨(some 76), .move (.t 8), none, 0, 0⟩,
  ⟨(some 77), .bin .leq (.t 76) (.c (.int .i64 3)), none, 0, 1⟩]
def f86r22 : List AOper := [
  ⟨(some 78), .move (.t 5), none, 0, 0⟩,
  ⟨(some 79), .bin .and (.t 78) (.c (.int .u8 15)), none, 0, 1⟩,
  ⟨(some 80), .conv .i32 (.t 79), none, 0, 3⟩,
  ⟨(some 81), .bin .shl (.t 80) (.c (.int .u64 12)), none, 0, 7⟩,
  ⟨(some 82), .move (.t 10), none, 0, 0⟩,
  ⟨(some 83), .bin .and (.t 82) (.c (.int .u8 63)), none, 0, 16⟩,
  ⟨(some 84), .conv .i32 (.t 83), none, 0, 48⟩,
  ⟨(some 85), .bin .shl (.t 84) (.c (.int .u64 6)), none, 0, 112⟩,
  ⟨(some 86), .bin .or (.t 81) (.t 85), none, 0, 255⟩,
  ⟨(some 87), .move (.t 11), none, 0, 0⟩,
  ⟨(some 88), .bin .and (.t 87) (.c (.int .u8 63)), none, 0, 512⟩,
  ⟨(some 89), .conv .i32 (.t 88), none, 0, 1536⟩,
  ⟨(some 90), .bin .or (.t 86) (.t 89), none, 0, 4095⟩,
  ⟨(some 2), .move (.t 90), none, 0, 8191⟩,
  ⟨(some 3), .move (.c (.int .i64 3)), none, 0, 16383⟩]
def f86r23 : List AOper := [
  ⟨(some 91), .move (.t 0), none, 0, 0⟩,
  ⟨(some 92), .strIndex (.t 91) (.c (.int .i64 3)), none, 0, 1⟩,
  ⟨(some 12), .move (.t 92), none, 0, 3⟩]
def f86r24 : List AOper := [
  ⟨(some 93), .move (.t 12), none, 0, 0⟩,
  ⟨(some 94), .bin .lss (.t 93) (.c (.int .u8 128)), none, 0, 1⟩,
  ⟨(some 95), .move (.t 94), none, 0, 3⟩,
  ⟨(some 96), .move (.t 12), (some (95, false)), 0, 7⟩,
  ⟨(some 97), .bin .lss (.c (.int .u8 191)) (.t 96), (some (95, false)), 0, 15⟩,
  ⟨(some 98), .pick (.t 95) (.c (.bool true)) (.t 97), none, 0, 31⟩]
def f86r25 : List AOper := [
  ⟨(some 2), .move (.c (.int .i32 65533)), none, 0, 0⟩,
  ⟨(some 3), .move (.c (.int .i64 1)), none, 0, 1⟩]
def f86r26 : List AOper := [
  ⟨(some 99), .move (.t 5), none, 0, 0⟩,
  ⟨(some 100), .bin .and (.t 99) (.c (.int .u8 7)), none, 0, 1⟩,
  ⟨(some 101), .conv .i32 (.t 100), none, 0, 3⟩,
  ⟨(some 102), .bin .shl (.t 101) (.c (.int .u64 18)), none, 0, 7⟩,
  ⟨(some 103), .move (.t 10), none, 0, 0⟩,
  ⟨(some 104), .bin .and (.t 103) (.c (.int .u8 63)), none, 0, 16⟩,
  ⟨(some 105), .conv .i32 (.t 104), none, 0, 48⟩,
  ⟨(some 106), .bin .shl (.t 105) (.c (.int .u64 12)), none, 0, 112⟩,
  ⟨(some 107), .bin .or (.t 102) (.t 106), none, 0, 255⟩,
  ⟨(some 108), .move (.t 11), none, 0, 0⟩,
  ⟨(some 109), .bin .and (.t 108) (.c (.int .u8 63)), none, 0, 512⟩,
  ⟨(some 110), .conv .i32 (.t 109), none, 0, 1536⟩,
  ⟨(some 111), .bin .shl (.t 110) (.c (.int .u64 6)), none, 0, 3584⟩,
  ⟨(some 112), .bin .or (.t 107) (.t 111), none, 0, 8191⟩,
  ⟨(some 113), .move (.t 12), none, 0, 0⟩,
  ⟨(some 114), .bin .and (.t 113) (.c (.int .u8 63)), none, 0, 16384⟩,
  ⟨(some 115), .conv .i32 (.t 114), none, 0, 49152⟩,
  ⟨(some 116), .bin .or (.t 112) (.t 115), none, 0, 131071⟩,
  ⟨(some 2), .move (.t 116), none, 0, 262143⟩,
  ⟨(some 3), .move (.c (.int .i64 4)), none, 0, 524287⟩]
def f86c : ACode :=
  .seq (.region false f86r0 [0] 0)
  (.seq (.region false f86r1 [0, 4] 0)
  (.seq (.seq (.region false f86r2 [0, 4, 16] 0)
  (.cond (.t 16)
    (.seq (.region false f86r3 [2, 3] 0)
    (.ret))
    (.skip)))
  (.seq (.region false f86r4 [0, 4, 5] 0)
  (.seq (.region false f86r5 [0, 4, 5, 6] 0)
  (.seq (.seq (.region false f86r6 [0, 4, 5, 6, 23] 0)
  (.cond (.t 23)
    (.seq (.region false f86r7 [0, 7] 0)
    (.seq (.region false f86r8 [2, 3] 0)
    (.ret)))
    (.skip)))
  (.seq (.region false f86r9 [0, 4, 5, 6, 8] 0)
  (.seq (.region false f86r10 [0, 4, 5, 8, 9] 1)
  (.seq (.seq (.region false f86r11 [0, 5, 8, 9, 45] 0)
  (.cond (.t 45)
    (.seq (.region false f86r12 [2, 3] 0)
    (.ret))
    (.skip)))
  (.seq (.region false f86r13 [0, 5, 8, 9, 10] 0)
  (.seq (.seq (.region false f86r14 [0, 5, 8, 10, 57] 0)
  (.cond (.t 57)
    (.seq (.region false f86r15 [2, 3] 0)
    (.ret))
    (.skip)))
  (.seq (.seq (.region false f86r16 [0, 5, 8, 10, 59] 0)
  (.cond (.t 59)
    (.seq (.region false f86r17 [2, 3] 0)
    (.ret))
    (.skip)))
  (.seq (.region false f86r18 [0, 5, 8, 10, 11] 0)
  (.seq (.seq (.region false f86r19 [0, 5, 8, 10, 11, 75] 0)
  (.cond (.t 75)
    (.seq (.region false f86r20 [2, 3] 0)
    (.ret))
    (.skip)))
  (.seq (.seq (.region false f86r21 [0, 5, 10, 11, 77] 0)
  (.cond (.t 77)
    (.seq (.region false f86r22 [2, 3] 0)
    (.ret))
    (.skip)))
  (.seq (.region false f86r23 [5, 10, 11, 12] 0)
  (.seq (.seq (.region false f86r24 [5, 10, 11, 12, 98] 0)
  (.cond (.t 98)
    (.seq (.region false f86r25 [2, 3] 0)
    (.ret))
    (.skip)))
  (.seq (.region false f86r26 [2, 3] 0)
  (.ret))))))))))))))))))
def f86 : AFn := ⟨1, 117, [.tmp 2, .tmp 3], f86c, 1, none⟩
def f86k : List (Nat × List Nat) := [(0, [0]), (1, [0, 4]), (2, [0, 4, 16]), (3, [2, 3]), (4, [0, 4, 5]), (5, [0, 4, 5, 6]), (6, [0, 4, 5, 6, 23]), (7, [0, 7]), (8, [2, 3]), (9, [0, 4, 5, 6, 8]), (10, [0, 4, 5, 8, 9]), (11, [0, 5, 8, 9, 45]), (12, [2, 3]), (13, [0, 5, 8, 9, 10]), (14, [0, 5, 8, 10, 57]), (15, [2, 3]), (16, [0, 5, 8, 10, 59]), (17, [2, 3]), (18, [0, 5, 8, 10, 11]), (19, [0, 5, 8, 10, 11, 75]), (20, [2, 3]), (21, [0, 5, 10, 11, 77]), (22, [2, 3]), (23, [5, 10, 11, 12]), (24, [5, 10, 11, 12, 98]), (25, [2, 3]), (26, [2, 3])]
def f86v : List Nat := [115, 110, 105, 101, 89, 84, 80, 66, 62, 38, 30, 25]

/-! 87: strings.IndexRune, parameters [9, 21], results [3] -/
def f87r0 : List AOper := [
  ⟨(some 4), .move (.c (.int .i64 0)), none, 0, 0⟩]
def f87r1 : List AOper := [
  ⟨(some 161), .move (.t 1), none, 0, 0⟩,
  ⟨(some 162), .bin .leq (.c (.int .i32 0)) (.t 161), none, 0, 1⟩,
  ⟨(some 163), .move (.t 162), none, 0, 3⟩,
  ⟨(some 164), .move (.t 1), (some (163, true)), 0, 7⟩,
  ⟨(some 165), .bin .lss (.t 164) (.c (.int .i32 128)), (some (163, true)), 0, 15⟩,
  ⟨(some 166), .pick (.t 163) (.t 165) (.c (.bool false)), none, 0, 31⟩,
  ⟨(some 160), .move (.t 166), none, 0, 63⟩]
def f87r2 : List AOper := [
  ⟨(some 167), .move (.t 0), none, 0, 0⟩,
  ⟨(some 168), .move (.t 1), none, 0, 0⟩,
  ⟨(some 169), .conv .u8 (.t 168), none, 0, 2⟩,
  ⟨(some 170), .call (.c (.fn 94 [] [])) [(.t 167), (.t 169)], none, 0, 7⟩,
  ⟨(some 4), .move (.t 170), none, 0, 15⟩]
def f87r3 : List AOper := [
  ⟨(some 172), .move (.t 1), none, 0, 0⟩,
  ⟨(some 173), .bin .eql (.t 172) (.c (.int .i32 65533)), none, 0, 1⟩,
  ⟨(some 171), .move (.t 173), none, 0, 3⟩]
def f87r4 : List AOper := [
  ⟨(some 174), .move (.t 0), none, 0, 0⟩,
  ⟨(some 175), .stuck, none, 0, 1⟩]
def f87r5 : List AOper := [
  ⟨(some 176), .stuck, none, 0, 0⟩,
  ⟨(some 177), .extract (.t 176) 0, none, 0, 1⟩]
def f87r6 : List AOper := [
  ⟨(some 178), .extract (.t 176) 1, none, 0, 0⟩,
  ⟨(some 179), .extract (.t 176) 2, none, 0, 0⟩,
  ⟨(some 5), .move (.t 178), none, 0, 1⟩,
  ⟨(some 6), .move (.t 179), none, 0, 7⟩]
def f87r7 : List AOper := [
  ⟨(some 180), .move (.t 6), none, 0, 0⟩,
  ⟨(some 181), .bin .eql (.t 180) (.c (.int .i32 65533)), none, 0, 1⟩]
def f87r8 : List AOper := [
  ⟨(some 182), .move (.t 5), none, 0, 0⟩,
  ⟨(some 4), .move (.t 182), none, 0, 1⟩]
def f87m5 : ACode :=
  .seq (.region false f87r5 [176, 177] 0)
  (.seq (.cond (.t 177)
    (.skip)
    (.exit 9))
  (.block 10 (.seq (.region false f87r6 [5, 6] 0)
    (.seq (.region false f87r7 [5, 181] 0)
    (.cond (.t 181)
      (.seq (.region false f87r8 [4] 0)
      (.ret))
      (.skip))))))
def f87l5 : ACode := f87m5
theorem f87l5_b {A : Tab} {nt : Nat} {e : Env} {h : Heap} : Brun A nt f87l5 e h = Brun A nt f87m5 e h := rfl
def f87r9 : List AOper := [
  ⟨(some 4), .move (.c (.int .i64 (-1))), none, 0, 0⟩]
def f87r10 : List AOper := [
  ⟨(some 184), .move (.t 1), none, 0, 0⟩,
  ⟨(some 185), .call (.c (.fn 95 [] [])) [(.t 184)], none, 0, 1⟩,
  ⟨(some 186), .un .not (.t 185), none, 0, 3⟩,
  ⟨(some 183), .move (.t 186), none, 0, 7⟩]
def f87r11 : List AOper := [
  ⟨(some 4), .move (.c (.int .i64 (-1))), none, 0, 0⟩]
def f87r12 : List AOper := [
  ⟨(some 17), .move (.t 1), none, 0, 0⟩,
  ⟨(some 18), .stuck, none, 0, 1⟩,
  ⟨(some 7), .move (.t 18), none, 0, 3⟩]
def f87r13 : List AOper := [
  ⟨(some 19), .move (.t 7), none, 0, 0⟩,
  ⟨(some 20), .len 0 (.t 19), none, 0, 1⟩,
  ⟨(some 21), .bin .sub (.t 20) (.c (.int .i64 1)), none, 0, 3⟩,
  ⟨(some 8), .move (.t 21), none, 0, 7⟩]
def f87r14 : List AOper := [
  ⟨(some 22), .move (.t 8), none, 0, 0⟩,
  ⟨(some 9), .move (.t 22), none, 0, 1⟩]
def f87r15 : List AOper := [
  ⟨(some 10), .move (.c (.int .i64 0)), none, 0, 0⟩]
def f87r16 : List AOper := [
  ⟨(some 23), .move (.t 9), none, 0, 0⟩,
  ⟨(some 24), .move (.t 0), none, 0, 0⟩,
  ⟨(some 25), .len 0 (.t 24), none, 0, 2⟩,
  ⟨(some 26), .bin .lss (.t 23) (.t 25), none, 0, 7⟩]
def f87q17 : List AOper := [
  ⟨(some 27), .move (.t 0), none, 0, 0⟩,
  ⟨(some 28), .move (.t 9), none, 0, 0⟩,
  ⟨(some 29), .strIndex (.t 27) (.t 28), none, 0, 3⟩,
  ⟨(some 30), .move (.t 7), none, 0, 0⟩,
  ⟨(some 31), .move (.t 8), none, 0, 0⟩,
  ⟨(some 32), .strIndex (.t 30) (.t 31), none, 0, 24⟩,
  ⟨(some 33), .bin .neq (.t 29) (.t 32), none, 0, 63⟩]
def f87r17 : List AOper := f87q17
def f87q18 : List AOper := [
  ⟨(some 34), .move (.t 0), none, 0, 0⟩,
  ⟨(some 35), .move (.t 9), none, 0, 0⟩,
  ⟨(some 36), .bin .add (.t 35) (.c (.int .i64 1)), none, 0, 2⟩,
  ⟨(some 37), .strSlice (.t 34) (some (.t 36)) none, none, 0, 7⟩,
  ⟨(some 38), .move (.t 7), none, 0, 0⟩,
  ⟨(some 39), .move (.t 8), none, 0, 0⟩,
  ⟨(some 40), .strIndex (.t 38) (.t 39), none, 0, 48⟩,
  ⟨(some 41), .call (.c (.fn 94 [] [])) [(.t 37), (.t 40)], none, 0, 127⟩,
  ⟨(some 11), .move (.t 41), none, 0, 255⟩]
def f87r18 : List AOper := f87q18
def f87r19 : List AOper := [
  ⟨(some 42), .move (.t 11), none, 0, 0⟩,
  ⟨(some 43), .bin .lss (.t 42) (.c (.int .i64 0)), none, 0, 1⟩]
def f87r20 : List AOper := [
  ⟨(some 4), .move (.c (.int .i64 (-1))), none, 0, 0⟩]
def f87r21 : List AOper := [
  ⟨(some 44), .move (.t 9), none, 0, 0⟩,
  ⟨(some 45), .move (.t 11), none, 0, 0⟩,
  ⟨(some 46), .bin .add (.t 45) (.c (.int .i64 1)), none, 0, 2⟩,
  ⟨(some 47), .bin .add (.t 44) (.t 46), none, 0, 7⟩,
  ⟨(some 9), .move (.t 47), none, 0, 15⟩]
def f87r22 : List AOper := [
  ⟨(some 12), .move (.c (.int .i64 1)), none, 0, 0⟩]
def f87r23 : List AOper := [
  ⟨(some 48), .move (.t 12), none, 0, 0⟩,
  ⟨(some 49), .move (.t 7), none, 0, 0⟩,
  ⟨(some 50), .len 0 (.t 49), none, 0, 2⟩,
  ⟨(some 51), .bin .lss (.t 48) (.t 50), none, 0, 7⟩]
def f87q24 : List AOper := [
  ⟨(some 54), .move (.t 0), none, 0, 0⟩,
  ⟨(some 55), .move (.t 9), none, 0, 0⟩,
  ⟨(some 56), .move (.t 12), none, 0, 0⟩,
  ⟨(some 57), .bin .sub (.t 55) (.t 56), none, 0, 6⟩,
  ⟨(some 58), .strIndex (.t 54) (.t 57), none, 0, 15⟩,
  ⟨(some 59), .move (.t 7), none, 0, 0⟩,
  ⟨(some 60), .move (.t 8), none, 0, 0⟩,
  ⟨(some 61), .move (.t 12), none, 0, 0⟩,
  ⟨(some 62), .bin .sub (.t 60) (.t 61), none, 0, 192⟩,
  ⟨(some 63), .strIndex (.t 59) (.t 62), none, 0, 480⟩,
  ⟨(some 64), .bin .neq (.t 58) (.t 63), none, 0, 1023⟩]
def f87r24 : List AOper := f87q24
def f87r25 : List AOper := [
  ⟨(some 52), .move (.t 12), none, 0, 0⟩,
  ⟨(some 53), .bin .add (.t 52) (.c (.int .i64 1)), none, 0, 1⟩,
  ⟨(some 12), .move (.t 53), none, 0, 3⟩]
def f87m23 : ACode :=
  .seq (.seq (.region false f87r23 [0, 7, 8, 9, 12, 51] 0)
  (.cond (.t 51)
    (.skip)
    (.exit 3)))
  (.seq (.block 4 (.seq (.region true f87r24 [0, 7, 8, 9, 12, 64] 0)
    (.cond (.t 64)
      (.stuck)
      (.skip))))
  (.region false f87r25 [0, 7, 8, 9, 12] 0))
def f87l23 : ACode := f87m23
theorem f87l23_b {A : Tab} {nt : Nat} {e : Env} {h : Heap} : Brun A nt f87l23 e h = Brun A nt f87m23 e h := rfl
def f87r26 : List AOper := [
  ⟨(some 65), .move (.t 9), none, 0, 0⟩,
  ⟨(some 66), .move (.t 8), none, 0, 0⟩,
  ⟨(some 67), .bin .sub (.t 65) (.t 66), none, 0, 3⟩,
  ⟨(some 4), .move (.t 67), none, 0, 7⟩]
def f87r27 : List AOper := [
  ⟨(some 68), .move (.t 10), none, 0, 0⟩,
  ⟨(some 69), .bin .add (.t 68) (.c (.int .i64 1)), none, 0, 1⟩,
  ⟨(some 10), .move (.t 69), none, 0, 3⟩]
def f87r28 : List AOper := [
  ⟨(some 70), .move (.t 9), none, 0, 0⟩,
  ⟨(some 71), .bin .add (.t 70) (.c (.int .i64 1)), none, 0, 1⟩,
  ⟨(some 9), .move (.t 71), none, 0, 3⟩]
def f87r29 : List AOper := [
  ⟨(some 72), .move (.c (.bool true)), none, 0, 0⟩,
  ⟨(some 73), .move (.t 10), (some (72, true)), 0, 1⟩,
  ⟨(some 74), .move (.t 9), (some (72, true)), 0, 1⟩,
  ⟨(some 75), .call (.c (.fn 96 [] [])) [(.t 74)], (some (72, true)), 0, 5⟩,
  ⟨(some 76), .bin .gtr (.t 73) (.t 75), (some (72, true)), 0, 15⟩,
  ⟨(some 77), .pick (.t 72) (.t 76) (.c (.bool false)), none, 0, 31⟩,
  ⟨(some 78), .move (.t 77), none, 0, 63⟩,
  ⟨(some 79), .move (.t 9), (some (78, true)), 0, 127⟩,
  ⟨(some 80), .move (.t 0), (some (78, true)), 0, 127⟩,
  ⟨(some 81), .len 0 (.t 80), (some (78, true)), 0, 383⟩,
  ⟨(some 82), .bin .lss (.t 79) (.t 81), (some (78, true)), 0, 1023⟩,
  ⟨(some 83), .pick (.t 78) (.t 82) (.c (.bool false)), none, 0, 2047⟩,
  ⟨(some 84), .move (.t 83), none, 0, 4095⟩,
  ⟨(some 85), .move (.c (.bool false)), (some (84, false)), 0, 8191⟩,
  ⟨(some 86), .move (.t 10), (some (85, true)), 0, 16383⟩,
  ⟨(some 87), .move (.t 9), (some (85, true)), 0, 16383⟩,
  ⟨(some 88), .bin .shr (.t 87) (.c (.int .u64 4)), (some (85, true)), 0, 49151⟩,
  ⟨(some 89), .bin .add (.c (.int .i64 4)) (.t 88), (some (85, true)), 0, 114687⟩,
  ⟨(some 90), .bin .geq (.t 86) (.t 89), (some (85, true)), 0, 262143⟩,
  ⟨(some 91), .pick (.t 85) (.t 90) (.c (.bool false)), (some (84, false)), 0, 524287⟩,
  ⟨(some 92), .move (.t 91), (some (84, false)), 0, 1048575⟩,
  ⟨(some 93), .move (.t 9), (some (92, true)), 0, 2097151⟩,
  ⟨(some 94), .move (.t 0), (some (92, true)), 0, 2097151⟩,
  ⟨(some 95), .len 0 (.t 94), (some (92, true)), 0, 6291455⟩,
  ⟨(some 96), .bin .lss (.t 93) (.t 95), (some (92, true)), 0, 16777215⟩,
  ⟨(some 97), .pick (.t 92) (.t 96) (.c (.bool false)), (some (84, false)), 0, 33554431⟩,
  ⟨(some 98), .pick (.t 84) (.c (.bool true)) (.t 97), none, 0, 67108863⟩]
def f87m16 : ACode :=
  .seq (.seq (.region false f87r16 [0, 7, 8, 9, 26] 0)
  (.cond (.t 26)
    (.skip)
    (.exit 1)))
  (.block 2 (.seq (.seq (.region true f87r17 [0, 7, 8, 9, 33] 0)
    (.cond (.t 33)
      (.seq (.region true f87r18 [0, 7, 8, 9, 11] 0)
      (.seq (.seq (.region false f87r19 [0, 7, 8, 9, 11, 43] 0)
      (.cond (.t 43)
        (.seq (.region false f87r20 [4] 0)
        (.ret))
        (.skip)))
      (.region false f87r21 [0, 7, 8, 9] 0)))
      (.skip)))
    (.seq (.seq (.region false f87r22 [0, 7, 8, 9, 12] 0)
    (.block 3 (.loop f87l23)))
    (.seq (.seq (.region false f87r26 [4] 0)
    (.ret))
    (.seq (.skip)
    (.seq (.region false f87r27 [0, 7, 8, 9, 10] 0)
    (.seq (.region false f87r28 [0, 7, 8, 9, 10] 0)
    (.seq (.region false f87r29 [0, 7, 8, 9, 98] 0)
    (.cond (.t 98)
      (.stuck)
      (.skip))))))))))
def f87l16 : ACode := f87m16
theorem f87l16_b {A : Tab} {nt : Nat} {e : Env} {h : Heap} : Brun A nt f87l16 e h = Brun A nt f87m16 e h := rfl
def f87r30 : List AOper := [
  ⟨(some 4), .move (.c (.int .i64 (-1))), none, 0, 0⟩]
def f87r31 : List AOper := [
  ⟨(some 99), .move (.t 0), none, 0, 0⟩,
  ⟨(some 100), .move (.t 9), none, 0, 0⟩,
  ⟨(some 101), .move (.t 8), none, 0, 0⟩,
  ⟨(some 102), .bin .sub (.t 100) (.t 101), none, 0, 6⟩,
  ⟨(some 103), .strSlice (.t 99) (some (.t 102)) none, none, 0, 15⟩,
  ⟨(some 104), .move (.t 1), none, 0, 0⟩,
  ⟨(some 105), .stuck, none, 0, 32⟩,
  ⟨(some 106), .call (.c (.fn 97 [] [])) [(.t 103), (.t 105)], none, 0, 127⟩,
  ⟨(some 13), .move (.t 106), none, 0, 255⟩]
def f87r32 : List AOper := [
  ⟨(some 107), .move (.t 13), none, 0, 0⟩,
  ⟨(some 108), .bin .geq (.t 107) (.c (.int .i64 0)), none, 0, 1⟩]
def f87r33 : List AOper := [
  ⟨(some 109), .move (.t 9), none, 0, 0⟩,
  ⟨(some 110), .move (.t 13), none, 0, 0⟩,
  ⟨(some 111), .bin .add (.t 109) (.t 110), none, 0, 3⟩,
  ⟨(some 112), .move (.t 8), none, 0, 0⟩,
  ⟨(some 113), .bin .sub (.t 111) (.t 112), none, 0, 15⟩,
  ⟨(some 4), .move (.t 113), none, 0, 31⟩]
def f87r34 : List AOper := [
  ⟨(some 114), .move (.t 7), none, 0, 0⟩,
  ⟨(some 115), .move (.t 8), none, 0, 0⟩,
  ⟨(some 116), .strIndex (.t 114) (.t 115), none, 0, 3⟩,
  ⟨(some 14), .move (.t 116), none, 0, 7⟩]
def f87r35 : List AOper := [
  ⟨(some 117), .move (.t 7), none, 0, 0⟩,
  ⟨(some 118), .move (.t 8), none, 0, 0⟩,
  ⟨(some 119), .bin .sub (.t 118) (.c (.int .i64 1)), none, 0, 2⟩,
  ⟨(some 120), .strIndex (.t 117) (.t 119), none, 0, 7⟩,
  ⟨(some 15), .move (.t 120), none, 0, 15⟩]
def f87r36 : List AOper := [
  ⟨(some 121), .move (.t 9), none, 0, 0⟩,
  ⟨(some 122), .move (.t 0), none, 0, 0⟩,
  ⟨(some 123), .len 0 (.t 122), none, 0, 2⟩,
  ⟨(some 124), .bin .lss (.t 121) (.t 123), none, 0, 7⟩]
def f87r37 : List AOper := [
  ⟨(some 127), .move (.t 0), none, 0, 0⟩,
  ⟨(some 128), .move (.t 9), none, 0, 0⟩,
  ⟨(some 129), .strIndex (.t 127) (.t 128), none, 0, 3⟩,
  ⟨(some 130), .move (.t 14), none, 0, 0⟩,
  ⟨(some 131), .bin .eql (.t 129) (.t 130), none, 0, 15⟩,
  ⟨(some 132), .move (.t 131), none, 0, 31⟩,
  ⟨(some 133), .move (.t 0), (some (132, true)), 0, 63⟩,
  ⟨(some 134), .move (.t 9), (some (132, true)), 0, 63⟩,
  ⟨(some 135), .bin .sub (.t 134) (.c (.int .i64 1)), (some (132, true)), 0, 191⟩,
  ⟨(some 136), .strIndex (.t 133) (.t 135), (some (132, true)), 0, 511⟩,
  ⟨(some 137), .move (.t 15), (some (132, true)), 0, 63⟩,
  ⟨(some 138), .bin .eql (.t 136) (.t 137), (some (132, true)), 0, 2047⟩,
  ⟨(some 139), .pick (.t 132) (.t 138) (.c (.bool false)), none, 0, 4095⟩]
def f87r38 : List AOper := [
  ⟨(some 16), .move (.c (.int .i64 2)), none, 0, 0⟩]
def f87r39 : List AOper := [
  ⟨(some 140), .move (.t 16), none, 0, 0⟩,
  ⟨(some 141), .move (.t 7), none, 0, 0⟩,
  ⟨(some 142), .len 0 (.t 141), none, 0, 2⟩,
  ⟨(some 143), .bin .lss (.t 140) (.t 142), none, 0, 7⟩]
def f87q40 : List AOper := [
  ⟨(some 146), .move (.t 0), none, 0, 0⟩,
  ⟨(some 147), .move (.t 9), none, 0, 0⟩,
  ⟨(some 148), .move (.t 16), none, 0, 0⟩,
  ⟨(some 149), .bin .sub (.t 147) (.t 148), none, 0, 6⟩,
  ⟨(some 150), .strIndex (.t 146) (.t 149), none, 0, 15⟩,
  ⟨(some 151), .move (.t 7), none, 0, 0⟩,
  ⟨(some 152), .move (.t 8), none, 0, 0⟩,
  ⟨(some 153), .move (.t 16), none, 0, 0⟩,
  ⟨(some 154), .bin .sub (.t 152) (.t 153), none, 0, 192⟩,
  ⟨(some 155), .strIndex (.t 151) (.t 154), none, 0, 480⟩,
  ⟨(some 156), .bin .neq (.t 150) (.t 155), none, 0, 1023⟩]
def f87r40 : List AOper := f87q40
def f87r41 : List AOper := [
  ⟨(some 144), .move (.t 16), none, 0, 0⟩,
  ⟨(some 145), .bin .add (.t 144) (.c (.int .i64 1)), none, 0, 1⟩,
  ⟨(some 16), .move (.t 145), none, 0, 3⟩]
def f87m39 : ACode :=
  .seq (.seq (.region false f87r39 [0, 7, 8, 9, 14, 15, 16, 143] 0)
  (.cond (.t 143)
    (.skip)
    (.exit 7)))
  (.seq (.block 8 (.seq (.region true f87r40 [0, 7, 8, 9, 14, 15, 16, 156] 0)
    (.cond (.t 156)
      (.exit 6)
      (.skip))))
  (.region false f87r41 [0, 7, 8, 9, 14, 15, 16] 0))
def f87l39 : ACode := f87m39
theorem f87l39_b {A : Tab} {nt : Nat} {e : Env} {h : Heap} : Brun A nt f87l39 e h = Brun A nt f87m39 e h := rfl
def f87r42 : List AOper := [
  ⟨(some 157), .move (.t 9), none, 0, 0⟩,
  ⟨(some 158), .move (.t 8), none, 0, 0⟩,
  ⟨(some 159), .bin .sub (.t 157) (.t 158), none, 0, 3⟩,
  ⟨(some 4), .move (.t 159), none, 0, 7⟩]
def f87r43 : List AOper := [
  ⟨(some 125), .move (.t 9), none, 0, 0⟩,
  ⟨(some 126), .bin .add (.t 125) (.c (.int .i64 1)), none, 0, 1⟩,
  ⟨(some 9), .move (.t 126), none, 0, 3⟩]
def f87m36 : ACode :=
  .seq (.seq (.region false f87r36 [0, 7, 8, 9, 14, 15, 124] 0)
  (.cond (.t 124)
    (.skip)
    (.exit 5)))
  (.seq (.block 6 (.seq (.region false f87r37 [0, 7, 8, 9, 14, 15, 139] 0)
    (.cond (.t 139)
      (.seq (.seq (.region false f87r38 [0, 7, 8, 9, 14, 15, 16] 0)
      (.block 7 (.loop f87l39)))
      (.seq (.region false f87r42 [4] 0)
      (.ret)))
      (.skip))))
  (.region false f87r43 [0, 7, 8, 9, 14, 15] 0))
def f87l36 : ACode := f87m36
theorem f87l36_b {A : Tab} {nt : Nat} {e : Env} {h : Heap} : Brun A nt f87l36 e h = Brun A nt f87m36 e h := rfl
def f87r44 : List AOper := [
  ⟨(some 4), .move (.c (.int .i64 (-1))), none, 0, 0⟩]
theorem f87r17_s : staticOK 0 f87r17 = true := by rfl
theorem f87r17_w {A : Tab} {nt : Nat} {keep : List Nat} {n : Nat} {e : Env} {h : Heap} (hr : (bkeep keep (stepsF nt (stepF A true) h.length f87r17 e (h ++ List.replicate n .free))).isSome = true) : Brun A nt (.region true f87r17 keep n) e h = bkeep keep (stepsF nt (stepF A true) h.length f87r17 e (h ++ List.replicate n .free)) := Brun_drawnS f87r17_s hr
theorem f87r17_u (nt base : Nat) (step : Nat → AOp → Env → Heap → Option (AV × Heap)) (e : Env) (h : Heap) : stepsF nt step base f87r17 e h = stepsF nt step base f87q17 e h := rfl
theorem f87r18_s : staticOK 0 f87r18 = true := by rfl
theorem f87r18_w {A : Tab} {nt : Nat} {keep : List Nat} {n : Nat} {e : Env} {h : Heap} (hr : (bkeep keep (stepsF nt (stepF A true) h.length f87r18 e (h ++ List.replicate n .free))).isSome = true) : Brun A nt (.region true f87r18 keep n) e h = bkeep keep (stepsF nt (stepF A true) h.length f87r18 e (h ++ List.replicate n .free)) := Brun_drawnS f87r18_s hr
theorem f87r18_u (nt base : Nat) (step : Nat → AOp → Env → Heap → Option (AV × Heap)) (e : Env) (h : Heap) : stepsF nt step base f87r18 e h = stepsF nt step base f87q18 e h := rfl
theorem f87r24_s : staticOK 0 f87r24 = true := by rfl
theorem f87r24_w {A : Tab} {nt : Nat} {keep : List Nat} {n : Nat} {e : Env} {h : Heap} (hr : (bkeep keep (stepsF nt (stepF A true) h.length f87r24 e (h ++ List.replicate n .free))).isSome = true) : Brun A nt (.region true f87r24 keep n) e h = bkeep keep (stepsF nt (stepF A true) h.length f87r24 e (h ++ List.replicate n .free)) := Brun_drawnS f87r24_s hr
theorem f87r24_u (nt base : Nat) (step : Nat → AOp → Env → Heap → Option (AV × Heap)) (e : Env) (h : Heap) : stepsF nt step base f87r24 e h = stepsF nt step base f87q24 e h := rfl
theorem f87r40_s : staticOK 0 f87r40 = true := by rfl
theorem f87r40_w {A : Tab} {nt : Nat} {keep : List Nat} {n : Nat} {e : Env} {h : Heap} (hr : (bkeep keep (stepsF nt (stepF A true) h.length f87r40 e (h ++ List.replicate n .free))).isSome = true) : Brun A nt (.region true f87r40 keep n) e h = bkeep keep (stepsF nt (stepF A true) h.length f87r40 e (h ++ List.replicate n .free)) := Brun_drawnS f87r40_s hr
theorem f87r40_u (nt base : Nat) (step : Nat → AOp → Env → Heap → Option (AV × Heap)) (e : Env) (h : Heap) : stepsF nt step base f87r40 e h = stepsF nt step base f87q40 e h := rfl
def f87c : ACode :=
  .seq (.region false f87r0 [0, 1] 0)
  (.block 0 (.seq (.region false f87r1 [0, 1, 160] 0)
    (.cond (.t 160)
      (.seq (.region false f87r2 [4] 0)
      (.ret))
      (.seq (.region false f87r3 [0, 1, 171] 0)
      (.cond (.t 171)
        (.seq (.seq (.region false f87r4 [] 0)
        (.block 9 (.loop f87l5)))
        (.seq (.region false f87r9 [4] 0)
        (.ret)))
        (.seq (.region false f87r10 [0, 1, 183] 0)
        (.cond (.t 183)
          (.seq (.region false f87r11 [4] 0)
          (.ret))
          (.seq (.region false f87r12 [0, 7] 0)
          (.seq (.region false f87r13 [0, 7, 8] 0)
          (.seq (.region false f87r14 [0, 7, 8, 9] 0)
          (.seq (.region false f87r15 [0, 7, 8, 9] 0)
          (.seq (.block 1 (.loop f87l16))
          (.seq (.seq (.region false f87r30 [4] 0)
          (.ret))
          (.seq (.skip)
          (.seq (.cond (.c (.bool true))
            (.seq (.region false f87r31 [8, 9, 13] 0)
            (.seq (.region false f87r32 [8, 9, 13, 108] 0)
            (.cond (.t 108)
              (.seq (.region false f87r33 [4] 0)
              (.ret))
              (.skip))))
            (.seq (.region false f87r34 [0, 7, 8, 9, 14] 0)
            (.seq (.region false f87r35 [0, 7, 8, 9, 14, 15] 0)
            (.seq (.skip)
            (.block 5 (.loop f87l36))))))
          (.seq (.region false f87r44 [4] 0)
          (.ret)))))))))))))))))
def f87 : AFn := ⟨2, 187, [.tmp 4], f87c, 1, none⟩
def f87k : List (Nat × List Nat) := [(0, [0, 1]), (34, [0, 1, 160]), (36, [0, 1, 171]), (43, [0, 1, 183]), (1, [0, 7]), (2, [0, 7, 8]), (3, [0, 7, 8, 9]), (4, [0, 7, 8, 9]), (5, [0, 7, 8, 9, 26]), (6, [0, 7, 8, 9, 33]), (7, [0, 7, 8, 9, 11]), (8, [0, 7, 8, 9, 11, 43]), (9, [4]), (10, [0, 7, 8, 9]), (11, [0, 7, 8, 9, 12]), (12, [0, 7, 8, 9, 12, 51]), (14, [0, 7, 8, 9, 12, 64]), (13, [0, 7, 8, 9, 12]), (15, [4]), (16, [0, 7, 8, 9, 10]), (17, [0, 7, 8, 9, 10]), (18, [0, 7, 8, 9, 98]), (19, [4]), (23, [0, 7, 8, 9, 14]), (24, [0, 7, 8, 9, 14, 15]), (25, [0, 7, 8, 9, 14, 15, 124]), (27, [0, 7, 8, 9, 14, 15, 139]), (28, [0, 7, 8, 9, 14, 15, 16]), (29, [0, 7, 8, 9, 14, 15, 16, 143]), (31, [0, 7, 8, 9, 14, 15, 16, 156]), (30, [0, 7, 8, 9, 14, 15, 16]), (32, [4]), (26, [0, 7, 8, 9, 14, 15]), (20, [8, 9, 13]), (21, [8, 9, 13, 108]), (22, [4]), (33, [4]), (44, [4]), (37, []), (38, [176, 177]), (39, [5, 6]), (40, [5, 181]), (41, [4]), (42, [4]), (35, [4])]
def f87v : List Nat := [105, 18, 169]

/-! 88: unicode/utf8.RuneStart, parameters [5], results [4] -/
def f88r0 : List AOper := [
  ⟨(some 2), .move (.c (.bool false)), none, 0, 0⟩]
def f88r1 : List AOper := [
  ⟨(some 3), .move (.t 0), none, 0, 0⟩,
  ⟨(some 4), .bin .and (.t 3) (.c (.int .u8 192)), none, 0, 1⟩,
  ⟨(some 5), .bin .neq (.t 4) (.c (.int .u8 128)), none, 0, 3⟩,
  ⟨(some 2), .move (.t 5), none, 0, 7⟩]
def f88c : ACode :=
  .seq (.region false f88r0 [0] 0)
  (.seq (.region false f88r1 [2] 0)
  (.ret))
def f88 : AFn := ⟨1, 6, [.tmp 2], f88c, 1, none⟩
def f88k : List (Nat × List Nat) := [(0, [0]), (1, [2])]
def f88v : List Nat := []

/-! 89: internal/strconv.log10Pow2, parameters [3], results [3] -/
def f89r0 : List AOper := [
  ⟨(some 2), .move (.c (.int .i64 0)), none, 0, 0⟩]
def f89r1 : List AOper := [
  ⟨(some 3), .move (.t 0), none, 0, 0⟩,
  ⟨(some 4), .bin .mul (.t 3) (.c (.int .i64 78913)), none, 0, 1⟩,
  ⟨(some 5), .bin .shr (.t 4) (.c (.int .u64 18)), none, 0, 3⟩,
  ⟨(some 2), .move (.t 5), none, 0, 7⟩]
def f89c : ACode :=
  .seq (.region false f89r0 [0] 0)
  (.seq (.region false f89r1 [2] 0)
  (.ret))
def f89 : AFn := ⟨1, 6, [.tmp 2], f89c, 1, none⟩
def f89k : List (Nat × List Nat) := [(0, [0]), (1, [2])]
def f89v : List Nat := []

/-! 90: math/bits.Len64, parameters [102], results [3] -/
def f90r0 : List AOper := [
  ⟨(some 2), .move (.c (.int .i64 0)), none, 0, 0⟩]
def f90r1 : List AOper := [
  ⟨(some 3), .move (.t 0), none, 0, 0⟩,
  ⟨(some 4), .bin .geq (.t 3) (.c (.int .u64 4294967296)), none, 0, 1⟩]
def f90r2 : List AOper := [
  ⟨(some 5), .move (.t 0), none, 0, 0⟩,
  ⟨(some 6), .bin .shr (.t 5) (.c (.int .u64 32)), none, 0, 1⟩,
  ⟨(some 0), .move (.t 6), none, 0, 3⟩]
def f90r3 : List AOper := [
  ⟨(some 2), .move (.c (.int .i64 32)), none, 0, 0⟩]
def f90r4 : List AOper := [
  ⟨(some 7), .move (.t 0), none, 0, 0⟩,
  ⟨(some 8), .bin .geq (.t 7) (.c (.int .u64 65536)), none, 0, 1⟩]
def f90r5 : List AOper := [
  ⟨(some 9), .move (.t 0), none, 0, 0⟩,
  ⟨(some 10), .bin .shr (.t 9) (.c (.int .u64 16)), none, 0, 1⟩,
  ⟨(some 0), .move (.t 10), none, 0, 3⟩]
def f90r6 : List AOper := [
  ⟨(some 11), .move (.t 2), none, 0, 0⟩,
  ⟨(some 12), .bin .add (.t 11) (.c (.int .i64 16)), none, 0, 1⟩,
  ⟨(some 2), .move (.t 12), none, 0, 3⟩]
def f90r7 : List AOper := [
  ⟨(some 13), .move (.t 0), none, 0, 0⟩,
  ⟨(some 14), .bin .geq (.t 13) (.c (.int .u64 256)), none, 0, 1⟩]
def f90r8 : List AOper := [
  ⟨(some 15), .move (.t 0), none, 0, 0⟩,
  ⟨(some 16), .bin .shr (.t 15) (.c (.int .u64 8)), none, 0, 1⟩,
  ⟨(some 0), .move (.t 16), none, 0, 3⟩]
def f90r9 : List AOper := [
  ⟨(some 17), .move (.t 2), none, 0, 0⟩,
  ⟨(some 18), .bin .add (.t 17) (.c (.int .i64 8)), none, 0, 1⟩,
  ⟨(some 2), .move (.t 18), none, 0, 3⟩]
def f90r10 : List AOper := [
  ⟨(some 19), .move (.t 2), none, 0, 0⟩,
  ⟨(some 20), .move (.t 0), none, 0, 0⟩,
  ⟨(some 21), .conv .u8 (.t 20), none, 0, 2⟩,
  ⟨(some 22), .strIndex (.c (.str [0, 1, 2, 2, 3, 3, 3, 3, 4, 4, 4, 4, 4, 4, 4, 4, 5, 5, 5, 5, 5, 5, 5, 5, 5, 5, 5, 5, 5, 5, 5, 5, 6, 6, 6, 6, 6, 6, 6, 6, 6, 6, 6, 6, 6, 6, 6, 6, 6, 6, 6, 6, 6, 6, 6, 6, 6, 6, 6, 6, 6, 6, 6, 6, 7, 7, 7, 7, 7, 7, 7, 7, 7, 7, 7, 7, 7, 7, 7, 7, 7, 7, 7, 7, 7, 7, 7, 7, 7, 7, 7, 7, 7, 7, 7, 7, 7, 7, 7, 7, 7, 7, 7, 7, 7, 7, 7, 7, 7, 7, 7, 7, 7, 7, 7, 7, 7, 7, 7, 7, 7, 7, 7, 7, 7, 7, 7, 7, 8, 8, 8, 8, 8, 8, 8, 8, 8, 8, 8, 8, 8, 8, 8, 8, 8, 8, 8, 8, 8, 8, 8, 8, 8, 8, 8, 8, 8, 8, 8, 8, 8, 8, 8, 8, 8, 8, 8, 8, 8, 8, 8, 8, 8, 8, 8, 8, 8, 8, 8, 8, 8, 8, 8, 8, 8, 8, 8, 8, 8, 8, 8, 8, 8, 8, 8, 8, 8, 8, 8, 8, 8, 8, 8, 8, 8, 8, 8, 8, 8, 8, 8, 8, 8, 8, 8, 8, 8, 8, 8, 8, 8, 8, 8, 8, 8, 8, 8, 8, 8, 8, 8, 8, 8, 8, 8, 8, 8, 8, 8, 8, 8, 8, 8, 8, 8, 8, 8, 8, 8, 8, 8, 8, 8, 8, 8, 8])) (.t 21), none, 0, 6⟩,
  ⟨(some 23), .conv .i64 (.t 22), none, 0, 14⟩,
  ⟨(some 24), .bin .add (.t 19) (.t 23), none, 0, 31⟩,
  ⟨(some 2), .move (.t 24), none, 0, 63⟩]
def f90c : ACode :=
  .seq (.region false f90r0 [0, 2] 0)
  (.seq (.seq (.region false f90r1 [0, 2, 4] 0)
  (.cond (.t 4)
    (.seq (.region false f90r2 [0] 0)
    (.region false f90r3 [0, 2] 0))
    (.skip)))
  (.seq (.seq (.region false f90r4 [0, 2, 8] 0)
  (.cond (.t 8)
    (.seq (.region false f90r5 [0, 2] 0)
    (.region false f90r6 [0, 2] 0))
    (.skip)))
  (.seq (.seq (.region false f90r7 [0, 2, 14] 0)
  (.cond (.t 14)
    (.seq (.region false f90r8 [0, 2] 0)
    (.region false f90r9 [0, 2] 0))
    (.skip)))
  (.seq (.region false f90r10 [2] 0)
  (.ret)))))
def f90 : AFn := ⟨1, 25, [.tmp 2], f90c, 1, none⟩
def f90k : List (Nat × List Nat) := [(0, [0, 2]), (1, [0, 2, 4]), (2, [0]), (3, [0, 2]), (4, [0, 2, 8]), (5, [0, 2]), (6, [0, 2]), (7, [0, 2, 14]), (8, [0, 2]), (9, [0, 2]), (10, [2])]
def f90v : List Nat := [23, 21]

/-! 91: internal/strconv.bool2[int], parameters [4], results [3] -/
def f91r0 : List AOper := [
  ⟨(some 2), .move (.c (.int .i64 0)), none, 0, 0⟩]
def f91r1 : List AOper := [
  ⟨(some 3), .move (.t 0), none, 0, 0⟩]
def f91r2 : List AOper := [
  ⟨(some 2), .move (.c (.int .i64 1)), none, 0, 0⟩]
def f91r3 : List AOper := [
  ⟨(some 2), .move (.c (.int .i64 0)), none, 0, 0⟩]
def f91c : ACode :=
  .seq (.region false f91r0 [0] 0)
  (.seq (.seq (.region false f91r1 [3] 0)
  (.cond (.t 3)
    (.seq (.region false f91r2 [2] 0)
    (.ret))
    (.skip)))
  (.seq (.region false f91r3 [2] 0)
  (.ret)))
def f91 : AFn := ⟨1, 4, [.tmp 2], f91c, 1, none⟩
def f91k : List (Nat × List Nat) := [(0, [0]), (1, [3]), (2, [2]), (3, [2])]
def f91v : List Nat := []

/-! 92: internal/strconv.isPowerOfTwo, parameters [3], results [4] -/
def f92r0 : List AOper := [
  ⟨(some 2), .move (.c (.bool false)), none, 0, 0⟩]
def f92r1 : List AOper := [
  ⟨(some 3), .move (.t 0), none, 0, 0⟩,
  ⟨(some 4), .move (.t 0), none, 0, 0⟩,
  ⟨(some 5), .bin .sub (.t 4) (.c (.int .i64 1)), none, 0, 2⟩,
  ⟨(some 6), .bin .and (.t 3) (.t 5), none, 0, 7⟩,
  ⟨(some 7), .bin .eql (.t 6) (.c (.int .i64 0)), none, 0, 15⟩,
  ⟨(some 2), .move (.t 7), none, 0, 31⟩]
def f92c : ACode :=
  .seq (.region false f92r0 [0] 0)
  (.seq (.region false f92r1 [2] 0)
  (.ret))
def f92 : AFn := ⟨1, 8, [.tmp 2], f92c, 1, none⟩
def f92k : List (Nat × List Nat) := [(0, [0]), (1, [2])]
def f92v : List Nat := []

/-! 93: math/bits.TrailingZeros, parameters [114], results [3] -/
def f93r0 : List AOper := [
  ⟨(some 2), .move (.c (.int .i64 0)), none, 0, 0⟩]
def f93r1 : List AOper := [
  ⟨(some 3), .move (.t 0), none, 0, 0⟩,
  ⟨(some 4), .conv .u32 (.t 3), none, 0, 1⟩,
  ⟨(some 5), .call (.c (.fn 98 [] [])) [(.t 4)], none, 0, 3⟩,
  ⟨(some 2), .move (.t 5), none, 0, 7⟩]
def f93r2 : List AOper := [
  ⟨(some 6), .move (.t 0), none, 0, 0⟩,
  ⟨(some 7), .call (.c (.fn 99 [] [])) [(.t 6)], none, 0, 1⟩,
  ⟨(some 2), .move (.t 7), none, 0, 3⟩]
def f93c : ACode :=
  .seq (.region false f93r0 [0] 0)
  (.seq (.cond (.c (.bool false))
    (.seq (.region false f93r1 [2] 0)
    (.ret))
    (.skip))
  (.seq (.region false f93r2 [2] 0)
  (.ret)))
def f93 : AFn := ⟨1, 8, [.tmp 2], f93c, 1, none⟩
def f93k : List (Nat × List Nat) := [(0, [0]), (1, [2]), (2, [2])]
def f93v : List Nat := [4]

/-! 94: strings.IndexByte, parameters [9, 5], results [3] -/
def f94r0 : List AOper := [
  ⟨(some 4), .move (.c (.int .i64 0)), none, 0, 0⟩]
def f94r1 : List AOper := [
  ⟨(some 5), .move (.t 0), none, 0, 0⟩,
  ⟨(some 6), .move (.t 1), none, 0, 0⟩,
  ⟨(some 7), .call (.c (.fn 100 [] [])) [(.t 5), (.t 6)], none, 0, 3⟩,
  ⟨(some 4), .move (.t 7), none, 0, 7⟩]
def f94c : ACode :=
  .seq (.region false f94r0 [0, 1] 0)
  (.seq (.region false f94r1 [4] 0)
  (.ret))
def f94 : AFn := ⟨2, 8, [.tmp 4], f94c, 1, none⟩
def f94k : List (Nat × List Nat) := [(0, [0, 1]), (1, [4])]
def f94v : List Nat := []

/-! 95: unicode/utf8.ValidRune, parameters [21], results [4] -/
def f95r0 : List AOper := [
  ⟨(some 2), .move (.c (.bool false)), none, 0, 0⟩]
def f95r1 : List AOper := [
  ⟨(some 4), .move (.t 0), none, 0, 0⟩,
  ⟨(some 5), .bin .leq (.c (.int .i32 0)) (.t 4), none, 0, 1⟩,
  ⟨(some 6), .move (.t 5), none, 0, 3⟩,
  ⟨(some 7), .move (.t 0), (some (6, true)), 0, 7⟩,
  ⟨(some 8), .bin .lss (.t 7) (.c (.int .i32 55296)), (some (6, true)), 0, 15⟩,
  ⟨(some 9), .pick (.t 6) (.t 8) (.c (.bool false)), none, 0, 31⟩,
  ⟨(some 3), .move (.t 9), none, 0, 63⟩]
def f95r2 : List AOper := [
  ⟨(some 2), .move (.c (.bool true)), none, 0, 0⟩]
def f95r3 : List AOper := [
  ⟨(some 11), .move (.t 0), none, 0, 0⟩,
  ⟨(some 12), .bin .lss (.c (.int .i32 57343)) (.t 11), none, 0, 1⟩,
  ⟨(some 13), .move (.t 12), none, 0, 3⟩,
  ⟨(some 14), .move (.t 0), (some (13, true)), 0, 7⟩,
  ⟨(some 15), .bin .leq (.t 14) (.c (.int .i32 1114111)), (some (13, true)), 0, 15⟩,
  ⟨(some 16), .pick (.t 13) (.t 15) (.c (.bool false)), none, 0, 31⟩,
  ⟨(some 10), .move (.t 16), none, 0, 63⟩]
def f95r4 : List AOper := [
  ⟨(some 2), .move (.c (.bool true)), none, 0, 0⟩]
def f95r5 : List AOper := [
  ⟨(some 2), .move (.c (.bool false)), none, 0, 0⟩]
def f95c : ACode :=
  .seq (.region false f95r0 [0] 0)
  (.seq (.block 0 (.seq (.region false f95r1 [0, 3] 0)
    (.cond (.t 3)
      (.seq (.region false f95r2 [2] 0)
      (.ret))
      (.seq (.region false f95r3 [10] 0)
      (.cond (.t 10)
        (.seq (.region false f95r4 [2] 0)
        (.ret))
        (.skip))))))
  (.seq (.region false f95r5 [2] 0)
  (.ret)))
def f95 : AFn := ⟨1, 17, [.tmp 2], f95c, 1, none⟩
def f95k : List (Nat × List Nat) := [(0, [0]), (1, [0, 3]), (3, [10]), (4, [2]), (2, [2]), (5, [2])]
def f95v : List Nat := []

/-! 96: internal/bytealg.Cutover, parameters [3], results [3] -/
def f96r0 : List AOper := [
  ⟨(some 2), .move (.c (.int .i64 0)), none, 0, 0⟩]
def f96r1 : List AOper := [
  ⟨(some 3), .move (.t 0), none, 0, 0⟩,
  ⟨(some 4), .bin .add (.t 3) (.c (.int .i64 16)), none, 0, 1⟩,
  ⟨(some 5), .bin .quo (.t 4) (.c (.int .i64 8)), none, 0, 3⟩,
  ⟨(some 2), .move (.t 5), none, 0, 7⟩]
def f96c : ACode :=
  .seq (.region false f96r0 [0] 0)
  (.seq (.region false f96r1 [2] 0)
  (.ret))
def f96 : AFn := ⟨1, 6, [.tmp 2], f96c, 1, none⟩
def f96k : List (Nat × List Nat) := [(0, [0]), (1, [2])]
def f96v : List Nat := []

/-! 98: math/bits.TrailingZeros32, parameters [112], results [3] -/
def f98r0 : List AOper := [
  ⟨(some 2), .move (.c (.int .i64 0)), none, 0, 0⟩]
def f98r1 : List AOper := [
  ⟨(some 3), .move (.t 0), none, 0, 0⟩,
  ⟨(some 4), .bin .eql (.t 3) (.c (.int .u32 0)), none, 0, 1⟩]
def f98r2 : List AOper := [
  ⟨(some 2), .move (.c (.int .i64 32)), none, 0, 0⟩]
def f98r3 : List AOper := [
  ⟨(some 5), .move (.t 0), none, 0, 0⟩,
  ⟨(some 6), .move (.t 0), none, 0, 0⟩,
  ⟨(some 7), .un .neg (.t 6), none, 0, 2⟩,
  ⟨(some 8), .bin .and (.t 5) (.t 7), none, 0, 7⟩,
  ⟨(some 9), .bin .mul (.t 8) (.c (.int .u32 125613361)), none, 0, 15⟩,
  ⟨(some 10), .bin .shr (.t 9) (.c (.int .u64 27)), none, 0, 31⟩,
  ⟨(some 11), .idxArr 32 1 (.c (.ip gl4 0)) (.t 10), none, 0, 63⟩,
  ⟨(some 12), .load false 1 (.t 11), none, 0, 127⟩,
  ⟨(some 13), .conv .i64 (.t 12), none, 0, 255⟩,
  ⟨(some 2), .move (.t 13), none, 0, 511⟩]
def f98c : ACode :=
  .seq (.region false f98r0 [0] 0)
  (.seq (.seq (.region false f98r1 [0, 4] 0)
  (.cond (.t 4)
    (.seq (.region false f98r2 [2] 0)
    (.ret))
    (.skip)))
  (.seq (.region false f98r3 [2] 0)
  (.ret)))
def f98 : AFn := ⟨1, 14, [.tmp 2], f98c, 1, none⟩
def f98k : List (Nat × List Nat) := [(0, [0]), (1, [0, 4]), (2, [2]), (3, [2])]
def f98v : List Nat := [13]

/-! 99: math/bits.TrailingZeros64, parameters [102], results [3] -/
def f99r0 : List AOper := [
  ⟨(some 2), .move (.c (.int .i64 0)), none, 0, 0⟩]
def f99r1 : List AOper := [
  ⟨(some 3), .move (.t 0), none, 0, 0⟩,
  ⟨(some 4), .bin .eql (.t 3) (.c (.int .u64 0)), none, 0, 1⟩]
def f99r2 : List AOper := [
  ⟨(some 2), .move (.c (.int .i64 64)), none, 0, 0⟩]
def f99r3 : List AOper := [
  ⟨(some 5), .move (.t 0), none, 0, 0⟩,
  ⟨(some 6), .move (.t 0), none, 0, 0⟩,
  ⟨(some 7), .un .neg (.t 6), none, 0, 2⟩,
  ⟨(some 8), .bin .and (.t 5) (.t 7), none, 0, 7⟩,
  ⟨(some 9), .bin .mul (.t 8) (.c (.int .u64 285870213051353865)), none, 0, 15⟩,
  ⟨(some 10), .bin .shr (.t 9) (.c (.int .u64 58)), none, 0, 31⟩,
  ⟨(some 11), .idxArr 64 1 (.c (.ip gl5 0)) (.t 10), none, 0, 63⟩,
  ⟨(some 12), .load false 1 (.t 11), none, 0, 127⟩,
  ⟨(some 13), .conv .i64 (.t 12), none, 0, 255⟩,
  ⟨(some 2), .move (.t 13), none, 0, 511⟩]
def f99c : ACode :=
  .seq (.region false f99r0 [0] 0)
  (.seq (.seq (.region false f99r1 [0, 4] 0)
  (.cond (.t 4)
    (.seq (.region false f99r2 [2] 0)
    (.ret))
    (.skip)))
  (.seq (.region false f99r3 [2] 0)
  (.ret)))
def f99 : AFn := ⟨1, 14, [.tmp 2], f99c, 1, none⟩
def f99k : List (Nat × List Nat) := [(0, [0]), (1, [0, 4]), (2, [2]), (3, [2])]
def f99v : List Nat := [13]

/-! 100: internal/stringslite.IndexByte, parameters [9, 5], results [3] -/
def f100r0 : List AOper := [
  ⟨(some 4), .move (.c (.int .i64 0)), none, 0, 0⟩]
def f100r1 : List AOper := [
  ⟨(some 5), .move (.t 0), none, 0, 0⟩,
  ⟨(some 6), .move (.t 1), none, 0, 0⟩,
  ⟨(some 7), .ext .idxByte [(.t 5), (.t 6)], none, 0, 3⟩,
  ⟨(some 4), .move (.t 7), none, 0, 7⟩]
def f100c : ACode :=
  .seq (.region false f100r0 [0, 1] 0)
  (.seq (.region false f100r1 [4] 0)
  (.ret))
def f100 : AFn := ⟨2, 8, [.tmp 4], f100c, 1, none⟩
def f100k : List (Nat × List Nat) := [(0, [0, 1]), (1, [4])]
def f100v : List Nat := []

end Go.Proofs.YthfiajonommodaaDoor
