/- The seat's functions as the machine's, part 1. Printed by a program. -/
import Derived.Test.YtfhijkapcdmdnaaGreatDoorFns0
namespace Go.Proofs.YtfhijkapcdmdnaaGreatDoor
open Go.AM
set_option maxRecDepth 100000
def f88r0 : List AOper := [⟨some 6, .move (.c (.bool false)), none, 0, 0⟩]
def f88r1 : List AOper := [⟨some 10, .move (.t 2), none, 0, 0⟩, ⟨some 11, .move (.t 1), none, 0, 0⟩, ⟨some 12, .idxAddr 1 (.t 10) (.t 11), none, 0, 3⟩, ⟨some 13, .load false 1 (.t 12), none, 0, 7⟩]
def f88r2 : List AOper := [⟨some 15, .bin .eql (.t 13) (.c (.int .i64 1)), none, 0, 0⟩, ⟨some 14, .move (.t 15), none, 0, 1⟩]
def f88r3 : List AOper := [⟨some 6, .move (.c (.bool false)), none, 0, 0⟩]
def f88r4 : List AOper := [⟨some 17, .bin .eql (.t 13) (.c (.int .i64 2)), none, 0, 0⟩, ⟨some 16, .move (.t 17), none, 0, 1⟩]
def f88r5 : List AOper := [⟨some 6, .move (.c (.bool true)), none, 0, 0⟩]
def f88r6 : List AOper := [⟨some 18, .move (.t 2), none, 0, 0⟩, ⟨some 19, .move (.t 1), none, 0, 0⟩, ⟨some 20, .idxAddr 1 (.t 18) (.t 19), none, 0, 3⟩, ⟨none, .store 1 (.t 20) (.c (.int .i64 1)), none, 0, 7⟩]
def f88r7 : List AOper := [⟨some 21, .move (.t 0), none, 0, 0⟩, ⟨some 22, .nilCheck (.t 21), none, 0, 1⟩, ⟨some 23, .fieldAddr 0 (.t 22), none, 0, 3⟩, ⟨some 24, .load false 1 (.t 23), none, 0, 7⟩, ⟨some 25, .move (.t 1), none, 0, 0⟩, ⟨some 26, .idxAddr 6 (.t 24) (.t 25), none, 0, 31⟩, ⟨some 27, .load true 6 (.t 26), none, 0, 63⟩, ⟨some 7, .alloc false [(.int .i64 0), (.int .i64 0), (.int .i64 0), (.str []), (.is [] .nil), (.bool false)], none, 0, 0⟩, ⟨none, .store 6 (.t 7) (.t 27), none, 1, 255⟩]
def f88r8 : List AOper := [⟨some 28, .fieldAddr 0 (.t 7), none, 0, 0⟩, ⟨some 29, .load false 1 (.t 28), none, 0, 1⟩, ⟨some 30, .bin .eql (.t 29) (.c (.int .i64 14)), none, 0, 3⟩, ⟨some 31, .move (.t 30), none, 0, 7⟩, ⟨some 32, .move (.t 0), (some (31, true)), 0, 15⟩, ⟨some 33, .fieldAddr 1 (.t 7), (some (31, true)), 0, 15⟩, ⟨some 34, .load false 1 (.t 33), (some (31, true)), 0, 47⟩, ⟨some 35, .move (.t 2), (some (31, true)), 0, 15⟩, ⟨some 36, .call (.c (.fn 88 [] [])) [(.t 32), (.t 34), (.t 35)], (some (31, true)), 0, 255⟩, ⟨some 37, .un .not (.t 36), (some (31, true)), 0, 511⟩, ⟨some 38, .pick (.t 31) (.t 37) (.c (.bool false)), none, 0, 1023⟩]
def f88r9 : List AOper := [⟨some 6, .move (.c (.bool false)), none, 0, 0⟩]
def f88r10 : List AOper := [⟨some 39, .fieldAddr 4 (.t 7), none, 0, 0⟩, ⟨some 40, .load false 1 (.t 39), none, 0, 1⟩, ⟨some 41, .len 1 (.t 40), none, 0, 3⟩, ⟨some 42, .move (.c (.int .i64 0)), none, 0, 0⟩]
def f88r11 : List AOper := [⟨some 43, .bin .lss (.t 42) (.t 41), none, 0, 0⟩]
def f88r12 : List AOper := [⟨some 44, .idxAddr 3 (.t 40) (.t 42), none, 0, 0⟩, ⟨some 45, .load true 3 (.t 44), none, 0, 1⟩, ⟨some 9, .alloc false [(.str []), (.int .i64 0), (.int .i64 0)], none, 0, 0⟩, ⟨none, .store 3 (.t 9) (.t 45), none, 1, 7⟩]
def f88r13 : List AOper := [⟨some 46, .move (.t 0), none, 0, 0⟩, ⟨some 47, .fieldAddr 1 (.t 9), none, 0, 0⟩, ⟨some 48, .load false 1 (.t 47), none, 0, 2⟩, ⟨some 49, .move (.t 2), none, 0, 0⟩, ⟨some 50, .call (.c (.fn 88 [] [])) [(.t 46), (.t 48), (.t 49)], none, 0, 15⟩, ⟨some 51, .un .not (.t 50), none, 0, 31⟩]
def f88r14 : List AOper := [⟨some 6, .move (.c (.bool false)), none, 0, 0⟩]
def f88r15 : List AOper := [⟨some 52, .bin .add (.t 42) (.c (.int .i64 1)), none, 0, 0⟩, ⟨some 42, .move (.t 52), none, 0, 1⟩]
def f88m11 : ACode :=
 .seq (.region false f88r11 [0, 1, 2, 40, 41, 42, 43] 0)
 (.seq (.cond (.t 43)
  (.skip)
  (.exit 1))
 (.seq (.block 2 (.seq (.region false f88r12 [0, 1, 2, 9, 40, 41, 42] 1)
  (.seq (.region false f88r13 [0, 1, 2, 40, 41, 42, 51] 0)
  (.cond (.t 51)
   (.seq (.region false f88r14 [6] 0)
   (.ret))
   (.skip)))))
 (.region false f88r15 [0, 1, 2, 40, 41, 42] 0)))
def f88l11 : ACode := f88m11
theorem f88l11_b {A : Tab} {nt : Nat} {e : Env} {h : Heap} : Brun A nt f88l11 e h = Brun A nt f88m11 e h := rfl
def f88r16 : List AOper := [⟨some 53, .move (.t 2), none, 0, 0⟩, ⟨some 54, .move (.t 1), none, 0, 0⟩, ⟨some 55, .idxAddr 1 (.t 53) (.t 54), none, 0, 3⟩, ⟨none, .store 1 (.t 55) (.c (.int .i64 2)), none, 0, 7⟩]
def f88r17 : List AOper := [⟨some 6, .move (.c (.bool true)), none, 0, 0⟩]
def f88c : ACode :=
 .seq (.region false f88r0 [0, 1, 2] 0)
 (.seq (.seq (.region false f88r1 [0, 1, 2, 13] 0)
 (.block 0 (.seq (.region false f88r2 [0, 1, 2, 13, 14] 0)
  (.cond (.t 14)
   (.seq (.region false f88r3 [6] 0)
   (.ret))
   (.seq (.region false f88r4 [0, 1, 2, 16] 0)
   (.cond (.t 16)
    (.seq (.region false f88r5 [6] 0)
    (.ret))
    (.skip)))))))
 (.seq (.region false f88r6 [0, 1, 2] 0)
 (.seq (.region false f88r7 [0, 1, 2, 7] 1)
 (.seq (.seq (.region false f88r8 [0, 1, 2, 7, 38] 0)
 (.cond (.t 38)
  (.seq (.region false f88r9 [6] 0)
  (.ret))
  (.skip)))
 (.seq (.seq (.region false f88r10 [0, 1, 2, 40, 41, 42] 0)
 (.block 1 (.loop f88l11)))
 (.seq (.region false f88r16 [] 0)
 (.seq (.region false f88r17 [6] 0)
 (.ret))))))))
def f88 : AFn := ⟨3, 56, [.tmp 6], f88c, 1, none⟩
def f88k : List (Nat × List Nat) := [(0, [0, 1, 2]), (1, [0, 1, 2, 13]), (2, [0, 1, 2, 13, 14]), (4, [0, 1, 2, 16]), (5, [6]), (3, [6]), (6, [0, 1, 2]), (7, [0, 1, 2, 7]), (8, [0, 1, 2, 7, 38]), (9, [6]), (10, [0, 1, 2, 40, 41, 42]), (11, [0, 1, 2, 40, 41, 42, 43]), (12, [0, 1, 2, 9, 40, 41, 42]), (13, [0, 1, 2, 40, 41, 42, 51]), (14, [6]), (15, [0, 1, 2, 40, 41, 42]), (16, []), (17, [6])]
def f88v : List Nat := []
def f89r0 : List AOper := [⟨some 1, .box false (.t 0), none, 0, 0⟩, ⟨some 2, .alloc false [(.int .i64 0), (.int .i64 0), (.int .i64 0), (.str []), (.is [] .nil), (.bool false)], none, 1, 0⟩]
def f89r1 : List AOper := [⟨some 3, .move (.c (.is [] .nil)), none, 0, 0⟩]
def f89r2 : List AOper := [⟨some 4, .move (.t 3), none, 0, 0⟩, ⟨some 5, .fieldAddr 4 (.t 1), none, 0, 0⟩, ⟨some 6, .load false 1 (.t 5), none, 0, 2⟩, ⟨some 7, .append true 3 32 (.t 4) (.t 6), none, 0, 7⟩, ⟨some 3, .move (.t 7), none, 1, 15⟩]
def f89r3 : List AOper := [⟨some 8, .move (.t 3), none, 0, 0⟩, ⟨some 9, .fieldAddr 4 (.t 1), none, 0, 1⟩, ⟨none, .store 1 (.t 9) (.t 8), none, 0, 3⟩]
def f89r4 : List AOper := [⟨some 10, .load true 6 (.t 1), none, 0, 0⟩, ⟨none, .store 6 (.t 2) (.t 10), none, 0, 1⟩]
def f89c : ACode :=
 .seq (.region false f89r0 [1, 2] 2)
 (.seq (.region false f89r1 [1, 2, 3] 0)
 (.seq (.region false f89r2 [1, 2, 3] 1)
 (.seq (.region false f89r3 [1, 2] 0)
 (.seq (.region false f89r4 [2] 0)
 (.ret)))))
def f89 : AFn := ⟨1, 11, [.cell 2 true 6], f89c, 1, none⟩
def f89k : List (Nat × List Nat) := [(0, [1, 2]), (1, [1, 2, 3]), (2, [1, 2, 3]), (3, [1, 2]), (4, [2])]
def f89v : List Nat := [7]
def f90r0 : List AOper := [⟨some 2, .move (.c (.bool false)), none, 0, 0⟩]
def f90r1 : List AOper := [⟨some 3, .move (.t 0), none, 0, 0⟩, ⟨some 4, .eq true .ptr (.t 3) (.c .nilp), none, 0, 1⟩, ⟨some 5, .move (.t 4), none, 0, 3⟩, ⟨some 6, .move (.t 0), (some (5, true)), 0, 7⟩, ⟨some 7, .nilCheck (.t 6), (some (5, true)), 0, 15⟩, ⟨some 8, .fieldAddr 1 (.t 7), (some (5, true)), 0, 31⟩, ⟨some 9, .load false 1 (.t 8), (some (5, true)), 0, 63⟩, ⟨some 10, .eq true .map (.t 9) (.c .nilm), (some (5, true)), 0, 127⟩, ⟨some 11, .pick (.t 5) (.t 10) (.c (.bool false)), none, 0, 255⟩, ⟨some 2, .move (.t 11), none, 0, 511⟩]
def f90c : ACode :=
 .seq (.region false f90r0 [0] 0)
 (.seq (.region false f90r1 [2] 0)
 (.ret))
def f90 : AFn := ⟨1, 12, [.tmp 2], f90c, 1, none⟩
def f90k : List (Nat × List Nat) := [(0, [0]), (1, [2])]
def f90v : List Nat := []
def f91r0 : List AOper := [⟨some 4, .move (.c (.bool false)), none, 0, 0⟩]
def f91r1 : List AOper := [⟨some 5, .move (.t 0), none, 0, 0⟩, ⟨some 6, .call (.c (.fn 90 [] [])) [(.t 5)], none, 0, 1⟩, ⟨some 7, .move (.t 6), none, 0, 3⟩, ⟨some 8, .move (.t 1), (some (7, true)), 0, 7⟩, ⟨some 9, .bin .geq (.t 8) (.c (.int .i64 0)), (some (7, true)), 0, 15⟩, ⟨some 10, .pick (.t 7) (.t 9) (.c (.bool false)), none, 0, 31⟩, ⟨some 11, .move (.t 10), none, 0, 63⟩, ⟨some 12, .move (.t 1), (some (11, true)), 0, 127⟩, ⟨some 13, .move (.t 0), (some (11, true)), 0, 127⟩, ⟨some 14, .nilCheck (.t 13), (some (11, true)), 0, 383⟩, ⟨some 15, .fieldAddr 0 (.t 14), (some (11, true)), 0, 895⟩, ⟨some 16, .load false 1 (.t 15), (some (11, true)), 0, 1919⟩, ⟨some 17, .len 1 (.t 16), (some (11, true)), 0, 3967⟩, ⟨some 18, .bin .lss (.t 12) (.t 17), (some (11, true)), 0, 8191⟩, ⟨some 19, .pick (.t 11) (.t 18) (.c (.bool false)), none, 0, 16383⟩, ⟨some 4, .move (.t 19), none, 0, 32767⟩]
def f91c : ACode :=
 .seq (.region false f91r0 [0, 1] 0)
 (.seq (.region false f91r1 [4] 0)
 (.ret))
def f91 : AFn := ⟨2, 20, [.tmp 4], f91c, 1, none⟩
def f91k : List (Nat × List Nat) := [(0, [0, 1]), (1, [4])]
def f91v : List Nat := []
def f92r0 : List AOper := [⟨some 3, .box true (.t 1), none, 0, 0⟩, ⟨some 4, .move (.c (.int .i64 0)), none, 0, 0⟩, ⟨some 5, .move (.c (.int .i64 0)), none, 0, 2⟩]
def f92q1 : List AOper := [⟨some 11, .move (.t 0), none, 0, 0⟩, ⟨some 12, .nilCheck (.t 11), none, 0, 1⟩, ⟨some 13, .fieldAddr 1 (.t 12), none, 0, 3⟩, ⟨some 14, .load false 1 (.t 13), none, 0, 7⟩, ⟨some 15, .load true 3 (.t 3), none, 0, 0⟩, ⟨some 16, .lookup true [.int .i64, .int .i64, .int .i64] (.int .i64 0) true (.t 14) (.t 15), none, 0, 31⟩, ⟨some 10, .move (.t 16), none, 0, 63⟩, ⟨some 17, .extract (.t 10) 0, none, 0, 127⟩, ⟨some 18, .extract (.t 10) 1, none, 0, 127⟩, ⟨some 6, .move (.t 17), none, 0, 255⟩, ⟨some 7, .move (.t 18), none, 0, 1023⟩]
def f92r1 : List AOper := f92q1
def f92r2 : List AOper := [⟨some 19, .move (.t 7), none, 0, 0⟩]
def f92r3 : List AOper := [⟨some 20, .move (.t 6), none, 0, 0⟩, ⟨some 4, .move (.t 20), none, 0, 1⟩, ⟨some 5, .move (.c (.int .i64 0)), none, 0, 3⟩]
def f92r4 : List AOper := [⟨some 22, .move (.t 0), none, 0, 0⟩, ⟨some 23, .fieldAddr 0 (.t 3), none, 0, 0⟩, ⟨some 24, .load false 1 (.t 23), none, 0, 2⟩, ⟨some 25, .fieldAddr 1 (.t 3), none, 0, 0⟩, ⟨some 26, .load false 1 (.t 25), none, 0, 8⟩, ⟨some 27, .fieldAddr 2 (.t 3), none, 0, 0⟩, ⟨some 28, .load false 1 (.t 27), none, 0, 32⟩, ⟨some 29, .build [(.int .i64 0), (.int .i64 0), (.int .i64 0), (.str []), (.is [] .nil), (.bool false)] [(0, 1, (.t 24)), (1, 1, (.t 26)), (2, 1, (.t 28))], none, 0, 126⟩, ⟨some 30, .call (.c (.fn 121 [] [])) [(.t 22), (.t 29)], none, 0, 255⟩, ⟨some 21, .move (.t 30), none, 0, 511⟩, ⟨some 31, .extract (.t 21) 0, none, 0, 1023⟩, ⟨some 32, .extract (.t 21) 1, none, 0, 1023⟩, ⟨some 8, .move (.t 31), none, 0, 2047⟩, ⟨some 9, .move (.t 32), none, 0, 8191⟩]
def f92r5 : List AOper := [⟨some 33, .move (.t 9), none, 0, 0⟩, ⟨some 34, .bin .eql (.t 33) (.c (.int .i64 0)), none, 0, 1⟩]
def f92q6 : List AOper := [⟨some 35, .move (.t 0), none, 0, 0⟩, ⟨some 36, .nilCheck (.t 35), none, 0, 1⟩, ⟨some 37, .fieldAddr 1 (.t 36), none, 0, 3⟩, ⟨some 38, .load false 1 (.t 37), none, 0, 7⟩, ⟨some 39, .load true 3 (.t 3), none, 0, 0⟩, ⟨some 40, .move (.t 8), none, 0, 0⟩, ⟨none, .mapUpdate true [.int .i64, .int .i64, .int .i64] (.t 38) (.t 39) (.t 40), none, 0, 63⟩]
def f92r6 : List AOper := f92q6
def f92r7 : List AOper := [⟨some 41, .move (.t 8), none, 0, 0⟩, ⟨some 42, .move (.t 9), none, 0, 0⟩, ⟨some 4, .move (.t 41), none, 0, 1⟩, ⟨some 5, .move (.t 42), none, 0, 7⟩]
theorem f92r1_s : staticOK 0 f92r1 = true := by rfl
theorem f92r1_w {A : Tab} {nt : Nat} {keep : List Nat} {n : Nat} {e : Env} {h : Heap} (hr : (bkeep keep (stepsF nt (stepF A true) h.length f92r1 e (h ++ List.replicate n .free))).isSome = true) : Brun A nt (.region true f92r1 keep n) e h = bkeep keep (stepsF nt (stepF A true) h.length f92r1 e (h ++ List.replicate n .free)) := Brun_drawnS f92r1_s hr
theorem f92r1_u (nt base : Nat) (step : Nat → AOp → Env → Heap → Option (AV × Heap)) (e : Env) (h : Heap) : stepsF nt step base f92r1 e h = stepsF nt step base f92q1 e h := rfl
theorem f92r6_s : staticOK 0 f92r6 = true := by rfl
theorem f92r6_w {A : Tab} {nt : Nat} {keep : List Nat} {n : Nat} {e : Env} {h : Heap} (hr : (bkeep keep (stepsF nt (stepF A true) h.length f92r6 e (h ++ List.replicate n .free))).isSome = true) : Brun A nt (.region true f92r6 keep n) e h = bkeep keep (stepsF nt (stepF A true) h.length f92r6 e (h ++ List.replicate n .free)) := Brun_drawnS f92r6_s hr
theorem f92r6_u (nt base : Nat) (step : Nat → AOp → Env → Heap → Option (AV × Heap)) (e : Env) (h : Heap) : stepsF nt step base f92r6 e h = stepsF nt step base f92q6 e h := rfl
def f92c : ACode :=
 .seq (.region false f92r0 [0, 3] 0)
 (.seq (.seq (.region true f92r1 [0, 3, 6, 7] 0)
 (.seq (.region false f92r2 [0, 3, 6, 19] 0)
 (.cond (.t 19)
  (.seq (.region false f92r3 [4, 5] 0)
  (.ret))
  (.skip))))
 (.seq (.region false f92r4 [0, 3, 8, 9] 0)
 (.seq (.seq (.region false f92r5 [0, 3, 8, 9, 34] 0)
 (.cond (.t 34)
  (.region true f92r6 [8, 9] 0)
  (.skip)))
 (.seq (.region false f92r7 [4, 5] 0)
 (.ret)))))
def f92 : AFn := ⟨2, 43, [.tmp 4, .tmp 5], f92c, 1, none⟩
def f92k : List (Nat × List Nat) := [(0, [0, 3]), (1, [0, 3, 6, 7]), (2, [0, 3, 6, 19]), (3, [4, 5]), (4, [0, 3, 8, 9]), (5, [0, 3, 8, 9, 34]), (6, [8, 9]), (7, [4, 5])]
def f92v : List Nat := [3]
def f93r0 : List AOper := [⟨some 2, .move (.c (.str [])), none, 0, 0⟩]
def f93r1 : List AOper := [⟨some 4, .build (List.replicate 19 (.str [])) [(0, 1, (.c (.str [97, 100, 100]))), (1, 1, (.c (.str [115, 117, 98]))), (2, 1, (.c (.str [109, 117, 108]))), (3, 1, (.c (.str [100, 105, 118, 115]))), (4, 1, (.c (.str [100, 105, 118, 117]))), (5, 1, (.c (.str [114, 101, 109, 115]))), (6, 1, (.c (.str [114, 101, 109, 117]))), (7, 1, (.c (.str [97, 110, 100]))), (8, 1, (.c (.str [111, 114]))), (9, 1, (.c (.str [120, 111, 114]))), (10, 1, (.c (.str [115, 104, 108]))), (11, 1, (.c (.str [115, 104, 114, 115]))), (12, 1, (.c (.str [115, 104, 114, 117]))), (13, 1, (.c (.str [101, 113]))), (14, 1, (.c (.str [110, 101]))), (15, 1, (.c (.str [108, 116, 115]))), (16, 1, (.c (.str [108, 116, 117]))), (17, 1, (.c (.str [108, 101, 115]))), (18, 1, (.c (.str [108, 101, 117])))], none, 0, 0⟩, ⟨some 3, .alloc false (List.replicate 19 (.str [])), none, 0, 0⟩, ⟨none, .store 19 (.t 3) (.t 4), none, 1, 3⟩]
def f93r2 : List AOper := [⟨some 5, .move (.t 0), none, 0, 0⟩, ⟨some 6, .bin .lss (.t 5) (.c (.int .i64 1)), none, 0, 1⟩, ⟨some 7, .move (.t 6), none, 0, 3⟩, ⟨some 8, .move (.t 0), (some (7, false)), 0, 7⟩, ⟨some 9, .bin .gtr (.t 8) (.c (.int .i64 19)), (some (7, false)), 0, 15⟩, ⟨some 10, .pick (.t 7) (.c (.bool true)) (.t 9), none, 0, 31⟩]
def f93r3 : List AOper := [⟨some 2, .move (.c (.str [])), none, 0, 0⟩]
def f93r4 : List AOper := [⟨some 11, .move (.t 0), none, 0, 0⟩, ⟨some 12, .bin .sub (.t 11) (.c (.int .i64 1)), none, 0, 1⟩, ⟨some 13, .idxArr 19 1 (.t 3) (.t 12), none, 0, 3⟩, ⟨some 14, .load false 1 (.t 13), none, 0, 7⟩, ⟨some 2, .move (.t 14), none, 0, 15⟩]
def f93c : ACode :=
 .seq (.region false f93r0 [0] 0)
 (.seq (.region false f93r1 [0, 3] 1)
 (.seq (.seq (.region false f93r2 [0, 3, 10] 0)
 (.cond (.t 10)
  (.seq (.region false f93r3 [2] 0)
  (.ret))
  (.skip)))
 (.seq (.region false f93r4 [2] 0)
 (.ret))))
def f93 : AFn := ⟨1, 15, [.tmp 2], f93c, 1, none⟩
def f93k : List (Nat × List Nat) := [(0, [0]), (1, [0, 3]), (2, [0, 3, 10]), (3, [2]), (4, [2])]
def f93v : List Nat := []
def f94r0 : List AOper := [⟨some 6, .move (.c (.int .u32 0)), none, 0, 0⟩, ⟨some 7, .move (.c (.bool false)), none, 0, 1⟩]
def f94r1 : List AOper := [⟨some 10, .move (.t 1), none, 0, 0⟩, ⟨some 11, .conv .i32 (.t 10), none, 0, 1⟩, ⟨some 12, .move (.t 2), none, 0, 0⟩, ⟨some 13, .conv .i32 (.t 12), none, 0, 4⟩, ⟨some 8, .move (.t 11), none, 0, 3⟩, ⟨some 9, .move (.t 13), none, 0, 31⟩]
def f94r2 : List AOper := [⟨some 14, .move (.t 0), none, 0, 0⟩]
def f94r3 : List AOper := [⟨some 16, .bin .eql (.t 14) (.c (.int .i64 4)), none, 0, 0⟩, ⟨some 15, .move (.t 16), none, 0, 1⟩]
def f94r4 : List AOper := [⟨some 17, .bin .eql (.t 14) (.c (.int .i64 5)), none, 0, 0⟩, ⟨some 15, .move (.t 17), none, 0, 1⟩]
def f94r5 : List AOper := [⟨some 18, .bin .eql (.t 14) (.c (.int .i64 6)), none, 0, 0⟩, ⟨some 15, .move (.t 18), none, 0, 1⟩]
def f94r6 : List AOper := [⟨some 19, .bin .eql (.t 14) (.c (.int .i64 7)), none, 0, 0⟩, ⟨some 15, .move (.t 19), none, 0, 1⟩]
def f94r7 : List AOper := [⟨some 20, .move (.t 2), none, 0, 0⟩, ⟨some 21, .bin .eql (.t 20) (.c (.int .u32 0)), none, 0, 1⟩]
def f94r8 : List AOper := [⟨some 6, .move (.c (.int .u32 0)), none, 0, 0⟩, ⟨some 7, .move (.c (.bool false)), none, 0, 1⟩]
def f94r9 : List AOper := [⟨some 22, .move (.t 0), none, 0, 0⟩, ⟨some 23, .move (.t 1), none, 0, 0⟩, ⟨some 24, .move (.t 2), none, 0, 0⟩, ⟨some 25, .call (.c (.fn 122 [] [])) [(.t 22), (.t 23), (.t 24)], none, 0, 7⟩, ⟨some 6, .move (.t 25), none, 0, 15⟩, ⟨some 7, .move (.c (.bool true)), none, 0, 31⟩]
def f94r10 : List AOper := [⟨some 27, .bin .eql (.t 14) (.c (.int .i64 1)), none, 0, 0⟩, ⟨some 26, .move (.t 27), none, 0, 1⟩]
def f94r11 : List AOper := [⟨some 28, .move (.t 1), none, 0, 0⟩, ⟨some 29, .move (.t 2), none, 0, 0⟩, ⟨some 30, .bin .add (.t 28) (.t 29), none, 0, 3⟩, ⟨some 6, .move (.t 30), none, 0, 7⟩, ⟨some 7, .move (.c (.bool true)), none, 0, 15⟩]
def f94r12 : List AOper := [⟨some 32, .bin .eql (.t 14) (.c (.int .i64 2)), none, 0, 0⟩, ⟨some 31, .move (.t 32), none, 0, 1⟩]
def f94r13 : List AOper := [⟨some 33, .move (.t 1), none, 0, 0⟩, ⟨some 34, .move (.t 2), none, 0, 0⟩, ⟨some 35, .bin .sub (.t 33) (.t 34), none, 0, 3⟩, ⟨some 6, .move (.t 35), none, 0, 7⟩, ⟨some 7, .move (.c (.bool true)), none, 0, 15⟩]
def f94r14 : List AOper := [⟨some 37, .bin .eql (.t 14) (.c (.int .i64 3)), none, 0, 0⟩, ⟨some 36, .move (.t 37), none, 0, 1⟩]
def f94r15 : List AOper := [⟨some 38, .move (.t 1), none, 0, 0⟩, ⟨some 39, .move (.t 2), none, 0, 0⟩, ⟨some 40, .bin .mul (.t 38) (.t 39), none, 0, 3⟩, ⟨some 6, .move (.t 40), none, 0, 7⟩, ⟨some 7, .move (.c (.bool true)), none, 0, 15⟩]
def f94r16 : List AOper := [⟨some 42, .bin .eql (.t 14) (.c (.int .i64 8)), none, 0, 0⟩, ⟨some 41, .move (.t 42), none, 0, 1⟩]
def f94r17 : List AOper := [⟨some 43, .move (.t 1), none, 0, 0⟩, ⟨some 44, .move (.t 2), none, 0, 0⟩, ⟨some 45, .bin .and (.t 43) (.t 44), none, 0, 3⟩, ⟨some 6, .move (.t 45), none, 0, 7⟩, ⟨some 7, .move (.c (.bool true)), none, 0, 15⟩]
def f94r18 : List AOper := [⟨some 47, .bin .eql (.t 14) (.c (.int .i64 9)), none, 0, 0⟩, ⟨some 46, .move (.t 47), none, 0, 1⟩]
def f94r19 : List AOper := [⟨some 48, .move (.t 1), none, 0, 0⟩, ⟨some 49, .move (.t 2), none, 0, 0⟩, ⟨some 50, .bin .or (.t 48) (.t 49), none, 0, 3⟩, ⟨some 6, .move (.t 50), none, 0, 7⟩, ⟨some 7, .move (.c (.bool true)), none, 0, 15⟩]
def f94r20 : List AOper := [⟨some 52, .bin .eql (.t 14) (.c (.int .i64 10)), none, 0, 0⟩, ⟨some 51, .move (.t 52), none, 0, 1⟩]
def f94r21 : List AOper := [⟨some 53, .move (.t 1), none, 0, 0⟩, ⟨some 54, .move (.t 2), none, 0, 0⟩, ⟨some 55, .bin .xor (.t 53) (.t 54), none, 0, 3⟩, ⟨some 6, .move (.t 55), none, 0, 7⟩, ⟨some 7, .move (.c (.bool true)), none, 0, 15⟩]
def f94r22 : List AOper := [⟨some 57, .bin .eql (.t 14) (.c (.int .i64 11)), none, 0, 0⟩, ⟨some 56, .move (.t 57), none, 0, 1⟩]
def f94r23 : List AOper := [⟨some 58, .move (.t 1), none, 0, 0⟩, ⟨some 59, .move (.t 2), none, 0, 0⟩, ⟨some 60, .bin .and (.t 59) (.c (.int .u32 31)), none, 0, 2⟩, ⟨some 61, .bin .shl (.t 58) (.t 60), none, 0, 7⟩, ⟨some 6, .move (.t 61), none, 0, 15⟩, ⟨some 7, .move (.c (.bool true)), none, 0, 31⟩]
def f94r24 : List AOper := [⟨some 63, .bin .eql (.t 14) (.c (.int .i64 12)), none, 0, 0⟩, ⟨some 62, .move (.t 63), none, 0, 1⟩]
def f94r25 : List AOper := [⟨some 64, .move (.t 8), none, 0, 0⟩, ⟨some 65, .move (.t 2), none, 0, 0⟩, ⟨some 66, .bin .and (.t 65) (.c (.int .u32 31)), none, 0, 2⟩, ⟨some 67, .bin .shr (.t 64) (.t 66), none, 0, 7⟩, ⟨some 68, .conv .u32 (.t 67), none, 0, 15⟩, ⟨some 6, .move (.t 68), none, 0, 31⟩, ⟨some 7, .move (.c (.bool true)), none, 0, 63⟩]
def f94r26 : List AOper := [⟨some 70, .bin .eql (.t 14) (.c (.int .i64 13)), none, 0, 0⟩, ⟨some 69, .move (.t 70), none, 0, 1⟩]
def f94r27 : List AOper := [⟨some 71, .move (.t 1), none, 0, 0⟩, ⟨some 72, .move (.t 2), none, 0, 0⟩, ⟨some 73, .bin .and (.t 72) (.c (.int .u32 31)), none, 0, 2⟩, ⟨some 74, .bin .shr (.t 71) (.t 73), none, 0, 7⟩, ⟨some 6, .move (.t 74), none, 0, 15⟩, ⟨some 7, .move (.c (.bool true)), none, 0, 31⟩]
def f94r28 : List AOper := [⟨some 76, .bin .eql (.t 14) (.c (.int .i64 14)), none, 0, 0⟩, ⟨some 75, .move (.t 76), none, 0, 1⟩]
def f94r29 : List AOper := [⟨some 77, .move (.t 1), none, 0, 0⟩, ⟨some 78, .move (.t 2), none, 0, 0⟩, ⟨some 79, .bin .eql (.t 77) (.t 78), none, 0, 3⟩, ⟨some 80, .call (.c (.fn 123 [] [])) [(.t 79)], none, 0, 7⟩, ⟨some 6, .move (.t 80), none, 0, 15⟩, ⟨some 7, .move (.c (.bool true)), none, 0, 31⟩]
def f94r30 : List AOper := [⟨some 82, .bin .eql (.t 14) (.c (.int .i64 15)), none, 0, 0⟩, ⟨some 81, .move (.t 82), none, 0, 1⟩]
def f94r31 : List AOper := [⟨some 83, .move (.t 1), none, 0, 0⟩, ⟨some 84, .move (.t 2), none, 0, 0⟩, ⟨some 85, .bin .neq (.t 83) (.t 84), none, 0, 3⟩, ⟨some 86, .call (.c (.fn 123 [] [])) [(.t 85)], none, 0, 7⟩, ⟨some 6, .move (.t 86), none, 0, 15⟩, ⟨some 7, .move (.c (.bool true)), none, 0, 31⟩]
def f94r32 : List AOper := [⟨some 88, .bin .eql (.t 14) (.c (.int .i64 16)), none, 0, 0⟩, ⟨some 87, .move (.t 88), none, 0, 1⟩]
def f94r33 : List AOper := [⟨some 89, .move (.t 8), none, 0, 0⟩, ⟨some 90, .move (.t 9), none, 0, 0⟩, ⟨some 91, .bin .lss (.t 89) (.t 90), none, 0, 3⟩, ⟨some 92, .call (.c (.fn 123 [] [])) [(.t 91)], none, 0, 7⟩, ⟨some 6, .move (.t 92), none, 0, 15⟩, ⟨some 7, .move (.c (.bool true)), none, 0, 31⟩]
def f94r34 : List AOper := [⟨some 94, .bin .eql (.t 14) (.c (.int .i64 17)), none, 0, 0⟩, ⟨some 93, .move (.t 94), none, 0, 1⟩]
def f94r35 : List AOper := [⟨some 95, .move (.t 1), none, 0, 0⟩, ⟨some 96, .move (.t 2), none, 0, 0⟩, ⟨some 97, .bin .lss (.t 95) (.t 96), none, 0, 3⟩, ⟨some 98, .call (.c (.fn 123 [] [])) [(.t 97)], none, 0, 7⟩, ⟨some 6, .move (.t 98), none, 0, 15⟩, ⟨some 7, .move (.c (.bool true)), none, 0, 31⟩]
def f94r36 : List AOper := [⟨some 100, .bin .eql (.t 14) (.c (.int .i64 18)), none, 0, 0⟩, ⟨some 99, .move (.t 100), none, 0, 1⟩]
def f94r37 : List AOper := [⟨some 101, .move (.t 8), none, 0, 0⟩, ⟨some 102, .move (.t 9), none, 0, 0⟩, ⟨some 103, .bin .leq (.t 101) (.t 102), none, 0, 3⟩, ⟨some 104, .call (.c (.fn 123 [] [])) [(.t 103)], none, 0, 7⟩, ⟨some 6, .move (.t 104), none, 0, 15⟩, ⟨some 7, .move (.c (.bool true)), none, 0, 31⟩]
def f94r38 : List AOper := [⟨some 106, .bin .eql (.t 14) (.c (.int .i64 19)), none, 0, 0⟩, ⟨some 105, .move (.t 106), none, 0, 1⟩]
def f94r39 : List AOper := [⟨some 107, .move (.t 1), none, 0, 0⟩, ⟨some 108, .move (.t 2), none, 0, 0⟩, ⟨some 109, .bin .leq (.t 107) (.t 108), none, 0, 3⟩, ⟨some 110, .call (.c (.fn 123 [] [])) [(.t 109)], none, 0, 7⟩, ⟨some 6, .move (.t 110), none, 0, 15⟩, ⟨some 7, .move (.c (.bool true)), none, 0, 31⟩]
def f94r40 : List AOper := [⟨some 6, .move (.c (.int .u32 0)), none, 0, 0⟩, ⟨some 7, .move (.c (.bool false)), none, 0, 1⟩]
def f94c : ACode :=
 .seq (.region false f94r0 [0, 1, 2] 0)
 (.seq (.region false f94r1 [0, 1, 2, 8, 9] 0)
 (.seq (.seq (.region false f94r2 [0, 1, 2, 8, 9, 14] 0)
 (.block 0 (.seq (.seq (.region false f94r3 [0, 1, 2, 8, 9, 14, 15] 0)
  (.cond (.t 15)
   (.skip)
   (.seq (.region false f94r4 [0, 1, 2, 8, 9, 14, 15] 0)
   (.cond (.t 15)
    (.skip)
    (.seq (.region false f94r5 [0, 1, 2, 8, 9, 14, 15] 0)
    (.cond (.t 15)
     (.skip)
     (.region false f94r6 [0, 1, 2, 8, 9, 14, 15] 0)))))))
  (.cond (.t 15)
   (.seq (.seq (.region false f94r7 [0, 1, 2, 21] 0)
   (.cond (.t 21)
    (.seq (.region false f94r8 [6, 7] 0)
    (.ret))
    (.skip)))
   (.seq (.region false f94r9 [6, 7] 0)
   (.ret)))
   (.seq (.region false f94r10 [1, 2, 8, 9, 14, 26] 0)
   (.cond (.t 26)
    (.seq (.region false f94r11 [6, 7] 0)
    (.ret))
    (.seq (.region false f94r12 [1, 2, 8, 9, 14, 31] 0)
    (.cond (.t 31)
     (.seq (.region false f94r13 [6, 7] 0)
     (.ret))
     (.seq (.region false f94r14 [1, 2, 8, 9, 14, 36] 0)
     (.cond (.t 36)
      (.seq (.region false f94r15 [6, 7] 0)
      (.ret))
      (.seq (.region false f94r16 [1, 2, 8, 9, 14, 41] 0)
      (.cond (.t 41)
       (.seq (.region false f94r17 [6, 7] 0)
       (.ret))
       (.seq (.region false f94r18 [1, 2, 8, 9, 14, 46] 0)
       (.cond (.t 46)
        (.seq (.region false f94r19 [6, 7] 0)
        (.ret))
        (.seq (.region false f94r20 [1, 2, 8, 9, 14, 51] 0)
        (.cond (.t 51)
         (.seq (.region false f94r21 [6, 7] 0)
         (.ret))
         (.seq (.region false f94r22 [1, 2, 8, 9, 14, 56] 0)
         (.cond (.t 56)
          (.seq (.region false f94r23 [6, 7] 0)
          (.ret))
          (.seq (.region false f94r24 [1, 2, 8, 9, 14, 62] 0)
          (.cond (.t 62)
           (.seq (.region false f94r25 [6, 7] 0)
           (.ret))
           (.seq (.region false f94r26 [1, 2, 8, 9, 14, 69] 0)
           (.cond (.t 69)
            (.seq (.region false f94r27 [6, 7] 0)
            (.ret))
            (.seq (.region false f94r28 [1, 2, 8, 9, 14, 75] 0)
            (.cond (.t 75)
             (.seq (.region false f94r29 [6, 7] 0)
             (.ret))
             (.seq (.region false f94r30 [1, 2, 8, 9, 14, 81] 0)
             (.cond (.t 81)
              (.seq (.region false f94r31 [6, 7] 0)
              (.ret))
              (.seq (.region false f94r32 [1, 2, 8, 9, 14, 87] 0)
              (.cond (.t 87)
               (.seq (.region false f94r33 [6, 7] 0)
               (.ret))
               (.seq (.region false f94r34 [1, 2, 8, 9, 14, 93] 0)
               (.cond (.t 93)
                (.seq (.region false f94r35 [6, 7] 0)
                (.ret))
                (.seq (.region false f94r36 [1, 2, 8, 9, 14, 99] 0)
                (.cond (.t 99)
                 (.seq (.region false f94r37 [6, 7] 0)
                 (.ret))
                 (.seq (.region false f94r38 [1, 2, 105] 0)
                 (.cond (.t 105)
                  (.seq (.region false f94r39 [6, 7] 0)
                  (.ret))
                  (.skip)))))))))))))))))))))))))))))))))))
 (.seq (.region false f94r40 [6, 7] 0)
 (.ret))))
def f94 : AFn := ⟨3, 111, [.tmp 6, .tmp 7], f94c, 1, none⟩
def f94k : List (Nat × List Nat) := [(0, [0, 1, 2]), (1, [0, 1, 2, 8, 9]), (2, [0, 1, 2, 8, 9, 14]), (3, [0, 1, 2, 8, 9, 14, 15]), (4, [0, 1, 2, 8, 9, 14, 15]), (5, [0, 1, 2, 8, 9, 14, 15]), (6, [0, 1, 2, 8, 9, 14, 15]), (10, [1, 2, 8, 9, 14, 26]), (12, [1, 2, 8, 9, 14, 31]), (14, [1, 2, 8, 9, 14, 36]), (16, [1, 2, 8, 9, 14, 41]), (18, [1, 2, 8, 9, 14, 46]), (20, [1, 2, 8, 9, 14, 51]), (22, [1, 2, 8, 9, 14, 56]), (24, [1, 2, 8, 9, 14, 62]), (26, [1, 2, 8, 9, 14, 69]), (28, [1, 2, 8, 9, 14, 75]), (30, [1, 2, 8, 9, 14, 81]), (32, [1, 2, 8, 9, 14, 87]), (34, [1, 2, 8, 9, 14, 93]), (36, [1, 2, 8, 9, 14, 99]), (38, [1, 2, 105]), (39, [6, 7]), (37, [6, 7]), (35, [6, 7]), (33, [6, 7]), (31, [6, 7]), (29, [6, 7]), (27, [6, 7]), (25, [6, 7]), (23, [6, 7]), (21, [6, 7]), (19, [6, 7]), (17, [6, 7]), (15, [6, 7]), (13, [6, 7]), (11, [6, 7]), (7, [0, 1, 2, 21]), (8, [6, 7]), (9, [6, 7]), (40, [6, 7])]
def f94v : List Nat := [68, 13, 11]
def f95r0 : List AOper := [⟨some 4, .move (.c (.int .u32 0)), none, 0, 0⟩]
def f95r1 : List AOper := [⟨some 6, .move (.t 0), none, 0, 0⟩, ⟨some 7, .call (.c (.fn 109 [] [])) [(.t 6)], none, 0, 1⟩, ⟨some 5, .move (.t 7), none, 0, 3⟩]
def f95r2 : List AOper := [⟨some 9, .move (.t 0), none, 0, 0⟩, ⟨some 10, .bin .eql (.t 9) (.c (.int .i64 2)), none, 0, 1⟩, ⟨some 8, .move (.t 10), none, 0, 3⟩]
def f95r3 : List AOper := [⟨some 11, .move (.t 1), none, 0, 0⟩, ⟨some 12, .bin .neq (.t 11) (.c (.int .u32 0)), none, 0, 1⟩, ⟨some 13, .call (.c (.fn 123 [] [])) [(.t 12)], none, 0, 3⟩, ⟨some 4, .move (.t 13), none, 0, 7⟩]
def f95r4 : List AOper := [⟨some 15, .move (.t 5), none, 0, 0⟩, ⟨some 16, .bin .eql (.t 15) (.c (.int .i64 1)), none, 0, 1⟩, ⟨some 17, .move (.t 16), none, 0, 3⟩, ⟨some 18, .move (.t 5), (some (17, false)), 0, 7⟩, ⟨some 19, .bin .eql (.t 18) (.c (.int .i64 2)), (some (17, false)), 0, 15⟩, ⟨some 20, .pick (.t 17) (.c (.bool true)) (.t 19), none, 0, 31⟩, ⟨some 14, .move (.t 20), none, 0, 63⟩]
def f95r5 : List AOper := [⟨some 21, .move (.t 1), none, 0, 0⟩, ⟨some 22, .move (.t 5), none, 0, 0⟩, ⟨some 23, .bin .mul (.c (.int .i64 8)) (.t 22), none, 0, 2⟩, ⟨some 24, .conv .u64 (.t 23), none, 0, 6⟩, ⟨some 25, .move (.t 0), none, 0, 0⟩, ⟨some 26, .call (.c (.fn 125 [] [])) [(.t 25)], none, 0, 16⟩, ⟨some 27, .call (.c (.fn 124 [] [])) [(.t 21), (.t 24), (.t 26)], none, 0, 63⟩, ⟨some 4, .move (.t 27), none, 0, 127⟩]
def f95r6 : List AOper := [⟨some 28, .move (.t 1), none, 0, 0⟩, ⟨some 4, .move (.t 28), none, 0, 1⟩]
def f95c : ACode :=
 .seq (.region false f95r0 [0, 1] 0)
 (.seq (.seq (.region false f95r1 [0, 1, 5] 0)
 (.block 0 (.seq (.region false f95r2 [0, 1, 5, 8] 0)
  (.cond (.t 8)
   (.seq (.region false f95r3 [4] 0)
   (.ret))
   (.seq (.region false f95r4 [0, 1, 5, 14] 0)
   (.cond (.t 14)
    (.seq (.region false f95r5 [4] 0)
    (.ret))
    (.skip)))))))
 (.seq (.region false f95r6 [4] 0)
 (.ret)))
def f95 : AFn := ⟨2, 29, [.tmp 4], f95c, 1, none⟩
def f95k : List (Nat × List Nat) := [(0, [0, 1]), (1, [0, 1, 5]), (2, [0, 1, 5, 8]), (4, [0, 1, 5, 14]), (5, [4]), (3, [4]), (6, [4])]
def f95v : List Nat := [24]
def f96r0 : List AOper := [⟨some 5, .alloc false (List.replicate 5 (.int .i64 0)), none, 0, 0⟩, ⟨some 6, .move (.c (.int .i64 0)), none, 1, 0⟩]
def f96r1 : List AOper := [⟨some 7, .move (.t 0), none, 0, 0⟩, ⟨some 8, .load false 1 (.t 2), none, 0, 0⟩, ⟨some 9, .load false 1 (.t 2), none, 0, 0⟩, ⟨some 10, .move (.t 1), none, 0, 0⟩, ⟨some 11, .build (List.replicate 5 (.int .i64 0)) [(0, 1, (.t 7)), (1, 1, (.t 8)), (2, 1, (.t 9)), (3, 1, (.t 10))], none, 0, 15⟩, ⟨none, .store 5 (.t 5) (.t 11), none, 0, 31⟩, ⟨some 6, .move (.c (.int .i64 0)), none, 0, 63⟩]
def f96c : ACode :=
 .seq (.region false f96r0 [0, 1, 2, 5] 1)
 (.seq (.region false f96r1 [5, 6] 0)
 (.ret))
def f96 : AFn := ⟨3, 12, [.cell 5 true 5, .tmp 6], f96c, 1, none⟩
def f96k : List (Nat × List Nat) := [(0, [0, 1, 2, 5]), (1, [5, 6])]
def f96v : List Nat := []
def f97r0 : List AOper := [⟨some 6, .move (.c (.int .i64 0)), none, 0, 0⟩]
def f97r1 : List AOper := [⟨some 7, .move (.t 0), none, 0, 0⟩, ⟨some 8, .call (.c (.fn 125 [] [])) [(.t 7)], none, 0, 1⟩]
def f97r2 : List AOper := [⟨some 9, .move (.t 1), none, 0, 0⟩, ⟨some 6, .move (.t 9), none, 0, 1⟩]
def f97r3 : List AOper := [⟨some 10, .move (.t 2), none, 0, 0⟩, ⟨some 6, .move (.t 10), none, 0, 1⟩]
def f97c : ACode :=
 .seq (.region false f97r0 [0, 1, 2] 0)
 (.seq (.seq (.region false f97r1 [1, 2, 8] 0)
 (.cond (.t 8)
  (.seq (.region false f97r2 [6] 0)
  (.ret))
  (.skip)))
 (.seq (.region false f97r3 [6] 0)
 (.ret)))
def f97 : AFn := ⟨3, 11, [.tmp 6], f97c, 1, none⟩
def f97k : List (Nat × List Nat) := [(0, [0, 1, 2]), (1, [1, 2, 8]), (2, [6]), (3, [6])]
def f97v : List Nat := []
def f100r0 : List AOper := [⟨some 4, .move (.c (.int .i64 0)), none, 0, 0⟩]
def f100r1 : List AOper := [⟨some 5, .move (.t 0), none, 0, 0⟩, ⟨some 6, .move (.t 1), none, 0, 0⟩, ⟨some 7, .call (.c (.fn 91 [] [])) [(.t 5), (.t 6)], none, 0, 3⟩, ⟨some 8, .un .not (.t 7), none, 0, 7⟩]
def f100r2 : List AOper := [⟨some 4, .move (.c (.int .i64 0)), none, 0, 0⟩]
def f100r3 : List AOper := [⟨some 9, .move (.t 0), none, 0, 0⟩, ⟨some 10, .nilCheck (.t 9), none, 0, 1⟩, ⟨some 11, .fieldAddr 0 (.t 10), none, 0, 3⟩, ⟨some 12, .load false 1 (.t 11), none, 0, 7⟩, ⟨some 13, .move (.t 1), none, 0, 0⟩, ⟨some 14, .idxAddr 6 (.t 12) (.t 13), none, 0, 31⟩, ⟨some 15, .fieldAddr 0 (.t 14), none, 0, 63⟩, ⟨some 16, .load false 1 (.t 15), none, 0, 127⟩, ⟨some 4, .move (.t 16), none, 0, 255⟩]
def f100c : ACode :=
 .seq (.region false f100r0 [0, 1] 0)
 (.seq (.seq (.region false f100r1 [0, 1, 8] 0)
 (.cond (.t 8)
  (.seq (.region false f100r2 [4] 0)
  (.ret))
  (.skip)))
 (.seq (.region false f100r3 [4] 0)
 (.ret)))
def f100 : AFn := ⟨2, 17, [.tmp 4], f100c, 1, none⟩
def f100k : List (Nat × List Nat) := [(0, [0, 1]), (1, [0, 1, 8]), (2, [4]), (3, [4])]
def f100v : List Nat := []
def f102r0 : List AOper := [⟨some 2, .move (.c (.int .i64 0)), none, 0, 0⟩]
def f102r1 : List AOper := [⟨some 3, .move (.t 0), none, 0, 0⟩]
def f102r2 : List AOper := [⟨some 5, .bin .eql (.t 3) (.c (.int .i64 2)), none, 0, 0⟩, ⟨some 4, .move (.t 5), none, 0, 1⟩]
def f102r3 : List AOper := [⟨some 6, .bin .eql (.t 3) (.c (.int .i64 3)), none, 0, 0⟩, ⟨some 4, .move (.t 6), none, 0, 1⟩]
def f102r4 : List AOper := [⟨some 7, .bin .eql (.t 3) (.c (.int .i64 4)), none, 0, 0⟩, ⟨some 4, .move (.t 7), none, 0, 1⟩]
def f102r5 : List AOper := [⟨some 8, .bin .eql (.t 3) (.c (.int .i64 5)), none, 0, 0⟩, ⟨some 4, .move (.t 8), none, 0, 1⟩]
def f102r6 : List AOper := [⟨some 2, .move (.c (.int .i64 1)), none, 0, 0⟩]
def f102r7 : List AOper := [⟨some 10, .bin .eql (.t 3) (.c (.int .i64 6)), none, 0, 0⟩, ⟨some 9, .move (.t 10), none, 0, 1⟩]
def f102r8 : List AOper := [⟨some 11, .bin .eql (.t 3) (.c (.int .i64 7)), none, 0, 0⟩, ⟨some 9, .move (.t 11), none, 0, 1⟩]
def f102r9 : List AOper := [⟨some 2, .move (.c (.int .i64 2)), none, 0, 0⟩]
def f102r10 : List AOper := [⟨some 13, .bin .eql (.t 3) (.c (.int .i64 8)), none, 0, 0⟩, ⟨some 12, .move (.t 13), none, 0, 1⟩]
def f102r11 : List AOper := [⟨some 14, .bin .eql (.t 3) (.c (.int .i64 9)), none, 0, 0⟩, ⟨some 12, .move (.t 14), none, 0, 1⟩]
def f102r12 : List AOper := [⟨some 15, .bin .eql (.t 3) (.c (.int .i64 10)), none, 0, 0⟩, ⟨some 12, .move (.t 15), none, 0, 1⟩]
def f102r13 : List AOper := [⟨some 16, .bin .eql (.t 3) (.c (.int .i64 11)), none, 0, 0⟩, ⟨some 12, .move (.t 16), none, 0, 1⟩]
def f102r14 : List AOper := [⟨some 17, .bin .eql (.t 3) (.c (.int .i64 12)), none, 0, 0⟩, ⟨some 12, .move (.t 17), none, 0, 1⟩]
def f102r15 : List AOper := [⟨some 18, .bin .eql (.t 3) (.c (.int .i64 13)), none, 0, 0⟩, ⟨some 12, .move (.t 18), none, 0, 1⟩]
def f102r16 : List AOper := [⟨some 2, .move (.c (.int .i64 4)), none, 0, 0⟩]
def f102r17 : List AOper := [⟨some 2, .move (.c (.int .i64 0)), none, 0, 0⟩]
def f102c : ACode :=
 .seq (.region false f102r0 [0] 0)
 (.seq (.seq (.region false f102r1 [3] 0)
 (.block 0 (.seq (.seq (.region false f102r2 [3, 4] 0)
  (.cond (.t 4)
   (.skip)
   (.seq (.region false f102r3 [3, 4] 0)
   (.cond (.t 4)
    (.skip)
    (.seq (.region false f102r4 [3, 4] 0)
    (.cond (.t 4)
     (.skip)
     (.region false f102r5 [3, 4] 0)))))))
  (.cond (.t 4)
   (.seq (.region false f102r6 [2] 0)
   (.ret))
   (.seq (.seq (.region false f102r7 [3, 9] 0)
   (.cond (.t 9)
    (.skip)
    (.region false f102r8 [3, 9] 0)))
   (.cond (.t 9)
    (.seq (.region false f102r9 [2] 0)
    (.ret))
    (.seq (.seq (.region false f102r10 [3, 12] 0)
    (.cond (.t 12)
     (.skip)
     (.seq (.region false f102r11 [3, 12] 0)
     (.cond (.t 12)
      (.skip)
      (.seq (.region false f102r12 [3, 12] 0)
      (.cond (.t 12)
       (.skip)
       (.seq (.region false f102r13 [3, 12] 0)
       (.cond (.t 12)
        (.skip)
        (.seq (.region false f102r14 [3, 12] 0)
        (.cond (.t 12)
         (.skip)
         (.region false f102r15 [12] 0)))))))))))
    (.cond (.t 12)
     (.seq (.region false f102r16 [2] 0)
     (.ret))
     (.skip)))))))))
 (.seq (.region false f102r17 [2] 0)
 (.ret)))
def f102 : AFn := ⟨1, 19, [.tmp 2], f102c, 1, none⟩
def f102k : List (Nat × List Nat) := [(0, [0]), (1, [3]), (2, [3, 4]), (3, [3, 4]), (4, [3, 4]), (5, [3, 4]), (7, [3, 9]), (8, [3, 9]), (10, [3, 12]), (11, [3, 12]), (12, [3, 12]), (13, [3, 12]), (14, [3, 12]), (15, [12]), (16, [2]), (9, [2]), (6, [2]), (17, [2])]
def f102v : List Nat := []
def f103r0 : List AOper := [⟨some 2, .box true (.t 0), none, 0, 0⟩, ⟨some 3, .box true (.t 1), none, 0, 0⟩, ⟨some 4, .move (.c (.bool false)), none, 0, 0⟩]
def f103r1 : List AOper := [⟨some 6, .fieldAddr 0 (.t 2), none, 0, 0⟩, ⟨some 7, .load false 1 (.t 6), none, 0, 1⟩, ⟨some 8, .fieldAddr 0 (.t 3), none, 0, 0⟩, ⟨some 9, .load false 1 (.t 8), none, 0, 4⟩, ⟨some 10, .bin .neq (.t 7) (.t 9), none, 0, 15⟩, ⟨some 11, .move (.t 10), none, 0, 31⟩, ⟨some 12, .fieldAddr 1 (.t 2), (some (11, false)), 0, 63⟩, ⟨some 13, .load false 1 (.t 12), (some (11, false)), 0, 127⟩, ⟨some 14, .fieldAddr 1 (.t 3), (some (11, false)), 0, 63⟩, ⟨some 15, .load false 1 (.t 14), (some (11, false)), 0, 319⟩, ⟨some 16, .bin .neq (.t 13) (.t 15), (some (11, false)), 0, 1023⟩, ⟨some 17, .pick (.t 11) (.c (.bool true)) (.t 16), none, 0, 2047⟩, ⟨some 18, .move (.t 17), none, 0, 4095⟩, ⟨some 19, .fieldAddr 2 (.t 2), (some (18, false)), 0, 8191⟩, ⟨some 20, .load false 1 (.t 19), (some (18, false)), 0, 16383⟩, ⟨some 21, .fieldAddr 2 (.t 3), (some (18, false)), 0, 8191⟩, ⟨some 22, .load false 1 (.t 21), (some (18, false)), 0, 40959⟩, ⟨some 23, .bin .neq (.t 20) (.t 22), (some (18, false)), 0, 131071⟩, ⟨some 24, .pick (.t 18) (.c (.bool true)) (.t 23), none, 0, 262143⟩, ⟨some 25, .move (.t 24), none, 0, 524287⟩, ⟨some 26, .fieldAddr 3 (.t 2), (some (25, false)), 0, 1048575⟩, ⟨some 27, .load false 1 (.t 26), (some (25, false)), 0, 2097151⟩, ⟨some 28, .fieldAddr 3 (.t 3), (some (25, false)), 0, 1048575⟩, ⟨some 29, .load false 1 (.t 28), (some (25, false)), 0, 5242879⟩, ⟨some 30, .bin .neq (.t 27) (.t 29), (some (25, false)), 0, 16777215⟩, ⟨some 31, .pick (.t 25) (.c (.bool true)) (.t 30), none, 0, 33554431⟩, ⟨some 32, .move (.t 31), none, 0, 67108863⟩, ⟨some 33, .fieldAddr 5 (.t 2), (some (32, false)), 0, 134217727⟩, ⟨some 34, .load false 1 (.t 33), (some (32, false)), 0, 268435455⟩, ⟨some 35, .fieldAddr 5 (.t 3), (some (32, false)), 0, 134217727⟩, ⟨some 36, .load false 1 (.t 35), (some (32, false)), 0, 671088639⟩, ⟨some 37, .eq true .bool (.t 34) (.t 36), (some (32, false)), 0, 2147483647⟩, ⟨some 38, .pick (.t 32) (.c (.bool true)) (.t 37), none, 0, 4294967295⟩, ⟨some 39, .move (.t 38), none, 0, 8589934591⟩, ⟨some 40, .fieldAddr 4 (.t 2), (some (39, false)), 0, 17179869183⟩, ⟨some 41, .load false 1 (.t 40), (some (39, false)), 0, 34359738367⟩, ⟨some 42, .len 1 (.t 41), (some (39, false)), 0, 68719476735⟩, ⟨some 43, .fieldAddr 4 (.t 3), (some (39, false)), 0, 17179869183⟩, ⟨some 44, .load false 1 (.t 43), (some (39, false)), 0, 154618822655⟩, ⟨some 45, .len 1 (.t 44), (some (39, false)), 0, 429496729599⟩, ⟨some 46, .bin .neq (.t 42) (.t 45), (some (39, false)), 0, 1099511627775⟩, ⟨some 47, .pick (.t 39) (.c (.bool true)) (.t 46), none, 0, 2199023255551⟩]
def f103r2 : List AOper := [⟨some 4, .move (.c (.bool false)), none, 0, 0⟩]
def f103r3 : List AOper := [⟨some 5, .move (.c (.int .i64 0)), none, 0, 0⟩]
def f103r4 : List AOper := [⟨some 48, .move (.t 5), none, 0, 0⟩, ⟨some 49, .fieldAddr 4 (.t 2), none, 0, 0⟩, ⟨some 50, .load false 1 (.t 49), none, 0, 2⟩, ⟨some 51, .len 1 (.t 50), none, 0, 6⟩, ⟨some 52, .bin .lss (.t 48) (.t 51), none, 0, 15⟩]
def f103q5 : List AOper := [⟨some 55, .fieldAddr 4 (.t 2), none, 0, 0⟩, ⟨some 56, .load false 1 (.t 55), none, 0, 1⟩, ⟨some 57, .move (.t 5), none, 0, 0⟩, ⟨some 58, .idxAddr 3 (.t 56) (.t 57), none, 0, 7⟩, ⟨some 59, .load true 3 (.t 58), none, 0, 15⟩, ⟨some 60, .fieldAddr 4 (.t 3), none, 0, 0⟩, ⟨some 61, .load false 1 (.t 60), none, 0, 32⟩, ⟨some 62, .move (.t 5), none, 0, 0⟩, ⟨some 63, .idxAddr 3 (.t 61) (.t 62), none, 0, 224⟩, ⟨some 64, .load true 3 (.t 63), none, 0, 480⟩, ⟨some 65, .eq true (.agg [.str, .int .i64, .int .i64]) (.t 59) (.t 64), none, 0, 1023⟩]
def f103r5 : List AOper := f103q5
def f103r6 : List AOper := [⟨some 4, .move (.c (.bool false)), none, 0, 0⟩]
def f103r7 : List AOper := [⟨some 53, .move (.t 5), none, 0, 0⟩, ⟨some 54, .bin .add (.t 53) (.c (.int .i64 1)), none, 0, 1⟩, ⟨some 5, .move (.t 54), none, 0, 3⟩]
def f103m4 : ACode :=
 .seq (.seq (.region false f103r4 [2, 3, 5, 52] 0)
 (.cond (.t 52)
  (.skip)
  (.exit 0)))
 (.seq (.block 1 (.seq (.region true f103r5 [2, 3, 5, 65] 0)
  (.cond (.t 65)
   (.seq (.region false f103r6 [4] 0)
   (.ret))
   (.skip))))
 (.region false f103r7 [2, 3, 5] 0))
def f103l4 : ACode := f103m4
theorem f103l4_b {A : Tab} {nt : Nat} {e : Env} {h : Heap} : Brun A nt f103l4 e h = Brun A nt f103m4 e h := rfl
def f103r8 : List AOper := [⟨some 4, .move (.c (.bool true)), none, 0, 0⟩]
theorem f103r5_s : staticOK 0 f103r5 = true := by rfl
theorem f103r5_w {A : Tab} {nt : Nat} {keep : List Nat} {n : Nat} {e : Env} {h : Heap} (hr : (bkeep keep (stepsF nt (stepF A true) h.length f103r5 e (h ++ List.replicate n .free))).isSome = true) : Brun A nt (.region true f103r5 keep n) e h = bkeep keep (stepsF nt (stepF A true) h.length f103r5 e (h ++ List.replicate n .free)) := Brun_drawnS f103r5_s hr
theorem f103r5_u (nt base : Nat) (step : Nat → AOp → Env → Heap → Option (AV × Heap)) (e : Env) (h : Heap) : stepsF nt step base f103r5 e h = stepsF nt step base f103q5 e h := rfl
def f103c : ACode :=
 .seq (.region false f103r0 [2, 3] 0)
 (.seq (.seq (.region false f103r1 [2, 3, 47] 0)
 (.cond (.t 47)
  (.seq (.region false f103r2 [4] 0)
  (.ret))
  (.skip)))
 (.seq (.seq (.region false f103r3 [2, 3, 5] 0)
 (.block 0 (.loop f103l4)))
 (.seq (.region false f103r8 [4] 0)
 (.ret))))
def f103 : AFn := ⟨2, 66, [.tmp 4], f103c, 1, none⟩
def f103k : List (Nat × List Nat) := [(0, [2, 3]), (1, [2, 3, 47]), (2, [4]), (3, [2, 3, 5]), (4, [2, 3, 5, 52]), (6, [2, 3, 5, 65]), (7, [4]), (5, [2, 3, 5]), (8, [4])]
def f103v : List Nat := [3, 2]
def f106r0 : List AOper := [⟨some 2, .move (.c (.is [] .nil)), none, 0, 0⟩]
def f106r1 : List AOper := [⟨some 3, .move (.t 0), none, 0, 0⟩, ⟨some 4, .eq false .slice (.t 3) (.c (.is [] .nil)), none, 0, 1⟩]
def f106r2 : List AOper := [⟨some 2, .move (.c (.is [] .nil)), none, 0, 0⟩]
def f106r3 : List AOper := [⟨some 5, .buildSlice true 3 0 [] [], none, 0, 0⟩, ⟨some 6, .move (.t 0), none, 0, 0⟩, ⟨some 7, .append true 3 32 (.t 5) (.t 6), none, 0, 3⟩, ⟨some 2, .move (.t 7), none, 1, 7⟩]
def f106c : ACode :=
 .seq (.region false f106r0 [0] 0)
 (.seq (.seq (.region false f106r1 [0, 4] 0)
 (.cond (.t 4)
  (.seq (.region false f106r2 [2] 0)
  (.ret))
  (.skip)))
 (.seq (.region false f106r3 [2] 1)
 (.ret)))
def f106 : AFn := ⟨1, 8, [.tmp 2], f106c, 3, none⟩
def f106k : List (Nat × List Nat) := [(0, [0]), (1, [0, 4]), (2, [2]), (3, [2])]
def f106v : List Nat := [7, 5]
def f107r0 : List AOper := [⟨some 3, .box true (.t 1), none, 0, 0⟩, ⟨some 4, .alloc false [(.int .i64 0), (.int .i64 0), (.is [] .nil)], none, 0, 0⟩]
def f107r1 : List AOper := [⟨some 12, .build [(.int .i64 0), (.int .i64 0), (.is [] .nil)] [(1, 1, (.c (.int .i64 1)))], none, 0, 0⟩, ⟨some 5, .alloc false [(.int .i64 0), (.int .i64 0), (.is [] .nil)], none, 0, 0⟩, ⟨none, .store 3 (.t 5) (.t 12), none, 1, 3⟩]
def f107r2 : List AOper := [⟨some 6, .move (.c (.int .i64 0)), none, 0, 0⟩]
def f107r3 : List AOper := [⟨some 13, .fn 127 [] [(.t 5)], none, 0, 0⟩, ⟨some 7, .move (.t 13), none, 0, 1⟩]
def f107r4 : List AOper := [⟨some 14, .fieldAddr 4 (.t 3), none, 0, 0⟩, ⟨some 15, .load false 1 (.t 14), none, 0, 1⟩, ⟨some 16, .len 1 (.t 15), none, 0, 3⟩, ⟨some 17, .move (.c (.int .i64 0)), none, 0, 0⟩]
def f107r5 : List AOper := [⟨some 18, .bin .lss (.t 17) (.t 16), none, 0, 0⟩]
def f107r6 : List AOper := [⟨some 19, .move (.t 17), none, 0, 0⟩, ⟨some 20, .idxAddr 3 (.t 15) (.t 17), none, 0, 0⟩, ⟨some 21, .load true 3 (.t 20), none, 0, 2⟩, ⟨some 9, .alloc false [(.str []), (.int .i64 0), (.int .i64 0)], none, 0, 0⟩, ⟨some 8, .move (.t 19), none, 1, 15⟩, ⟨none, .store 3 (.t 9) (.t 21), none, 1, 31⟩]
def f107r7 : List AOper := [⟨some 22, .move (.t 0), none, 0, 0⟩, ⟨some 23, .fieldAddr 1 (.t 9), none, 0, 0⟩, ⟨some 24, .load false 1 (.t 23), none, 0, 2⟩, ⟨some 25, .call (.c (.fn 72 [] [])) [(.t 22), (.t 24)], none, 0, 7⟩, ⟨some 10, .alloc false [(.int .i64 0), (.int .i64 0), (.is [] .nil)], none, 0, 0⟩, ⟨none, .store 3 (.t 10) (.t 25), none, 1, 31⟩]
def f107r8 : List AOper := [⟨some 26, .fieldAddr 0 (.t 10), none, 0, 0⟩, ⟨some 27, .load false 1 (.t 26), none, 0, 1⟩, ⟨some 28, .bin .mul (.c (.int .i64 8)) (.t 27), none, 0, 3⟩, ⟨some 11, .move (.t 28), none, 0, 7⟩]
def f107r9 : List AOper := [⟨some 74, .fieldAddr 2 (.t 9), none, 0, 0⟩, ⟨some 75, .load false 1 (.t 74), none, 0, 1⟩, ⟨some 76, .bin .lss (.t 75) (.c (.int .i64 0)), none, 0, 3⟩, ⟨some 73, .move (.t 76), none, 0, 7⟩]
def f107r10 : List AOper := [⟨some 77, .move (.t 6), none, 0, 0⟩, ⟨some 78, .fieldAddr 1 (.t 10), none, 0, 0⟩, ⟨some 79, .load false 1 (.t 78), none, 0, 2⟩, ⟨some 80, .bin .mul (.c (.int .i64 8)) (.t 79), none, 0, 6⟩, ⟨some 81, .call (.c (.fn 128 [] [])) [(.t 77), (.t 80)], none, 0, 15⟩, ⟨some 6, .move (.t 81), none, 0, 31⟩]
def f107r11 : List AOper := [⟨some 82, .move (.t 7), none, 0, 0⟩, ⟨some 83, .move (.t 8), none, 0, 0⟩, ⟨some 84, .fieldAddr 1 (.t 9), none, 0, 0⟩, ⟨some 85, .load false 1 (.t 84), none, 0, 4⟩, ⟨some 86, .move (.t 6), none, 0, 0⟩, ⟨some 87, .bin .quo (.t 86) (.c (.int .i64 8)), none, 0, 16⟩, ⟨some 88, .build (List.replicate 5 (.int .i64 0)) [(0, 1, (.t 83)), (1, 1, (.t 85)), (2, 1, (.t 87))], none, 0, 62⟩, ⟨some 89, .call (.t 82) [(.t 88)], none, 0, 127⟩]
def f107r12 : List AOper := [⟨some 90, .move (.t 6), none, 0, 0⟩, ⟨some 91, .move (.t 11), none, 0, 0⟩, ⟨some 92, .bin .add (.t 90) (.t 91), none, 0, 3⟩, ⟨some 6, .move (.t 92), none, 0, 7⟩]
def f107r13 : List AOper := [⟨some 93, .fieldAddr 1 (.t 5), none, 0, 0⟩, ⟨some 94, .load false 1 (.t 93), none, 0, 1⟩, ⟨some 95, .fieldAddr 1 (.t 10), none, 0, 0⟩, ⟨some 96, .load false 1 (.t 95), none, 0, 4⟩, ⟨some 97, .max (.t 94) (.t 96), none, 0, 15⟩, ⟨some 98, .fieldAddr 1 (.t 5), none, 0, 31⟩, ⟨none, .store 1 (.t 98) (.t 97), none, 0, 63⟩]
def f107r14 : List AOper := [⟨some 100, .fieldAddr 2 (.t 9), none, 0, 0⟩, ⟨some 101, .load false 1 (.t 100), none, 0, 1⟩, ⟨some 102, .bin .eql (.t 101) (.c (.int .i64 0)), none, 0, 3⟩, ⟨some 99, .move (.t 102), none, 0, 7⟩]
def f107r15 : List AOper := [⟨some 103, .move (.t 6), none, 0, 0⟩, ⟨some 104, .move (.t 11), none, 0, 0⟩, ⟨some 105, .call (.c (.fn 128 [] [])) [(.t 103), (.t 104)], none, 0, 3⟩, ⟨some 6, .move (.t 105), none, 0, 7⟩]
def f107q16 : List AOper := [⟨some 29, .move (.t 6), none, 0, 0⟩, ⟨some 30, .move (.t 11), none, 0, 0⟩, ⟨some 31, .bin .quo (.t 29) (.t 30), none, 0, 3⟩, ⟨some 32, .move (.t 6), none, 0, 0⟩, ⟨some 33, .fieldAddr 2 (.t 9), none, 0, 0⟩, ⟨some 34, .load false 1 (.t 33), none, 0, 16⟩, ⟨some 35, .bin .add (.t 32) (.t 34), none, 0, 56⟩, ⟨some 36, .bin .sub (.t 35) (.c (.int .i64 1)), none, 0, 120⟩, ⟨some 37, .move (.t 11), none, 0, 0⟩, ⟨some 38, .bin .quo (.t 36) (.t 37), none, 0, 504⟩, ⟨some 39, .bin .neq (.t 31) (.t 38), none, 0, 1023⟩]
def f107r16 : List AOper := f107q16
def f107r17 : List AOper := [⟨some 40, .move (.t 6), none, 0, 0⟩, ⟨some 41, .move (.t 11), none, 0, 0⟩, ⟨some 42, .call (.c (.fn 128 [] [])) [(.t 40), (.t 41)], none, 0, 3⟩, ⟨some 6, .move (.t 42), none, 0, 7⟩]
def f107q18 : List AOper := [⟨some 43, .move (.t 7), none, 0, 0⟩, ⟨some 44, .move (.t 8), none, 0, 0⟩, ⟨some 45, .fieldAddr 1 (.t 9), none, 0, 0⟩, ⟨some 46, .load false 1 (.t 45), none, 0, 4⟩, ⟨some 47, .fieldAddr 0 (.t 10), none, 0, 0⟩, ⟨some 48, .load false 1 (.t 47), none, 0, 16⟩, ⟨some 49, .move (.t 6), none, 0, 0⟩, ⟨some 50, .move (.t 11), none, 0, 0⟩, ⟨some 51, .bin .quo (.t 49) (.t 50), none, 0, 192⟩, ⟨some 52, .bin .mul (.t 48) (.t 51), none, 0, 496⟩, ⟨some 53, .move (.t 6), none, 0, 0⟩, ⟨some 54, .move (.t 11), none, 0, 0⟩, ⟨some 55, .bin .rem (.t 53) (.t 54), none, 0, 3072⟩, ⟨some 56, .fieldAddr 2 (.t 9), none, 0, 0⟩, ⟨some 57, .load false 1 (.t 56), none, 0, 8192⟩, ⟨some 58, .build (List.replicate 5 (.int .i64 0)) [(0, 1, (.t 44)), (1, 1, (.t 46)), (2, 1, (.t 52)), (3, 1, (.t 55)), (4, 1, (.t 57))], none, 0, 32766⟩, ⟨some 59, .call (.t 43) [(.t 58)], none, 0, 65535⟩]
def f107r18 : List AOper := f107q18
def f107r19 : List AOper := [⟨some 60, .move (.t 6), none, 0, 0⟩, ⟨some 61, .fieldAddr 2 (.t 9), none, 0, 0⟩, ⟨some 62, .load false 1 (.t 61), none, 0, 2⟩, ⟨some 63, .bin .add (.t 60) (.t 62), none, 0, 7⟩, ⟨some 6, .move (.t 63), none, 0, 15⟩]
def f107r20 : List AOper := [⟨some 64, .fieldAddr 0 (.t 9), none, 0, 0⟩, ⟨some 65, .load false 1 (.t 64), none, 0, 1⟩, ⟨some 66, .bin .neq (.t 65) (.c (.str [])), none, 0, 3⟩]
def f107r21 : List AOper := [⟨some 67, .fieldAddr 1 (.t 5), none, 0, 0⟩, ⟨some 68, .load false 1 (.t 67), none, 0, 1⟩, ⟨some 69, .fieldAddr 0 (.t 10), none, 0, 0⟩, ⟨some 70, .load false 1 (.t 69), none, 0, 4⟩, ⟨some 71, .max (.t 68) (.t 70), none, 0, 15⟩, ⟨some 72, .fieldAddr 1 (.t 5), none, 0, 31⟩, ⟨none, .store 1 (.t 72) (.t 71), none, 0, 63⟩]
def f107r22 : List AOper := [⟨some 106, .bin .add (.t 17) (.c (.int .i64 1)), none, 0, 0⟩, ⟨some 17, .move (.t 106), none, 0, 1⟩]
def f107m5 : ACode :=
 .seq (.region false f107r5 [0, 4, 5, 6, 7, 15, 16, 17, 18] 0)
 (.seq (.cond (.t 18)
  (.skip)
  (.exit 0))
 (.seq (.block 1 (.seq (.region false f107r6 [0, 4, 5, 6, 7, 8, 9, 15, 16, 17] 1)
  (.seq (.region false f107r7 [0, 4, 5, 6, 7, 8, 9, 10, 15, 16, 17] 1)
  (.seq (.region false f107r8 [0, 4, 5, 6, 7, 8, 9, 10, 11, 15, 16, 17] 0)
  (.block 2 (.seq (.region false f107r9 [0, 4, 5, 6, 7, 8, 9, 10, 11, 15, 16, 17, 73] 0)
   (.cond (.t 73)
    (.seq (.region false f107r10 [0, 4, 5, 6, 7, 8, 9, 10, 11, 15, 16, 17] 0)
    (.seq (.region false f107r11 [0, 4, 5, 6, 7, 10, 11, 15, 16, 17] 0)
    (.seq (.region false f107r12 [0, 4, 5, 6, 7, 10, 15, 16, 17] 0)
    (.region false f107r13 [0, 4, 5, 6, 7, 15, 16, 17] 0))))
    (.seq (.region false f107r14 [0, 4, 5, 6, 7, 8, 9, 10, 11, 15, 16, 17, 99] 0)
    (.cond (.t 99)
     (.region false f107r15 [0, 4, 5, 6, 7, 15, 16, 17] 0)
     (.seq (.seq (.region true f107r16 [0, 4, 5, 6, 7, 8, 9, 10, 11, 15, 16, 17, 39] 0)
     (.cond (.t 39)
      (.region false f107r17 [0, 4, 5, 6, 7, 8, 9, 10, 11, 15, 16, 17] 0)
      (.skip)))
     (.seq (.region true f107r18 [0, 4, 5, 6, 7, 9, 10, 15, 16, 17] 0)
     (.seq (.region false f107r19 [0, 4, 5, 6, 7, 9, 10, 15, 16, 17] 0)
     (.seq (.region false f107r20 [0, 4, 5, 6, 7, 10, 15, 16, 17, 66] 0)
     (.cond (.t 66)
      (.region false f107r21 [0, 4, 5, 6, 7, 15, 16, 17] 0)
      (.skip)))))))))))))))
 (.region false f107r22 [0, 4, 5, 6, 7, 15, 16, 17] 0)))
def f107l5 : ACode := f107m5
theorem f107l5_b {A : Tab} {nt : Nat} {e : Env} {h : Heap} : Brun A nt f107l5 e h = Brun A nt f107m5 e h := rfl
def f107q23 : List AOper := [⟨some 107, .move (.t 6), none, 0, 0⟩, ⟨some 108, .call (.c (.fn 128 [] [])) [(.t 107), (.c (.int .i64 8))], none, 0, 1⟩, ⟨some 109, .bin .quo (.t 108) (.c (.int .i64 8)), none, 0, 3⟩, ⟨some 110, .max (.c (.int .i64 1)) (.t 109), none, 0, 7⟩, ⟨some 111, .fieldAddr 1 (.t 5), none, 0, 0⟩, ⟨some 112, .load false 1 (.t 111), none, 0, 16⟩, ⟨some 113, .call (.c (.fn 128 [] [])) [(.t 110), (.t 112)], none, 0, 63⟩, ⟨some 114, .fieldAddr 0 (.t 5), none, 0, 127⟩, ⟨none, .store 1 (.t 114) (.t 113), none, 0, 255⟩]
def f107r23 : List AOper := f107q23
def f107r24 : List AOper := [⟨some 115, .load true 3 (.t 5), none, 0, 0⟩, ⟨none, .store 3 (.t 4) (.t 115), none, 0, 1⟩]
theorem f107r16_s : staticOK 0 f107r16 = true := by rfl
theorem f107r16_w {A : Tab} {nt : Nat} {keep : List Nat} {n : Nat} {e : Env} {h : Heap} (hr : (bkeep keep (stepsF nt (stepF A true) h.length f107r16 e (h ++ List.replicate n .free))).isSome = true) : Brun A nt (.region true f107r16 keep n) e h = bkeep keep (stepsF nt (stepF A true) h.length f107r16 e (h ++ List.replicate n .free)) := Brun_drawnS f107r16_s hr
theorem f107r16_u (nt base : Nat) (step : Nat → AOp → Env → Heap → Option (AV × Heap)) (e : Env) (h : Heap) : stepsF nt step base f107r16 e h = stepsF nt step base f107q16 e h := rfl
theorem f107r18_s : staticOK 0 f107r18 = true := by rfl
theorem f107r18_w {A : Tab} {nt : Nat} {keep : List Nat} {n : Nat} {e : Env} {h : Heap} (hr : (bkeep keep (stepsF nt (stepF A true) h.length f107r18 e (h ++ List.replicate n .free))).isSome = true) : Brun A nt (.region true f107r18 keep n) e h = bkeep keep (stepsF nt (stepF A true) h.length f107r18 e (h ++ List.replicate n .free)) := Brun_drawnS f107r18_s hr
theorem f107r18_u (nt base : Nat) (step : Nat → AOp → Env → Heap → Option (AV × Heap)) (e : Env) (h : Heap) : stepsF nt step base f107r18 e h = stepsF nt step base f107q18 e h := rfl
theorem f107r23_s : staticOK 0 f107r23 = true := by rfl
theorem f107r23_w {A : Tab} {nt : Nat} {keep : List Nat} {n : Nat} {e : Env} {h : Heap} (hr : (bkeep keep (stepsF nt (stepF A true) h.length f107r23 e (h ++ List.replicate n .free))).isSome = true) : Brun A nt (.region true f107r23 keep n) e h = bkeep keep (stepsF nt (stepF A true) h.length f107r23 e (h ++ List.replicate n .free)) := Brun_drawnS f107r23_s hr
theorem f107r23_u (nt base : Nat) (step : Nat → AOp → Env → Heap → Option (AV × Heap)) (e : Env) (h : Heap) : stepsF nt step base f107r23 e h = stepsF nt step base f107q23 e h := rfl
def f107c : ACode :=
 .seq (.region false f107r0 [0, 3, 4] 1)
 (.seq (.region false f107r1 [0, 3, 4, 5] 1)
 (.seq (.region false f107r2 [0, 3, 4, 5, 6] 0)
 (.seq (.region false f107r3 [0, 3, 4, 5, 6, 7] 0)
 (.seq (.seq (.region false f107r4 [0, 4, 5, 6, 7, 15, 16, 17] 0)
 (.block 0 (.loop f107l5)))
 (.seq (.region true f107r23 [4, 5] 0)
 (.seq (.region false f107r24 [4] 0)
 (.ret)))))))
def f107 : AFn := ⟨2, 116, [.cell 4 true 3], f107c, 1, none⟩
def f107k : List (Nat × List Nat) := [(0, [0, 3, 4]), (1, [0, 3, 4, 5]), (2, [0, 3, 4, 5, 6]), (3, [0, 3, 4, 5, 6, 7]), (4, [0, 4, 5, 6, 7, 15, 16, 17]), (5, [0, 4, 5, 6, 7, 15, 16, 17, 18]), (6, [0, 4, 5, 6, 7, 8, 9, 15, 16, 17]), (7, [0, 4, 5, 6, 7, 8, 9, 10, 15, 16, 17]), (8, [0, 4, 5, 6, 7, 8, 9, 10, 11, 15, 16, 17]), (15, [0, 4, 5, 6, 7, 8, 9, 10, 11, 15, 16, 17, 73]), (20, [0, 4, 5, 6, 7, 8, 9, 10, 11, 15, 16, 17, 99]), (9, [0, 4, 5, 6, 7, 8, 9, 10, 11, 15, 16, 17, 39]), (10, [0, 4, 5, 6, 7, 8, 9, 10, 11, 15, 16, 17]), (11, [0, 4, 5, 6, 7, 9, 10, 15, 16, 17]), (12, [0, 4, 5, 6, 7, 9, 10, 15, 16, 17]), (13, [0, 4, 5, 6, 7, 10, 15, 16, 17, 66]), (14, [0, 4, 5, 6, 7, 15, 16, 17]), (21, [0, 4, 5, 6, 7, 15, 16, 17]), (16, [0, 4, 5, 6, 7, 8, 9, 10, 11, 15, 16, 17]), (17, [0, 4, 5, 6, 7, 10, 11, 15, 16, 17]), (18, [0, 4, 5, 6, 7, 10, 15, 16, 17]), (19, [0, 4, 5, 6, 7, 15, 16, 17]), (22, [0, 4, 5, 6, 7, 15, 16, 17]), (23, [4, 5]), (24, [4])]
def f107v : List Nat := [3]
def f108r0 : List AOper := [⟨some 3, .box true (.t 1), none, 0, 0⟩, ⟨some 4, .alloc false [(.int .i64 0), (.int .i64 0), (.is [] .nil)], none, 0, 0⟩]
def f108r1 : List AOper := [⟨some 9, .build [(.int .i64 0), (.int .i64 0), (.is [] .nil)] [(0, 1, (.c (.int .i64 1))), (1, 1, (.c (.int .i64 1)))], none, 0, 0⟩, ⟨some 5, .alloc false [(.int .i64 0), (.int .i64 0), (.is [] .nil)], none, 0, 0⟩, ⟨none, .store 3 (.t 5) (.t 9), none, 1, 3⟩]
def f108r2 : List AOper := [⟨some 10, .fieldAddr 4 (.t 3), none, 0, 0⟩, ⟨some 11, .load false 1 (.t 10), none, 0, 1⟩, ⟨some 12, .len 1 (.t 11), none, 0, 3⟩, ⟨some 13, .move (.c (.int .i64 0)), none, 0, 0⟩]
def f108r3 : List AOper := [⟨some 14, .bin .lss (.t 13) (.t 12), none, 0, 0⟩]
def f108r4 : List AOper := [⟨some 15, .move (.t 13), none, 0, 0⟩, ⟨some 16, .idxAddr 3 (.t 11) (.t 13), none, 0, 0⟩, ⟨some 17, .load true 3 (.t 16), none, 0, 2⟩, ⟨some 7, .alloc false [(.str []), (.int .i64 0), (.int .i64 0)], none, 0, 0⟩, ⟨some 6, .move (.t 15), none, 1, 15⟩, ⟨none, .store 3 (.t 7) (.t 17), none, 1, 31⟩]
def f108r5 : List AOper := [⟨some 18, .move (.t 0), none, 0, 0⟩, ⟨some 19, .fieldAddr 1 (.t 7), none, 0, 0⟩, ⟨some 20, .load false 1 (.t 19), none, 0, 2⟩, ⟨some 21, .call (.c (.fn 72 [] [])) [(.t 18), (.t 20)], none, 0, 7⟩, ⟨some 8, .alloc false [(.int .i64 0), (.int .i64 0), (.is [] .nil)], none, 0, 0⟩, ⟨none, .store 3 (.t 8) (.t 21), none, 1, 31⟩]
def f108r6 : List AOper := [⟨some 23, .fieldAddr 2 (.t 7), none, 0, 0⟩, ⟨some 24, .load false 1 (.t 23), none, 0, 1⟩, ⟨some 25, .bin .lss (.t 24) (.c (.int .i64 0)), none, 0, 3⟩, ⟨some 22, .move (.t 25), none, 0, 7⟩]
def f108r7 : List AOper := [⟨some 26, .fieldAddr 2 (.t 5), none, 0, 0⟩, ⟨some 27, .load false 1 (.t 26), none, 0, 1⟩, ⟨some 28, .move (.t 6), none, 0, 0⟩, ⟨some 29, .fieldAddr 1 (.t 7), none, 0, 0⟩, ⟨some 30, .load false 1 (.t 29), none, 0, 8⟩, ⟨some 31, .build (List.replicate 5 (.int .i64 0)) [(0, 1, (.t 28)), (1, 1, (.t 30))], none, 0, 28⟩, ⟨some 32, .buildSlice true 5 1 (List.replicate 5 (.int .i64 0)) [(0, 5, (.t 31))], none, 0, 60⟩, ⟨some 33, .append true 5 40 (.t 27) (.t 32), none, 0, 127⟩, ⟨some 34, .fieldAddr 2 (.t 5), none, 1, 255⟩, ⟨none, .store 1 (.t 34) (.t 33), none, 1, 511⟩]
def f108r8 : List AOper := [⟨some 35, .fieldAddr 0 (.t 5), none, 0, 0⟩, ⟨some 36, .load false 1 (.t 35), none, 0, 1⟩, ⟨some 37, .fieldAddr 0 (.t 8), none, 0, 0⟩, ⟨some 38, .load false 1 (.t 37), none, 0, 4⟩, ⟨some 39, .max (.t 36) (.t 38), none, 0, 15⟩, ⟨some 40, .fieldAddr 1 (.t 5), none, 0, 0⟩, ⟨some 41, .load false 1 (.t 40), none, 0, 32⟩, ⟨some 42, .fieldAddr 1 (.t 8), none, 0, 0⟩, ⟨some 43, .load false 1 (.t 42), none, 0, 128⟩, ⟨some 44, .max (.t 41) (.t 43), none, 0, 480⟩, ⟨some 45, .fieldAddr 0 (.t 5), none, 0, 127⟩, ⟨none, .store 1 (.t 45) (.t 39), none, 0, 1151⟩, ⟨some 46, .fieldAddr 1 (.t 5), none, 0, 4095⟩, ⟨none, .store 1 (.t 46) (.t 44), none, 0, 8191⟩]
def f108r9 : List AOper := [⟨some 48, .fieldAddr 2 (.t 7), none, 0, 0⟩, ⟨some 49, .load false 1 (.t 48), none, 0, 1⟩, ⟨some 50, .bin .gtr (.t 49) (.c (.int .i64 0)), none, 0, 3⟩, ⟨some 47, .move (.t 50), none, 0, 7⟩]
def f108r10 : List AOper := [⟨some 51, .fieldAddr 2 (.t 5), none, 0, 0⟩, ⟨some 52, .load false 1 (.t 51), none, 0, 1⟩, ⟨some 53, .move (.t 6), none, 0, 0⟩, ⟨some 54, .fieldAddr 1 (.t 7), none, 0, 0⟩, ⟨some 55, .load false 1 (.t 54), none, 0, 8⟩, ⟨some 56, .fieldAddr 2 (.t 7), none, 0, 0⟩, ⟨some 57, .load false 1 (.t 56), none, 0, 32⟩, ⟨some 58, .build (List.replicate 5 (.int .i64 0)) [(0, 1, (.t 53)), (1, 1, (.t 55)), (4, 1, (.t 57))], none, 0, 124⟩, ⟨some 59, .buildSlice true 5 1 (List.replicate 5 (.int .i64 0)) [(0, 5, (.t 58))], none, 0, 252⟩, ⟨some 60, .append true 5 40 (.t 52) (.t 59), none, 0, 511⟩, ⟨some 61, .fieldAddr 2 (.t 5), none, 1, 1023⟩, ⟨none, .store 1 (.t 61) (.t 60), none, 1, 2047⟩]
def f108q11 : List AOper := [⟨some 62, .fieldAddr 0 (.t 5), none, 0, 0⟩, ⟨some 63, .load false 1 (.t 62), none, 0, 1⟩, ⟨some 64, .fieldAddr 2 (.t 7), none, 0, 0⟩, ⟨some 65, .load false 1 (.t 64), none, 0, 4⟩, ⟨some 66, .call (.c (.fn 128 [] [])) [(.t 65), (.c (.int .i64 8))], none, 0, 12⟩, ⟨some 67, .bin .quo (.t 66) (.c (.int .i64 8)), none, 0, 28⟩, ⟨some 68, .max (.t 63) (.t 67), none, 0, 63⟩, ⟨some 69, .fieldAddr 0 (.t 5), none, 0, 127⟩, ⟨none, .store 1 (.t 69) (.t 68), none, 0, 255⟩]
def f108r11 : List AOper := f108q11
def f108r12 : List AOper := [⟨some 70, .fieldAddr 2 (.t 7), none, 0, 0⟩, ⟨some 71, .load false 1 (.t 70), none, 0, 1⟩, ⟨some 72, .bin .gtr (.t 71) (.c (.int .i64 0)), none, 0, 3⟩, ⟨some 73, .move (.t 72), none, 0, 7⟩, ⟨some 74, .fieldAddr 0 (.t 7), (some (73, true)), 0, 15⟩, ⟨some 75, .load false 1 (.t 74), (some (73, true)), 0, 31⟩, ⟨some 76, .bin .neq (.t 75) (.c (.str [])), (some (73, true)), 0, 63⟩, ⟨some 77, .pick (.t 73) (.t 76) (.c (.bool false)), none, 0, 127⟩]
def f108r13 : List AOper := [⟨some 78, .fieldAddr 1 (.t 5), none, 0, 0⟩, ⟨some 79, .load false 1 (.t 78), none, 0, 1⟩, ⟨some 80, .fieldAddr 0 (.t 8), none, 0, 0⟩, ⟨some 81, .load false 1 (.t 80), none, 0, 4⟩, ⟨some 82, .max (.t 79) (.t 81), none, 0, 15⟩, ⟨some 83, .fieldAddr 1 (.t 5), none, 0, 31⟩, ⟨none, .store 1 (.t 83) (.t 82), none, 0, 63⟩]
def f108r14 : List AOper := [⟨some 84, .bin .add (.t 13) (.c (.int .i64 1)), none, 0, 0⟩, ⟨some 13, .move (.t 84), none, 0, 1⟩]
def f108m3 : ACode :=
 .seq (.region false f108r3 [0, 4, 5, 11, 12, 13, 14] 0)
 (.seq (.cond (.t 14)
  (.skip)
  (.exit 0))
 (.seq (.block 1 (.seq (.region false f108r4 [0, 4, 5, 6, 7, 11, 12, 13] 1)
  (.seq (.region false f108r5 [0, 4, 5, 6, 7, 8, 11, 12, 13] 1)
  (.seq (.block 2 (.seq (.region false f108r6 [0, 4, 5, 6, 7, 8, 11, 12, 13, 22] 0)
   (.cond (.t 22)
    (.seq (.region false f108r7 [0, 4, 5, 7, 8, 11, 12, 13] 1)
    (.region true f108r8 [0, 4, 5, 7, 8, 11, 12, 13] 0))
    (.seq (.region false f108r9 [0, 4, 5, 6, 7, 8, 11, 12, 13, 47] 0)
    (.cond (.t 47)
     (.seq (.region false f108r10 [0, 4, 5, 7, 8, 11, 12, 13] 1)
     (.region true f108r11 [0, 4, 5, 7, 8, 11, 12, 13] 0))
     (.skip))))))
  (.seq (.region false f108r12 [0, 4, 5, 8, 11, 12, 13, 77] 0)
  (.cond (.t 77)
   (.region false f108r13 [0, 4, 5, 11, 12, 13] 0)
   (.skip)))))))
 (.region false f108r14 [0, 4, 5, 11, 12, 13] 0)))
def f108l3 : ACode := f108m3
theorem f108l3_b {A : Tab} {nt : Nat} {e : Env} {h : Heap} : Brun A nt f108l3 e h = Brun A nt f108m3 e h := rfl
def f108r15 : List AOper := [⟨some 85, .fieldAddr 0 (.t 5), none, 0, 0⟩, ⟨some 86, .load false 1 (.t 85), none, 0, 1⟩, ⟨some 87, .fieldAddr 1 (.t 5), none, 0, 0⟩, ⟨some 88, .load false 1 (.t 87), none, 0, 4⟩, ⟨some 89, .call (.c (.fn 128 [] [])) [(.t 86), (.t 88)], none, 0, 15⟩, ⟨some 90, .fieldAddr 0 (.t 5), none, 0, 31⟩, ⟨none, .store 1 (.t 90) (.t 89), none, 0, 63⟩]
def f108r16 : List AOper := [⟨some 91, .load true 3 (.t 5), none, 0, 0⟩, ⟨none, .store 3 (.t 4) (.t 91), none, 0, 1⟩]
theorem f108r11_s : staticOK 0 f108r11 = true := by rfl
theorem f108r11_w {A : Tab} {nt : Nat} {keep : List Nat} {n : Nat} {e : Env} {h : Heap} (hr : (bkeep keep (stepsF nt (stepF A true) h.length f108r11 e (h ++ List.replicate n .free))).isSome = true) : Brun A nt (.region true f108r11 keep n) e h = bkeep keep (stepsF nt (stepF A true) h.length f108r11 e (h ++ List.replicate n .free)) := Brun_drawnS f108r11_s hr
theorem f108r11_u (nt base : Nat) (step : Nat → AOp → Env → Heap → Option (AV × Heap)) (e : Env) (h : Heap) : stepsF nt step base f108r11 e h = stepsF nt step base f108q11 e h := rfl
def f108c : ACode :=
 .seq (.region false f108r0 [0, 3, 4] 1)
 (.seq (.region false f108r1 [0, 3, 4, 5] 1)
 (.seq (.seq (.region false f108r2 [0, 4, 5, 11, 12, 13] 0)
 (.block 0 (.loop f108l3)))
 (.seq (.region false f108r15 [4, 5] 0)
 (.seq (.region false f108r16 [4] 0)
 (.ret)))))
def f108 : AFn := ⟨2, 92, [.cell 4 true 3], f108c, 1, none⟩
def f108k : List (Nat × List Nat) := [(0, [0, 3, 4]), (1, [0, 3, 4, 5]), (2, [0, 4, 5, 11, 12, 13]), (3, [0, 4, 5, 11, 12, 13, 14]), (4, [0, 4, 5, 6, 7, 11, 12, 13]), (5, [0, 4, 5, 6, 7, 8, 11, 12, 13]), (6, [0, 4, 5, 6, 7, 8, 11, 12, 13, 22]), (9, [0, 4, 5, 6, 7, 8, 11, 12, 13, 47]), (10, [0, 4, 5, 7, 8, 11, 12, 13]), (11, [0, 4, 5, 7, 8, 11, 12, 13]), (7, [0, 4, 5, 7, 8, 11, 12, 13]), (8, [0, 4, 5, 7, 8, 11, 12, 13]), (12, [0, 4, 5, 8, 11, 12, 13, 77]), (13, [0, 4, 5, 11, 12, 13]), (14, [0, 4, 5, 11, 12, 13]), (15, [4, 5]), (16, [4])]
def f108v : List Nat := [3, 60, 59, 33, 32]
def f109r0 : List AOper := [⟨some 2, .move (.c (.int .i64 0)), none, 0, 0⟩]
def f109r1 : List AOper := [⟨some 3, .move (.t 0), none, 0, 0⟩]
def f109r2 : List AOper := [⟨some 5, .bin .eql (.t 3) (.c (.int .i64 2)), none, 0, 0⟩, ⟨some 4, .move (.t 5), none, 0, 1⟩]
def f109r3 : List AOper := [⟨some 6, .bin .eql (.t 3) (.c (.int .i64 3)), none, 0, 0⟩, ⟨some 4, .move (.t 6), none, 0, 1⟩]
def f109r4 : List AOper := [⟨some 7, .bin .eql (.t 3) (.c (.int .i64 4)), none, 0, 0⟩, ⟨some 4, .move (.t 7), none, 0, 1⟩]
def f109r5 : List AOper := [⟨some 8, .bin .eql (.t 3) (.c (.int .i64 5)), none, 0, 0⟩, ⟨some 4, .move (.t 8), none, 0, 1⟩]
def f109r6 : List AOper := [⟨some 2, .move (.c (.int .i64 1)), none, 0, 0⟩]
def f109r7 : List AOper := [⟨some 10, .bin .eql (.t 3) (.c (.int .i64 6)), none, 0, 0⟩, ⟨some 9, .move (.t 10), none, 0, 1⟩]
def f109r8 : List AOper := [⟨some 11, .bin .eql (.t 3) (.c (.int .i64 7)), none, 0, 0⟩, ⟨some 9, .move (.t 11), none, 0, 1⟩]
def f109r9 : List AOper := [⟨some 2, .move (.c (.int .i64 2)), none, 0, 0⟩]
def f109r10 : List AOper := [⟨some 13, .bin .eql (.t 3) (.c (.int .i64 8)), none, 0, 0⟩, ⟨some 12, .move (.t 13), none, 0, 1⟩]
def f109r11 : List AOper := [⟨some 14, .bin .eql (.t 3) (.c (.int .i64 9)), none, 0, 0⟩, ⟨some 12, .move (.t 14), none, 0, 1⟩]
def f109r12 : List AOper := [⟨some 15, .bin .eql (.t 3) (.c (.int .i64 10)), none, 0, 0⟩, ⟨some 12, .move (.t 15), none, 0, 1⟩]
def f109r13 : List AOper := [⟨some 16, .bin .eql (.t 3) (.c (.int .i64 11)), none, 0, 0⟩, ⟨some 12, .move (.t 16), none, 0, 1⟩]
def f109r14 : List AOper := [⟨some 17, .bin .eql (.t 3) (.c (.int .i64 12)), none, 0, 0⟩, ⟨some 12, .move (.t 17), none, 0, 1⟩]
def f109r15 : List AOper := [⟨some 18, .bin .eql (.t 3) (.c (.int .i64 13)), none, 0, 0⟩, ⟨some 12, .move (.t 18), none, 0, 1⟩]
def f109r16 : List AOper := [⟨some 2, .move (.c (.int .i64 4)), none, 0, 0⟩]
def f109r17 : List AOper := [⟨some 2, .move (.c (.int .i64 0)), none, 0, 0⟩]
def f109c : ACode :=
 .seq (.region false f109r0 [0] 0)
 (.seq (.seq (.region false f109r1 [3] 0)
 (.block 0 (.seq (.seq (.region false f109r2 [3, 4] 0)
  (.cond (.t 4)
   (.skip)
   (.seq (.region false f109r3 [3, 4] 0)
   (.cond (.t 4)
    (.skip)
    (.seq (.region false f109r4 [3, 4] 0)
    (.cond (.t 4)
     (.skip)
     (.region false f109r5 [3, 4] 0)))))))
  (.cond (.t 4)
   (.seq (.region false f109r6 [2] 0)
   (.ret))
   (.seq (.seq (.region false f109r7 [3, 9] 0)
   (.cond (.t 9)
    (.skip)
    (.region false f109r8 [3, 9] 0)))
   (.cond (.t 9)
    (.seq (.region false f109r9 [2] 0)
    (.ret))
    (.seq (.seq (.region false f109r10 [3, 12] 0)
    (.cond (.t 12)
     (.skip)
     (.seq (.region false f109r11 [3, 12] 0)
     (.cond (.t 12)
      (.skip)
      (.seq (.region false f109r12 [3, 12] 0)
      (.cond (.t 12)
       (.skip)
       (.seq (.region false f109r13 [3, 12] 0)
       (.cond (.t 12)
        (.skip)
        (.seq (.region false f109r14 [3, 12] 0)
        (.cond (.t 12)
         (.skip)
         (.region false f109r15 [12] 0)))))))))))
    (.cond (.t 12)
     (.seq (.region false f109r16 [2] 0)
     (.ret))
     (.skip)))))))))
 (.seq (.region false f109r17 [2] 0)
 (.ret)))
def f109 : AFn := ⟨1, 19, [.tmp 2], f109c, 1, none⟩
def f109k : List (Nat × List Nat) := [(0, [0]), (1, [3]), (2, [3, 4]), (3, [3, 4]), (4, [3, 4]), (5, [3, 4]), (7, [3, 9]), (8, [3, 9]), (10, [3, 12]), (11, [3, 12]), (12, [3, 12]), (13, [3, 12]), (14, [3, 12]), (15, [12]), (16, [2]), (9, [2]), (6, [2]), (17, [2])]
def f109v : List Nat := []
def f110r0 : List AOper := [⟨some 4, .move (.c (.bool false)), none, 0, 0⟩]
def f110r1 : List AOper := [⟨some 6, .move (.t 0), none, 0, 0⟩, ⟨some 7, .move (.t 1), none, 0, 0⟩, ⟨some 8, .call (.c (.fn 10 [] [])) [(.t 6), (.t 7)], none, 0, 3⟩, ⟨some 5, .move (.t 8), none, 0, 7⟩]
def f110r2 : List AOper := [⟨some 10, .move (.t 5), none, 0, 0⟩, ⟨some 11, .bin .eql (.t 10) (.c (.int .i64 14)), none, 0, 1⟩, ⟨some 9, .move (.t 11), none, 0, 3⟩]
def f110r3 : List AOper := [⟨some 12, .move (.t 0), none, 0, 0⟩, ⟨some 13, .nilCheck (.t 12), none, 0, 1⟩, ⟨some 14, .fieldAddr 0 (.t 13), none, 0, 3⟩, ⟨some 15, .load false 1 (.t 14), none, 0, 7⟩, ⟨some 16, .move (.t 1), none, 0, 0⟩, ⟨some 17, .idxAddr 6 (.t 15) (.t 16), none, 0, 31⟩, ⟨some 18, .fieldAddr 2 (.t 17), none, 0, 63⟩, ⟨some 19, .load false 1 (.t 18), none, 0, 127⟩, ⟨some 20, .bin .geq (.t 19) (.c (.int .i64 1)), none, 0, 255⟩, ⟨some 4, .move (.t 20), none, 0, 511⟩]
def f110r4 : List AOper := [⟨some 22, .move (.t 0), none, 0, 0⟩, ⟨some 23, .move (.t 1), none, 0, 0⟩, ⟨some 24, .call (.c (.fn 16 [] [])) [(.t 22), (.t 23)], none, 0, 3⟩, ⟨some 21, .move (.t 24), none, 0, 7⟩]
def f110r5 : List AOper := [⟨some 25, .move (.t 0), none, 0, 0⟩, ⟨some 26, .nilCheck (.t 25), none, 0, 1⟩, ⟨some 27, .fieldAddr 0 (.t 26), none, 0, 3⟩, ⟨some 28, .load false 1 (.t 27), none, 0, 7⟩, ⟨some 29, .move (.t 1), none, 0, 0⟩, ⟨some 30, .idxAddr 6 (.t 28) (.t 29), none, 0, 31⟩, ⟨some 31, .fieldAddr 5 (.t 30), none, 0, 63⟩, ⟨some 32, .load false 1 (.t 31), none, 0, 127⟩, ⟨some 4, .move (.t 32), none, 0, 255⟩]
def f110r6 : List AOper := [⟨some 33, .move (.t 5), none, 0, 0⟩, ⟨some 34, .bin .gtr (.t 33) (.c (.int .i64 1)), none, 0, 1⟩, ⟨some 4, .move (.t 34), none, 0, 3⟩]
def f110c : ACode :=
 .seq (.region false f110r0 [0, 1] 0)
 (.seq (.region false f110r1 [0, 1, 5] 0)
 (.seq (.block 0 (.seq (.region false f110r2 [0, 1, 5, 9] 0)
  (.cond (.t 9)
   (.seq (.region false f110r3 [4] 0)
   (.ret))
   (.seq (.region false f110r4 [0, 1, 5, 21] 0)
   (.cond (.t 21)
    (.seq (.region false f110r5 [4] 0)
    (.ret))
    (.skip))))))
 (.seq (.region false f110r6 [4] 0)
 (.ret))))
def f110 : AFn := ⟨2, 35, [.tmp 4], f110c, 1, none⟩
def f110k : List (Nat × List Nat) := [(0, [0, 1]), (1, [0, 1, 5]), (2, [0, 1, 5, 9]), (4, [0, 1, 5, 21]), (5, [4]), (3, [4]), (6, [4])]
def f110v : List Nat := []
def f114r0 : List AOper := [⟨some 2, .move (.c (.bool false)), none, 0, 0⟩]
def f114r1 : List AOper := [⟨some 4, .move (.t 0), none, 0, 0⟩, ⟨some 5, .len 0 (.t 4), none, 0, 1⟩, ⟨some 6, .bin .lss (.t 5) (.c (.int .i64 2)), none, 0, 3⟩, ⟨some 7, .move (.t 6), none, 0, 7⟩, ⟨some 8, .move (.t 0), (some (7, false)), 0, 15⟩, ⟨some 9, .len 0 (.t 8), (some (7, false)), 0, 31⟩, ⟨some 10, .bin .gtr (.t 9) (.c (.int .i64 10)), (some (7, false)), 0, 63⟩, ⟨some 11, .pick (.t 7) (.c (.bool true)) (.t 10), none, 0, 127⟩, ⟨some 12, .move (.t 11), none, 0, 255⟩, ⟨some 13, .move (.t 0), (some (12, false)), 0, 511⟩, ⟨some 14, .strIndex (.t 13) (.c (.int .i64 0)), (some (12, false)), 0, 1023⟩, ⟨some 15, .bin .neq (.t 14) (.c (.int .u8 35)), (some (12, false)), 0, 2047⟩, ⟨some 16, .pick (.t 12) (.c (.bool true)) (.t 15), none, 0, 4095⟩]
def f114r2 : List AOper := [⟨some 17, .move (.t 0), none, 0, 0⟩, ⟨some 18, .call (.c (.fn 132 [] [])) [(.t 17)], none, 0, 1⟩, ⟨some 2, .move (.t 18), none, 0, 3⟩]
def f114r3 : List AOper := [⟨some 3, .move (.c (.int .i64 1)), none, 0, 0⟩]
def f114r4 : List AOper := [⟨some 19, .move (.t 3), none, 0, 0⟩, ⟨some 20, .move (.t 0), none, 0, 0⟩, ⟨some 21, .len 0 (.t 20), none, 0, 2⟩, ⟨some 22, .bin .lss (.t 19) (.t 21), none, 0, 7⟩]
def f114r5 : List AOper := [⟨some 25, .move (.t 0), none, 0, 0⟩, ⟨some 26, .move (.t 3), none, 0, 0⟩, ⟨some 27, .strIndex (.t 25) (.t 26), none, 0, 3⟩, ⟨some 28, .call (.c (.fn 133 [] [])) [(.t 27)], none, 0, 7⟩, ⟨some 29, .un .not (.t 28), none, 0, 15⟩]
def f114r6 : List AOper := [⟨some 2, .move (.c (.bool false)), none, 0, 0⟩]
def f114r7 : List AOper := [⟨some 23, .move (.t 3), none, 0, 0⟩, ⟨some 24, .bin .add (.t 23) (.c (.int .i64 1)), none, 0, 1⟩, ⟨some 3, .move (.t 24), none, 0, 3⟩]
def f114m4 : ACode :=
 .seq (.seq (.region false f114r4 [0, 3, 22] 0)
 (.cond (.t 22)
  (.skip)
  (.exit 0)))
 (.seq (.block 1 (.seq (.region false f114r5 [0, 3, 29] 0)
  (.cond (.t 29)
   (.seq (.region false f114r6 [2] 0)
   (.ret))
   (.skip))))
 (.region false f114r7 [0, 3] 0))
def f114l4 : ACode := f114m4
theorem f114l4_b {A : Tab} {nt : Nat} {e : Env} {h : Heap} : Brun A nt f114l4 e h = Brun A nt f114m4 e h := rfl
def f114r8 : List AOper := [⟨some 2, .move (.c (.bool true)), none, 0, 0⟩]
def f114c : ACode :=
 .seq (.region false f114r0 [0] 0)
 (.seq (.seq (.region false f114r1 [0, 16] 0)
 (.cond (.t 16)
  (.seq (.region false f114r2 [2] 0)
  (.ret))
  (.skip)))
 (.seq (.seq (.region false f114r3 [0, 3] 0)
 (.block 0 (.loop f114l4)))
 (.seq (.region false f114r8 [2] 0)
 (.ret))))
def f114 : AFn := ⟨1, 30, [.tmp 2], f114c, 1, none⟩
def f114k : List (Nat × List Nat) := [(0, [0]), (1, [0, 16]), (2, [2]), (3, [0, 3]), (4, [0, 3, 22]), (6, [0, 3, 29]), (7, [2]), (5, [0, 3]), (8, [2])]
def f114v : List Nat := []
def f115r0 : List AOper := [⟨some 4, .move (.c (.int .i64 0)), none, 0, 0⟩]
def f115r1 : List AOper := [⟨some 7, .move (.t 1), none, 0, 0⟩, ⟨some 8, .len 1 (.t 7), none, 0, 1⟩, ⟨some 9, .bin .lss (.t 8) (.c (.int .i64 1)), none, 0, 3⟩, ⟨some 10, .move (.t 9), none, 0, 7⟩, ⟨some 11, .move (.t 1), (some (10, false)), 0, 15⟩, ⟨some 12, .len 1 (.t 11), (some (10, false)), 0, 31⟩, ⟨some 13, .bin .gtr (.t 12) (.c (.int .i64 64)), (some (10, false)), 0, 63⟩, ⟨some 14, .pick (.t 10) (.c (.bool true)) (.t 13), none, 0, 127⟩]
def f115r2 : List AOper := [⟨some 4, .move (.c (.int .i64 2)), none, 0, 0⟩]
def f115r3 : List AOper := [⟨some 5, .move (.c (.int .i64 0)), none, 0, 0⟩]
def f115r4 : List AOper := [⟨some 15, .move (.t 5), none, 0, 0⟩, ⟨some 16, .move (.t 1), none, 0, 0⟩, ⟨some 17, .len 1 (.t 16), none, 0, 2⟩, ⟨some 18, .bin .lss (.t 15) (.t 17), none, 0, 7⟩]
def f115r5 : List AOper := [⟨some 21, .move (.t 0), none, 0, 0⟩, ⟨some 22, .move (.t 1), none, 0, 0⟩, ⟨some 23, .move (.t 5), none, 0, 0⟩, ⟨some 24, .call (.c (.fn 134 [] [])) [(.t 21), (.t 22), (.t 23)], none, 0, 7⟩, ⟨some 6, .move (.t 24), none, 0, 15⟩]
def f115r6 : List AOper := [⟨some 25, .move (.t 6), none, 0, 0⟩, ⟨some 26, .bin .neq (.t 25) (.c (.int .i64 0)), none, 0, 1⟩]
def f115r7 : List AOper := [⟨some 27, .move (.t 6), none, 0, 0⟩, ⟨some 4, .move (.t 27), none, 0, 1⟩]
def f115r8 : List AOper := [⟨some 19, .move (.t 5), none, 0, 0⟩, ⟨some 20, .bin .add (.t 19) (.c (.int .i64 1)), none, 0, 1⟩, ⟨some 5, .move (.t 20), none, 0, 3⟩]
def f115m4 : ACode :=
 .seq (.seq (.region false f115r4 [0, 1, 5, 18] 0)
 (.cond (.t 18)
  (.skip)
  (.exit 0)))
 (.seq (.block 1 (.seq (.region false f115r5 [0, 1, 5, 6] 0)
  (.seq (.region false f115r6 [0, 1, 5, 6, 26] 0)
  (.cond (.t 26)
   (.seq (.region false f115r7 [4] 0)
   (.ret))
   (.skip)))))
 (.region false f115r8 [0, 1, 5] 0))
def f115l4 : ACode := f115m4
theorem f115l4_b {A : Tab} {nt : Nat} {e : Env} {h : Heap} : Brun A nt f115l4 e h = Brun A nt f115m4 e h := rfl
def f115r9 : List AOper := [⟨some 4, .move (.c (.int .i64 0)), none, 0, 0⟩]
def f115c : ACode :=
 .seq (.region false f115r0 [0, 1] 0)
 (.seq (.seq (.region false f115r1 [0, 1, 14] 0)
 (.cond (.t 14)
  (.seq (.region false f115r2 [4] 0)
  (.ret))
  (.skip)))
 (.seq (.seq (.region false f115r3 [0, 1, 5] 0)
 (.block 0 (.loop f115l4)))
 (.seq (.region false f115r9 [4] 0)
 (.ret))))
def f115 : AFn := ⟨2, 28, [.tmp 4], f115c, 1, none⟩
def f115k : List (Nat × List Nat) := [(0, [0, 1]), (1, [0, 1, 14]), (2, [4]), (3, [0, 1, 5]), (4, [0, 1, 5, 18]), (6, [0, 1, 5, 6]), (7, [0, 1, 5, 6, 26]), (8, [4]), (5, [0, 1, 5]), (9, [4])]
def f115v : List Nat := []
def f116r0 : List AOper := [⟨some 2, .move (.c (.bool false)), none, 0, 0⟩]
def f116r1 : List AOper := [⟨some 3, .move (.t 0), none, 0, 0⟩, ⟨some 4, .bin .eql (.t 3) (.c (.int .i64 (-1))), none, 0, 1⟩, ⟨some 5, .move (.t 4), none, 0, 3⟩, ⟨some 6, .move (.t 0), (some (5, false)), 0, 7⟩, ⟨some 7, .bin .geq (.t 6) (.c (.int .i64 1)), (some (5, false)), 0, 15⟩, ⟨some 8, .move (.t 7), (some (5, false)), 0, 31⟩, ⟨some 9, .move (.t 0), (some (8, true)), 0, 63⟩, ⟨some 10, .bin .leq (.t 9) (.c (.int .i64 16384)), (some (8, true)), 0, 127⟩, ⟨some 11, .pick (.t 8) (.t 10) (.c (.bool false)), (some (5, false)), 0, 255⟩, ⟨some 12, .pick (.t 5) (.c (.bool true)) (.t 11), none, 0, 511⟩, ⟨some 2, .move (.t 12), none, 0, 1023⟩]
def f116c : ACode :=
 .seq (.region false f116r0 [0] 0)
 (.seq (.region false f116r1 [2] 0)
 (.ret))
def f116 : AFn := ⟨1, 13, [.tmp 2], f116c, 1, none⟩
def f116k : List (Nat × List Nat) := [(0, [0]), (1, [2])]
def f116v : List Nat := []
def f117r0 : List AOper := [⟨some 2, .move (.c (.bool false)), none, 0, 0⟩]
def f117r1 : List AOper := [⟨some 3, .move (.t 0), none, 0, 0⟩, ⟨some 4, .bin .eql (.t 3) (.c (.int .i64 (-1))), none, 0, 1⟩, ⟨some 5, .move (.t 4), none, 0, 3⟩, ⟨some 6, .move (.t 0), (some (5, false)), 0, 7⟩, ⟨some 7, .bin .geq (.t 6) (.c (.int .i64 1)), (some (5, false)), 0, 15⟩, ⟨some 8, .move (.t 7), (some (5, false)), 0, 31⟩, ⟨some 9, .move (.t 0), (some (8, true)), 0, 63⟩, ⟨some 10, .bin .leq (.t 9) (.c (.int .i64 16384)), (some (8, true)), 0, 127⟩, ⟨some 11, .pick (.t 8) (.t 10) (.c (.bool false)), (some (5, false)), 0, 255⟩, ⟨some 12, .pick (.t 5) (.c (.bool true)) (.t 11), none, 0, 511⟩, ⟨some 2, .move (.t 12), none, 0, 1023⟩]
def f117c : ACode :=
 .seq (.region false f117r0 [0] 0)
 (.seq (.region false f117r1 [2] 0)
 (.ret))
def f117 : AFn := ⟨1, 13, [.tmp 2], f117c, 1, none⟩
def f117k : List (Nat × List Nat) := [(0, [0]), (1, [2])]
def f117v : List Nat := []
def f118r0 : List AOper := [⟨some 2, .move (.c (.bool false)), none, 0, 0⟩]
def f118r1 : List AOper := [⟨some 6, .move (.t 0), none, 0, 0⟩, ⟨some 7, .call (.c (.fn 135 [] [])) [(.t 6), (.c (.str [35]))], none, 0, 1⟩, ⟨some 5, .move (.t 7), none, 0, 3⟩, ⟨some 8, .extract (.t 5) 0, none, 0, 7⟩, ⟨some 9, .extract (.t 5) 1, none, 0, 7⟩, ⟨some 3, .move (.t 8), none, 0, 15⟩, ⟨some 4, .move (.t 9), none, 0, 63⟩]
def f118r2 : List AOper := [⟨some 10, .move (.t 4), none, 0, 0⟩]
def f118r3 : List AOper := [⟨some 11, .move (.t 3), none, 0, 0⟩, ⟨some 12, .bin .neq (.t 11) (.c (.str [])), none, 0, 1⟩, ⟨some 13, .move (.t 12), none, 0, 3⟩, ⟨some 14, .move (.t 3), (some (13, true)), 0, 7⟩, ⟨some 15, .len 0 (.t 14), (some (13, true)), 0, 15⟩, ⟨some 16, .bin .leq (.t 15) (.c (.int .i64 9)), (some (13, true)), 0, 31⟩, ⟨some 17, .pick (.t 13) (.t 16) (.c (.bool false)), none, 0, 63⟩, ⟨some 18, .move (.t 17), none, 0, 127⟩, ⟨some 19, .move (.t 3), (some (18, true)), 0, 255⟩, ⟨some 20, .call (.c (.fn 136 [] [])) [(.t 19), (.c (.str [48, 49, 50, 51, 52, 53, 54, 55, 56, 57]))], (some (18, true)), 0, 511⟩, ⟨some 21, .bin .eql (.t 20) (.c (.str [])), (some (18, true)), 0, 1023⟩, ⟨some 22, .pick (.t 18) (.t 21) (.c (.bool false)), none, 0, 2047⟩, ⟨some 2, .move (.t 22), none, 0, 4095⟩]
def f118r4 : List AOper := [⟨some 23, .move (.t 0), none, 0, 0⟩, ⟨some 24, .call (.c (.fn 120 [] [])) [(.t 23)], none, 0, 1⟩, ⟨some 2, .move (.t 24), none, 0, 3⟩]
def f118c : ACode :=
 .seq (.region false f118r0 [0] 0)
 (.seq (.seq (.region false f118r1 [0, 3, 4] 0)
 (.seq (.region false f118r2 [0, 3, 10] 0)
 (.cond (.t 10)
  (.seq (.region false f118r3 [2] 0)
  (.ret))
  (.skip))))
 (.seq (.region false f118r4 [2] 0)
 (.ret)))
def f118 : AFn := ⟨1, 25, [.tmp 2], f118c, 1, none⟩
def f118k : List (Nat × List Nat) := [(0, [0]), (1, [0, 3, 4]), (2, [0, 3, 10]), (3, [2]), (4, [2])]
def f118v : List Nat := []
def f119r0 : List AOper := [⟨some 6, .move (.c (.bool false)), none, 0, 0⟩]
def f119r1 : List AOper := [⟨some 8, .move (.t 0), none, 0, 0⟩, ⟨some 9, .move (.t 1), none, 0, 0⟩, ⟨some 10, .call (.c (.fn 100 [] [])) [(.t 8), (.t 9)], none, 0, 3⟩, ⟨some 7, .move (.t 10), none, 0, 7⟩]
def f119r2 : List AOper := [⟨some 11, .move (.t 7), none, 0, 0⟩, ⟨some 12, .bin .lss (.t 11) (.c (.int .i64 2)), none, 0, 1⟩, ⟨some 13, .move (.t 12), none, 0, 3⟩, ⟨some 14, .move (.t 7), (some (13, false)), 0, 7⟩, ⟨some 15, .bin .gtr (.t 14) (.c (.int .i64 12)), (some (13, false)), 0, 15⟩, ⟨some 16, .pick (.t 13) (.c (.bool true)) (.t 15), none, 0, 31⟩, ⟨some 17, .move (.t 16), none, 0, 63⟩, ⟨some 18, .move (.t 2), (some (17, false)), 0, 127⟩, ⟨some 19, .bin .lss (.t 18) (.c (.int .i64 0)), (some (17, false)), 0, 255⟩, ⟨some 20, .pick (.t 17) (.c (.bool true)) (.t 19), none, 0, 511⟩]
def f119r3 : List AOper := [⟨some 6, .move (.c (.bool false)), none, 0, 0⟩]
def f119r4 : List AOper := [⟨some 21, .move (.t 7), none, 0, 0⟩, ⟨some 22, .bin .eql (.t 21) (.c (.int .i64 2)), none, 0, 1⟩]
def f119r5 : List AOper := [⟨some 23, .move (.t 2), none, 0, 0⟩, ⟨some 24, .bin .leq (.t 23) (.c (.int .i64 1)), none, 0, 1⟩, ⟨some 6, .move (.t 24), none, 0, 3⟩]
def f119r6 : List AOper := [⟨some 25, .move (.t 2), none, 0, 0⟩, ⟨some 26, .move (.t 7), none, 0, 0⟩, ⟨some 27, .call (.c (.fn 109 [] [])) [(.t 26)], none, 0, 2⟩, ⟨some 28, .bin .mul (.c (.int .i64 8)) (.t 27), none, 0, 6⟩, ⟨some 29, .bin .leq (.t 25) (.t 28), none, 0, 15⟩, ⟨some 6, .move (.t 29), none, 0, 31⟩]
def f119c : ACode :=
 .seq (.region false f119r0 [0, 1, 2] 0)
 (.seq (.region false f119r1 [2, 7] 0)
 (.seq (.seq (.region false f119r2 [2, 7, 20] 0)
 (.cond (.t 20)
  (.seq (.region false f119r3 [6] 0)
  (.ret))
  (.skip)))
 (.seq (.seq (.region false f119r4 [2, 7, 22] 0)
 (.cond (.t 22)
  (.seq (.region false f119r5 [6] 0)
  (.ret))
  (.skip)))
 (.seq (.region false f119r6 [6] 0)
 (.ret)))))
def f119 : AFn := ⟨3, 30, [.tmp 6], f119c, 1, none⟩
def f119k : List (Nat × List Nat) := [(0, [0, 1, 2]), (1, [2, 7]), (2, [2, 7, 20]), (3, [6]), (4, [2, 7, 22]), (5, [6]), (6, [6])]
def f119v : List Nat := []
def f120r0 : List AOper := [⟨some 2, .move (.c (.bool false)), none, 0, 0⟩]
def f120r1 : List AOper := [⟨some 5, .move (.t 0), none, 0, 0⟩, ⟨some 6, .bin .eql (.t 5) (.c (.str [])), none, 0, 1⟩, ⟨some 7, .move (.t 6), none, 0, 3⟩, ⟨some 8, .move (.t 0), (some (7, false)), 0, 7⟩, ⟨some 9, .len 0 (.t 8), (some (7, false)), 0, 15⟩, ⟨some 10, .bin .gtr (.t 9) (.c (.int .i64 63)), (some (7, false)), 0, 31⟩, ⟨some 11, .pick (.t 7) (.c (.bool true)) (.t 10), none, 0, 63⟩]
def f120r2 : List AOper := [⟨some 2, .move (.c (.bool false)), none, 0, 0⟩]
def f120r3 : List AOper := [⟨some 12, .move (.t 0), none, 0, 0⟩, ⟨some 13, .len 0 (.t 12), none, 0, 1⟩, ⟨some 14, .move (.c (.int .i64 0)), none, 0, 0⟩]
def f120r4 : List AOper := [⟨some 15, .bin .lss (.t 14) (.t 13), none, 0, 0⟩]
def f120r5 : List AOper := [⟨some 16, .move (.t 14), none, 0, 0⟩, ⟨some 3, .move (.t 16), none, 0, 1⟩]
def f120r6 : List AOper := [⟨some 17, .move (.t 0), none, 0, 0⟩, ⟨some 18, .move (.t 3), none, 0, 0⟩, ⟨some 19, .strIndex (.t 17) (.t 18), none, 0, 3⟩, ⟨some 4, .move (.t 19), none, 0, 7⟩]
def f120r7 : List AOper := [⟨some 20, .move (.t 4), none, 0, 0⟩, ⟨some 21, .bin .neq (.t 20) (.c (.int .u8 95)), none, 0, 1⟩, ⟨some 22, .move (.t 21), none, 0, 3⟩, ⟨some 23, .move (.t 4), (some (22, true)), 0, 7⟩, ⟨some 24, .bin .or (.t 23) (.c (.int .u8 32)), (some (22, true)), 0, 15⟩, ⟨some 25, .bin .lss (.t 24) (.c (.int .u8 97)), (some (22, true)), 0, 31⟩, ⟨some 26, .move (.t 25), (some (22, true)), 0, 63⟩, ⟨some 27, .move (.t 4), (some (26, false)), 0, 127⟩, ⟨some 28, .bin .or (.t 27) (.c (.int .u8 32)), (some (26, false)), 0, 255⟩, ⟨some 29, .bin .gtr (.t 28) (.c (.int .u8 122)), (some (26, false)), 0, 511⟩, ⟨some 30, .pick (.t 26) (.c (.bool true)) (.t 29), (some (22, true)), 0, 1023⟩, ⟨some 31, .pick (.t 22) (.t 30) (.c (.bool false)), none, 0, 2047⟩, ⟨some 32, .move (.t 31), none, 0, 4095⟩, ⟨some 33, .move (.t 3), (some (32, true)), 0, 8191⟩, ⟨some 34, .bin .eql (.t 33) (.c (.int .i64 0)), (some (32, true)), 0, 16383⟩, ⟨some 35, .move (.t 34), (some (32, true)), 0, 32767⟩, ⟨some 36, .move (.t 4), (some (35, false)), 0, 65535⟩, ⟨some 37, .bin .lss (.t 36) (.c (.int .u8 48)), (some (35, false)), 0, 131071⟩, ⟨some 38, .pick (.t 35) (.c (.bool true)) (.t 37), (some (32, true)), 0, 262143⟩, ⟨some 39, .move (.t 38), (some (32, true)), 0, 524287⟩, ⟨some 40, .move (.t 4), (some (39, false)), 0, 1048575⟩, ⟨some 41, .bin .gtr (.t 40) (.c (.int .u8 57)), (some (39, false)), 0, 2097151⟩, ⟨some 42, .pick (.t 39) (.c (.bool true)) (.t 41), (some (32, true)), 0, 4194303⟩, ⟨some 43, .pick (.t 32) (.t 42) (.c (.bool false)), none, 0, 8388607⟩]
def f120r8 : List AOper := [⟨some 2, .move (.c (.bool false)), none, 0, 0⟩]
def f120r9 : List AOper := [⟨some 44, .bin .add (.t 14) (.c (.int .i64 1)), none, 0, 0⟩, ⟨some 14, .move (.t 44), none, 0, 1⟩]
def f120m4 : ACode :=
 .seq (.region false f120r4 [0, 13, 14, 15] 0)
 (.seq (.cond (.t 15)
  (.skip)
  (.exit 0))
 (.seq (.block 1 (.seq (.region false f120r5 [0, 3, 13, 14] 0)
  (.seq (.region false f120r6 [0, 3, 4, 13, 14] 0)
  (.seq (.region false f120r7 [0, 13, 14, 43] 0)
  (.cond (.t 43)
   (.seq (.region false f120r8 [2] 0)
   (.ret))
   (.skip))))))
 (.region false f120r9 [0, 13, 14] 0)))
def f120l4 : ACode := f120m4
theorem f120l4_b {A : Tab} {nt : Nat} {e : Env} {h : Heap} : Brun A nt f120l4 e h = Brun A nt f120m4 e h := rfl
def f120r10 : List AOper := [⟨some 2, .move (.c (.bool true)), none, 0, 0⟩]
def f120c : ACode :=
 .seq (.region false f120r0 [0] 0)
 (.seq (.seq (.region false f120r1 [0, 11] 0)
 (.cond (.t 11)
  (.seq (.region false f120r2 [2] 0)
  (.ret))
  (.skip)))
 (.seq (.seq (.region false f120r3 [0, 13, 14] 0)
 (.block 0 (.loop f120l4)))
 (.seq (.region false f120r10 [2] 0)
 (.ret))))
def f120 : AFn := ⟨1, 45, [.tmp 2], f120c, 1, none⟩
def f120k : List (Nat × List Nat) := [(0, [0]), (1, [0, 11]), (2, [2]), (3, [0, 13, 14]), (4, [0, 13, 14, 15]), (5, [0, 3, 13, 14]), (6, [0, 3, 4, 13, 14]), (7, [0, 13, 14, 43]), (8, [2]), (9, [0, 13, 14]), (10, [2])]
def f120v : List Nat := []
def f121r0 : List AOper := [⟨some 3, .box true (.t 1), none, 0, 0⟩, ⟨some 4, .move (.c (.int .i64 0)), none, 0, 0⟩, ⟨some 5, .move (.c (.int .i64 0)), none, 0, 2⟩]
def f121r1 : List AOper := [⟨some 6, .move (.t 0), none, 0, 0⟩, ⟨some 7, .nilCheck (.t 6), none, 0, 1⟩, ⟨some 8, .fieldAddr 0 (.t 7), none, 0, 3⟩, ⟨some 9, .load false 1 (.t 8), none, 0, 7⟩, ⟨some 10, .len 1 (.t 9), none, 0, 15⟩, ⟨some 11, .bin .geq (.t 10) (.c (.int .i64 512)), none, 0, 31⟩]
def f121r2 : List AOper := [⟨some 4, .move (.c (.int .i64 0)), none, 0, 0⟩, ⟨some 5, .move (.c (.int .i64 32)), none, 0, 1⟩]
def f121r3 : List AOper := [⟨some 12, .move (.t 0), none, 0, 0⟩, ⟨some 13, .move (.t 0), none, 0, 0⟩, ⟨some 14, .nilCheck (.t 13), none, 0, 2⟩, ⟨some 15, .fieldAddr 0 (.t 14), none, 0, 6⟩, ⟨some 16, .load false 1 (.t 15), none, 0, 14⟩, ⟨some 17, .load true 6 (.t 3), none, 0, 0⟩, ⟨some 18, .buildSlice false 6 1 [(.int .i64 0), (.int .i64 0), (.int .i64 0), (.str []), (.is [] .nil), (.bool false)] [(0, 6, (.t 17))], none, 0, 32⟩, ⟨some 19, .append false 6 72 (.t 16) (.t 18), none, 1, 126⟩, ⟨some 20, .nilCheck (.t 12), none, 2, 255⟩, ⟨some 21, .fieldAddr 0 (.t 20), none, 2, 511⟩, ⟨none, .store 1 (.t 21) (.t 19), none, 2, 1023⟩]
def f121r4 : List AOper := [⟨some 22, .move (.t 0), none, 0, 0⟩, ⟨some 23, .nilCheck (.t 22), none, 0, 1⟩, ⟨some 24, .fieldAddr 0 (.t 23), none, 0, 3⟩, ⟨some 25, .load false 1 (.t 24), none, 0, 7⟩, ⟨some 26, .len 1 (.t 25), none, 0, 15⟩, ⟨some 27, .bin .sub (.t 26) (.c (.int .i64 1)), none, 0, 31⟩, ⟨some 4, .move (.t 27), none, 0, 63⟩, ⟨some 5, .move (.c (.int .i64 0)), none, 0, 127⟩]
def f121c : ACode :=
 .seq (.region false f121r0 [0, 3] 0)
 (.seq (.seq (.region false f121r1 [0, 3, 11] 0)
 (.cond (.t 11)
  (.seq (.region false f121r2 [4, 5] 0)
  (.ret))
  (.skip)))
 (.seq (.region true f121r3 [0] 2)
 (.seq (.region false f121r4 [4, 5] 0)
 (.ret))))
def f121 : AFn := ⟨2, 28, [.tmp 4, .tmp 5], f121c, 1, none⟩
def f121k : List (Nat × List Nat) := [(0, [0, 3]), (1, [0, 3, 11]), (2, [4, 5]), (3, [0]), (4, [4, 5])]
def f121v : List Nat := [3]
def f122r0 : List AOper := [⟨some 6, .move (.c (.int .u32 0)), none, 0, 0⟩]
def f122r1 : List AOper := [⟨some 9, .move (.t 1), none, 0, 0⟩, ⟨some 10, .conv .i32 (.t 9), none, 0, 1⟩, ⟨some 11, .conv .i64 (.t 10), none, 0, 3⟩, ⟨some 12, .move (.t 2), none, 0, 0⟩, ⟨some 13, .conv .i32 (.t 12), none, 0, 8⟩, ⟨some 14, .conv .i64 (.t 13), none, 0, 24⟩, ⟨some 7, .move (.t 11), none, 0, 7⟩, ⟨some 8, .move (.t 14), none, 0, 127⟩]
def f122r2 : List AOper := [⟨some 15, .move (.t 0), none, 0, 0⟩]
def f122r3 : List AOper := [⟨some 17, .bin .eql (.t 15) (.c (.int .i64 5)), none, 0, 0⟩, ⟨some 16, .move (.t 17), none, 0, 1⟩]
def f122r4 : List AOper := [⟨some 18, .move (.t 1), none, 0, 0⟩, ⟨some 19, .move (.t 2), none, 0, 0⟩, ⟨some 20, .bin .quo (.t 18) (.t 19), none, 0, 3⟩, ⟨some 6, .move (.t 20), none, 0, 7⟩]
def f122r5 : List AOper := [⟨some 22, .bin .eql (.t 15) (.c (.int .i64 7)), none, 0, 0⟩, ⟨some 21, .move (.t 22), none, 0, 1⟩]
def f122r6 : List AOper := [⟨some 23, .move (.t 1), none, 0, 0⟩, ⟨some 24, .move (.t 2), none, 0, 0⟩, ⟨some 25, .bin .rem (.t 23) (.t 24), none, 0, 3⟩, ⟨some 6, .move (.t 25), none, 0, 7⟩]
def f122r7 : List AOper := [⟨some 27, .bin .eql (.t 15) (.c (.int .i64 6)), none, 0, 0⟩, ⟨some 26, .move (.t 27), none, 0, 1⟩]
def f122r8 : List AOper := [⟨some 28, .move (.t 7), none, 0, 0⟩, ⟨some 29, .move (.t 8), none, 0, 0⟩, ⟨some 30, .bin .rem (.t 28) (.t 29), none, 0, 3⟩, ⟨some 31, .conv .u32 (.t 30), none, 0, 7⟩, ⟨some 6, .move (.t 31), none, 0, 15⟩]
def f122r9 : List AOper := [⟨some 32, .move (.t 7), none, 0, 0⟩, ⟨some 33, .move (.t 8), none, 0, 0⟩, ⟨some 34, .bin .quo (.t 32) (.t 33), none, 0, 3⟩, ⟨some 35, .conv .u32 (.t 34), none, 0, 7⟩, ⟨some 6, .move (.t 35), none, 0, 15⟩]
def f122c : ACode :=
 .seq (.region false f122r0 [0, 1, 2] 0)
 (.seq (.region false f122r1 [0, 1, 2, 7, 8] 0)
 (.seq (.seq (.region false f122r2 [1, 2, 7, 8, 15] 0)
 (.block 0 (.seq (.region false f122r3 [1, 2, 7, 8, 15, 16] 0)
  (.cond (.t 16)
   (.seq (.region false f122r4 [6] 0)
   (.ret))
   (.seq (.region false f122r5 [1, 2, 7, 8, 15, 21] 0)
   (.cond (.t 21)
    (.seq (.region false f122r6 [6] 0)
    (.ret))
    (.seq (.region false f122r7 [7, 8, 26] 0)
    (.cond (.t 26)
     (.seq (.region false f122r8 [6] 0)
     (.ret))
     (.skip)))))))))
 (.seq (.region false f122r9 [6] 0)
 (.ret))))
def f122 : AFn := ⟨3, 36, [.tmp 6], f122c, 1, none⟩
def f122k : List (Nat × List Nat) := [(0, [0, 1, 2]), (1, [0, 1, 2, 7, 8]), (2, [1, 2, 7, 8, 15]), (3, [1, 2, 7, 8, 15, 16]), (5, [1, 2, 7, 8, 15, 21]), (7, [7, 8, 26]), (8, [6]), (6, [6]), (4, [6]), (9, [6])]
def f122v : List Nat := [35, 31, 14, 13, 11, 10]
def f123r0 : List AOper := [⟨some 2, .move (.c (.int .u32 0)), none, 0, 0⟩]
def f123r1 : List AOper := [⟨some 3, .move (.t 0), none, 0, 0⟩]
def f123r2 : List AOper := [⟨some 2, .move (.c (.int .u32 1)), none, 0, 0⟩]
def f123r3 : List AOper := [⟨some 2, .move (.c (.int .u32 0)), none, 0, 0⟩]
def f123c : ACode :=
 .seq (.region false f123r0 [0] 0)
 (.seq (.seq (.region false f123r1 [3] 0)
 (.cond (.t 3)
  (.seq (.region false f123r2 [2] 0)
  (.ret))
  (.skip)))
 (.seq (.region false f123r3 [2] 0)
 (.ret)))
def f123 : AFn := ⟨1, 4, [.tmp 2], f123c, 1, none⟩
def f123k : List (Nat × List Nat) := [(0, [0]), (1, [3]), (2, [2]), (3, [2])]
def f123v : List Nat := []
def f124r0 : List AOper := [⟨some 6, .move (.c (.int .u32 0)), none, 0, 0⟩]
def f124r1 : List AOper := [⟨some 8, .move (.t 1), none, 0, 0⟩, ⟨some 9, .bin .sub (.c (.int .u64 32)) (.t 8), none, 0, 1⟩, ⟨some 7, .move (.t 9), none, 0, 3⟩]
def f124r2 : List AOper := [⟨some 10, .move (.t 2), none, 0, 0⟩]
def f124r3 : List AOper := [⟨some 11, .move (.t 0), none, 0, 0⟩, ⟨some 12, .move (.t 7), none, 0, 0⟩, ⟨some 13, .bin .shl (.t 11) (.t 12), none, 0, 3⟩, ⟨some 14, .conv .i32 (.t 13), none, 0, 7⟩, ⟨some 15, .move (.t 7), none, 0, 0⟩, ⟨some 16, .bin .shr (.t 14) (.t 15), none, 0, 31⟩, ⟨some 17, .conv .u32 (.t 16), none, 0, 63⟩, ⟨some 6, .move (.t 17), none, 0, 127⟩]
def f124r4 : List AOper := [⟨some 18, .move (.t 0), none, 0, 0⟩, ⟨some 19, .move (.t 7), none, 0, 0⟩, ⟨some 20, .bin .shl (.t 18) (.t 19), none, 0, 3⟩, ⟨some 21, .move (.t 7), none, 0, 0⟩, ⟨some 22, .bin .shr (.t 20) (.t 21), none, 0, 15⟩, ⟨some 6, .move (.t 22), none, 0, 31⟩]
def f124c : ACode :=
 .seq (.region false f124r0 [0, 1, 2] 0)
 (.seq (.region false f124r1 [0, 2, 7] 0)
 (.seq (.seq (.region false f124r2 [0, 7, 10] 0)
 (.cond (.t 10)
  (.seq (.region false f124r3 [6] 0)
  (.ret))
  (.skip)))
 (.seq (.region false f124r4 [6] 0)
 (.ret))))
def f124 : AFn := ⟨3, 23, [.tmp 6], f124c, 1, none⟩
def f124k : List (Nat × List Nat) := [(0, [0, 1, 2]), (1, [0, 2, 7]), (2, [0, 7, 10]), (3, [6]), (4, [6])]
def f124v : List Nat := [17, 14]
def f125r0 : List AOper := [⟨some 2, .move (.c (.bool false)), none, 0, 0⟩]
def f125r1 : List AOper := [⟨some 3, .move (.t 0), none, 0, 0⟩]
def f125r2 : List AOper := [⟨some 5, .bin .eql (.t 3) (.c (.int .i64 3)), none, 0, 0⟩, ⟨some 4, .move (.t 5), none, 0, 1⟩]
def f125r3 : List AOper := [⟨some 6, .bin .eql (.t 3) (.c (.int .i64 4)), none, 0, 0⟩, ⟨some 4, .move (.t 6), none, 0, 1⟩]
def f125r4 : List AOper := [⟨some 7, .bin .eql (.t 3) (.c (.int .i64 6)), none, 0, 0⟩, ⟨some 4, .move (.t 7), none, 0, 1⟩]
def f125r5 : List AOper := [⟨some 8, .bin .eql (.t 3) (.c (.int .i64 8)), none, 0, 0⟩, ⟨some 4, .move (.t 8), none, 0, 1⟩]
def f125r6 : List AOper := [⟨some 9, .bin .eql (.t 3) (.c (.int .i64 10)), none, 0, 0⟩, ⟨some 4, .move (.t 9), none, 0, 1⟩]
def f125r7 : List AOper := [⟨some 10, .bin .eql (.t 3) (.c (.int .i64 12)), none, 0, 0⟩, ⟨some 4, .move (.t 10), none, 0, 1⟩]
def f125r8 : List AOper := [⟨some 2, .move (.c (.bool true)), none, 0, 0⟩]
def f125r9 : List AOper := [⟨some 2, .move (.c (.bool false)), none, 0, 0⟩]
def f125c : ACode :=
 .seq (.region false f125r0 [0] 0)
 (.seq (.seq (.region false f125r1 [3] 0)
 (.block 0 (.seq (.seq (.region false f125r2 [3, 4] 0)
  (.cond (.t 4)
   (.skip)
   (.seq (.region false f125r3 [3, 4] 0)
   (.cond (.t 4)
    (.skip)
    (.seq (.region false f125r4 [3, 4] 0)
    (.cond (.t 4)
     (.skip)
     (.seq (.region false f125r5 [3, 4] 0)
     (.cond (.t 4)
      (.skip)
      (.seq (.region false f125r6 [3, 4] 0)
      (.cond (.t 4)
       (.skip)
       (.region false f125r7 [4] 0)))))))))))
  (.cond (.t 4)
   (.seq (.region false f125r8 [2] 0)
   (.ret))
   (.skip)))))
 (.seq (.region false f125r9 [2] 0)
 (.ret)))
def f125 : AFn := ⟨1, 11, [.tmp 2], f125c, 1, none⟩
def f125k : List (Nat × List Nat) := [(0, [0]), (1, [3]), (2, [3, 4]), (3, [3, 4]), (4, [3, 4]), (5, [3, 4]), (6, [3, 4]), (7, [4]), (8, [2]), (9, [2])]
def f125v : List Nat := []
def f127r0 : List AOper := [⟨some 2, .box true (.t 0), none, 0, 0⟩]
def f127r1 : List AOper := [⟨some 3, .fieldAddr 2 (.t 1), none, 0, 0⟩, ⟨some 4, .load false 1 (.t 3), none, 0, 1⟩, ⟨some 5, .load true 5 (.t 2), none, 0, 0⟩, ⟨some 6, .buildSlice true 5 1 (List.replicate 5 (.int .i64 0)) [(0, 5, (.t 5))], none, 0, 4⟩, ⟨some 7, .append true 5 40 (.t 4) (.t 6), none, 0, 15⟩, ⟨some 8, .fieldAddr 2 (.t 1), none, 1, 31⟩, ⟨none, .store 1 (.t 8) (.t 7), none, 1, 63⟩]
def f127c : ACode :=
 .seq (.region false f127r0 [1, 2] 0)
 (.region false f127r1 [] 1)
def f127 : AFn := ⟨2, 9, [], f127c, 1, none⟩
def f127k : List (Nat × List Nat) := [(0, [1, 2]), (1, [])]
def f127v : List Nat := [2, 7, 6]
def f128r0 : List AOper := [⟨some 4, .move (.c (.int .i64 0)), none, 0, 0⟩]
def f128r1 : List AOper := [⟨some 5, .move (.t 0), none, 0, 0⟩, ⟨some 6, .move (.t 1), none, 0, 0⟩, ⟨some 7, .bin .add (.t 5) (.t 6), none, 0, 3⟩, ⟨some 8, .bin .sub (.t 7) (.c (.int .i64 1)), none, 0, 7⟩, ⟨some 9, .move (.t 1), none, 0, 0⟩, ⟨some 10, .bin .quo (.t 8) (.t 9), none, 0, 31⟩, ⟨some 11, .move (.t 1), none, 0, 0⟩, ⟨some 12, .bin .mul (.t 10) (.t 11), none, 0, 127⟩, ⟨some 4, .move (.t 12), none, 0, 255⟩]
def f128c : ACode :=
 .seq (.region false f128r0 [0, 1] 0)
 (.seq (.region false f128r1 [4] 0)
 (.ret))
def f128 : AFn := ⟨2, 13, [.tmp 4], f128c, 1, none⟩
def f128k : List (Nat × List Nat) := [(0, [0, 1]), (1, [4])]
def f128v : List Nat := []
def f132r0 : List AOper := [⟨some 2, .move (.c (.bool false)), none, 0, 0⟩]
def f132r1 : List AOper := [⟨some 4, .move (.t 0), none, 0, 0⟩, ⟨some 5, .len 0 (.t 4), none, 0, 1⟩, ⟨some 6, .bin .lss (.t 5) (.c (.int .i64 1)), none, 0, 3⟩, ⟨some 7, .move (.t 6), none, 0, 7⟩, ⟨some 8, .move (.t 0), (some (7, false)), 0, 15⟩, ⟨some 9, .len 0 (.t 8), (some (7, false)), 0, 31⟩, ⟨some 10, .bin .gtr (.t 9) (.c (.int .i64 63)), (some (7, false)), 0, 63⟩, ⟨some 11, .pick (.t 7) (.c (.bool true)) (.t 10), none, 0, 127⟩, ⟨some 12, .move (.t 11), none, 0, 255⟩, ⟨some 13, .move (.t 0), (some (12, false)), 0, 511⟩, ⟨some 14, .strIndex (.t 13) (.c (.int .i64 0)), (some (12, false)), 0, 1023⟩, ⟨some 15, .call (.c (.fn 139 [] [])) [(.t 14)], (some (12, false)), 0, 2047⟩, ⟨some 16, .un .not (.t 15), (some (12, false)), 0, 4095⟩, ⟨some 17, .pick (.t 12) (.c (.bool true)) (.t 16), none, 0, 8191⟩]
def f132r2 : List AOper := [⟨some 2, .move (.c (.bool false)), none, 0, 0⟩]
def f132r3 : List AOper := [⟨some 3, .move (.c (.int .i64 1)), none, 0, 0⟩]
def f132r4 : List AOper := [⟨some 18, .move (.t 3), none, 0, 0⟩, ⟨some 19, .move (.t 0), none, 0, 0⟩, ⟨some 20, .len 0 (.t 19), none, 0, 2⟩, ⟨some 21, .bin .lss (.t 18) (.t 20), none, 0, 7⟩]
def f132r5 : List AOper := [⟨some 24, .move (.t 0), none, 0, 0⟩, ⟨some 25, .move (.t 3), none, 0, 0⟩, ⟨some 26, .strIndex (.t 24) (.t 25), none, 0, 3⟩, ⟨some 27, .call (.c (.fn 139 [] [])) [(.t 26)], none, 0, 7⟩, ⟨some 28, .un .not (.t 27), none, 0, 15⟩, ⟨some 29, .move (.t 28), none, 0, 31⟩, ⟨some 30, .move (.t 0), (some (29, true)), 0, 63⟩, ⟨some 31, .move (.t 3), (some (29, true)), 0, 63⟩, ⟨some 32, .strIndex (.t 30) (.t 31), (some (29, true)), 0, 255⟩, ⟨some 33, .call (.c (.fn 133 [] [])) [(.t 32)], (some (29, true)), 0, 511⟩, ⟨some 34, .un .not (.t 33), (some (29, true)), 0, 1023⟩, ⟨some 35, .pick (.t 29) (.t 34) (.c (.bool false)), none, 0, 2047⟩]
def f132r6 : List AOper := [⟨some 2, .move (.c (.bool false)), none, 0, 0⟩]
def f132r7 : List AOper := [⟨some 22, .move (.t 3), none, 0, 0⟩, ⟨some 23, .bin .add (.t 22) (.c (.int .i64 1)), none, 0, 1⟩, ⟨some 3, .move (.t 23), none, 0, 3⟩]
def f132m4 : ACode :=
 .seq (.seq (.region false f132r4 [0, 3, 21] 0)
 (.cond (.t 21)
  (.skip)
  (.exit 0)))
 (.seq (.block 1 (.seq (.region false f132r5 [0, 3, 35] 0)
  (.cond (.t 35)
   (.seq (.region false f132r6 [2] 0)
   (.ret))
   (.skip))))
 (.region false f132r7 [0, 3] 0))
def f132l4 : ACode := f132m4
theorem f132l4_b {A : Tab} {nt : Nat} {e : Env} {h : Heap} : Brun A nt f132l4 e h = Brun A nt f132m4 e h := rfl
def f132r8 : List AOper := [⟨some 2, .move (.c (.bool true)), none, 0, 0⟩]
def f132c : ACode :=
 .seq (.region false f132r0 [0] 0)
 (.seq (.seq (.region false f132r1 [0, 17] 0)
 (.cond (.t 17)
  (.seq (.region false f132r2 [2] 0)
  (.ret))
  (.skip)))
 (.seq (.seq (.region false f132r3 [0, 3] 0)
 (.block 0 (.loop f132l4)))
 (.seq (.region false f132r8 [2] 0)
 (.ret))))
def f132 : AFn := ⟨1, 36, [.tmp 2], f132c, 1, none⟩
def f132k : List (Nat × List Nat) := [(0, [0]), (1, [0, 17]), (2, [2]), (3, [0, 3]), (4, [0, 3, 21]), (6, [0, 3, 35]), (7, [2]), (5, [0, 3]), (8, [2])]
def f132v : List Nat := []
def f133r0 : List AOper := [⟨some 2, .move (.c (.bool false)), none, 0, 0⟩]
def f133r1 : List AOper := [⟨some 3, .move (.t 0), none, 0, 0⟩, ⟨some 4, .bin .geq (.t 3) (.c (.int .u8 48)), none, 0, 1⟩, ⟨some 5, .move (.t 4), none, 0, 3⟩, ⟨some 6, .move (.t 0), (some (5, true)), 0, 7⟩, ⟨some 7, .bin .leq (.t 6) (.c (.int .u8 57)), (some (5, true)), 0, 15⟩, ⟨some 8, .pick (.t 5) (.t 7) (.c (.bool false)), none, 0, 31⟩, ⟨some 2, .move (.t 8), none, 0, 63⟩]
def f133c : ACode :=
 .seq (.region false f133r0 [0] 0)
 (.seq (.region false f133r1 [2] 0)
 (.ret))
def f133 : AFn := ⟨1, 9, [.tmp 2], f133c, 1, none⟩
def f133k : List (Nat × List Nat) := [(0, [0]), (1, [2])]
def f133v : List Nat := []
def f134r0 : List AOper := [⟨some 6, .move (.c (.int .i64 0)), none, 0, 0⟩]
def f134r1 : List AOper := [⟨some 9, .move (.t 1), none, 0, 0⟩, ⟨some 10, .move (.t 2), none, 0, 0⟩, ⟨some 11, .idxAddr 3 (.t 9) (.t 10), none, 0, 3⟩, ⟨some 12, .load true 3 (.t 11), none, 0, 7⟩, ⟨some 7, .alloc false [(.str []), (.int .i64 0), (.int .i64 0)], none, 0, 0⟩, ⟨none, .store 3 (.t 7) (.t 12), none, 1, 31⟩]
def f134r2 : List AOper := [⟨some 13, .move (.t 0), none, 0, 0⟩, ⟨some 14, .fieldAddr 1 (.t 7), none, 0, 0⟩, ⟨some 15, .load false 1 (.t 14), none, 0, 2⟩, ⟨some 16, .call (.c (.fn 7 [] [])) [(.t 13), (.t 15)], none, 0, 7⟩, ⟨some 17, .un .not (.t 16), none, 0, 15⟩]
def f134r3 : List AOper := [⟨some 6, .move (.c (.int .i64 30)), none, 0, 0⟩]
def f134r4 : List AOper := [⟨some 18, .move (.t 0), none, 0, 0⟩, ⟨some 19, .fieldAddr 1 (.t 7), none, 0, 0⟩, ⟨some 20, .load false 1 (.t 19), none, 0, 2⟩, ⟨some 21, .call (.c (.fn 110 [] [])) [(.t 18), (.t 20)], none, 0, 7⟩, ⟨some 22, .un .not (.t 21), none, 0, 15⟩]
def f134r5 : List AOper := [⟨some 6, .move (.c (.int .i64 50)), none, 0, 0⟩]
def f134r6 : List AOper := [⟨some 23, .move (.t 0), none, 0, 0⟩, ⟨some 24, .fieldAddr 1 (.t 7), none, 0, 0⟩, ⟨some 25, .load false 1 (.t 24), none, 0, 2⟩, ⟨some 26, .fieldAddr 2 (.t 7), none, 0, 0⟩, ⟨some 27, .load false 1 (.t 26), none, 0, 8⟩, ⟨some 28, .call (.c (.fn 140 [] [])) [(.t 23), (.t 25), (.t 27)], none, 0, 31⟩, ⟨some 29, .un .not (.t 28), none, 0, 63⟩]
def f134r7 : List AOper := [⟨some 6, .move (.c (.int .i64 52)), none, 0, 0⟩]
def f134r8 : List AOper := [⟨some 30, .fieldAddr 0 (.t 7), none, 0, 0⟩, ⟨some 31, .load false 1 (.t 30), none, 0, 1⟩, ⟨some 32, .bin .eql (.t 31) (.c (.str [])), none, 0, 3⟩]
def f134r9 : List AOper := [⟨some 33, .fieldAddr 2 (.t 7), none, 0, 0⟩, ⟨some 34, .load false 1 (.t 33), none, 0, 1⟩, ⟨some 35, .bin .lss (.t 34) (.c (.int .i64 0)), none, 0, 3⟩]
def f134r10 : List AOper := [⟨some 6, .move (.c (.int .i64 31)), none, 0, 0⟩]
def f134r11 : List AOper := [⟨some 6, .move (.c (.int .i64 0)), none, 0, 0⟩]
def f134r12 : List AOper := [⟨some 36, .fieldAddr 0 (.t 7), none, 0, 0⟩, ⟨some 37, .load false 1 (.t 36), none, 0, 1⟩, ⟨some 38, .call (.c (.fn 132 [] [])) [(.t 37)], none, 0, 3⟩, ⟨some 39, .un .not (.t 38), none, 0, 7⟩, ⟨some 40, .move (.t 39), none, 0, 15⟩, ⟨some 41, .fieldAddr 2 (.t 7), (some (40, false)), 0, 31⟩, ⟨some 42, .load false 1 (.t 41), (some (40, false)), 0, 63⟩, ⟨some 43, .bin .eql (.t 42) (.c (.int .i64 0)), (some (40, false)), 0, 127⟩, ⟨some 44, .pick (.t 40) (.c (.bool true)) (.t 43), none, 0, 255⟩]
def f134r13 : List AOper := [⟨some 6, .move (.c (.int .i64 31)), none, 0, 0⟩]
def f134r14 : List AOper := [⟨some 8, .move (.c (.int .i64 0)), none, 0, 0⟩]
def f134r15 : List AOper := [⟨some 45, .move (.t 8), none, 0, 0⟩, ⟨some 46, .move (.t 2), none, 0, 0⟩, ⟨some 47, .bin .lss (.t 45) (.t 46), none, 0, 3⟩]
def f134q16 : List AOper := [⟨some 50, .move (.t 1), none, 0, 0⟩, ⟨some 51, .move (.t 8), none, 0, 0⟩, ⟨some 52, .idxAddr 3 (.t 50) (.t 51), none, 0, 3⟩, ⟨some 53, .fieldAddr 0 (.t 52), none, 0, 7⟩, ⟨some 54, .load false 1 (.t 53), none, 0, 15⟩, ⟨some 55, .fieldAddr 0 (.t 7), none, 0, 0⟩, ⟨some 56, .load false 1 (.t 55), none, 0, 32⟩, ⟨some 57, .bin .eql (.t 54) (.t 56), none, 0, 127⟩]
def f134r16 : List AOper := f134q16
def f134r17 : List AOper := [⟨some 6, .move (.c (.int .i64 31)), none, 0, 0⟩]
def f134r18 : List AOper := [⟨some 48, .move (.t 8), none, 0, 0⟩, ⟨some 49, .bin .add (.t 48) (.c (.int .i64 1)), none, 0, 1⟩, ⟨some 8, .move (.t 49), none, 0, 3⟩]
def f134m15 : ACode :=
 .seq (.seq (.region false f134r15 [1, 2, 7, 8, 47] 0)
 (.cond (.t 47)
  (.skip)
  (.exit 0)))
 (.seq (.block 1 (.seq (.region true f134r16 [1, 2, 7, 8, 57] 0)
  (.cond (.t 57)
   (.seq (.region false f134r17 [6] 0)
   (.ret))
   (.skip))))
 (.region false f134r18 [1, 2, 7, 8] 0))
def f134l15 : ACode := f134m15
theorem f134l15_b {A : Tab} {nt : Nat} {e : Env} {h : Heap} : Brun A nt f134l15 e h = Brun A nt f134m15 e h := rfl
def f134r19 : List AOper := [⟨some 6, .move (.c (.int .i64 0)), none, 0, 0⟩]
theorem f134r16_s : staticOK 0 f134r16 = true := by rfl
theorem f134r16_w {A : Tab} {nt : Nat} {keep : List Nat} {n : Nat} {e : Env} {h : Heap} (hr : (bkeep keep (stepsF nt (stepF A true) h.length f134r16 e (h ++ List.replicate n .free))).isSome = true) : Brun A nt (.region true f134r16 keep n) e h = bkeep keep (stepsF nt (stepF A true) h.length f134r16 e (h ++ List.replicate n .free)) := Brun_drawnS f134r16_s hr
theorem f134r16_u (nt base : Nat) (step : Nat → AOp → Env → Heap → Option (AV × Heap)) (e : Env) (h : Heap) : stepsF nt step base f134r16 e h = stepsF nt step base f134q16 e h := rfl
def f134c : ACode :=
 .seq (.region false f134r0 [0, 1, 2] 0)
 (.seq (.region false f134r1 [0, 1, 2, 7] 1)
 (.seq (.seq (.region false f134r2 [0, 1, 2, 7, 17] 0)
 (.cond (.t 17)
  (.seq (.region false f134r3 [6] 0)
  (.ret))
  (.skip)))
 (.seq (.seq (.region false f134r4 [0, 1, 2, 7, 22] 0)
 (.cond (.t 22)
  (.seq (.region false f134r5 [6] 0)
  (.ret))
  (.skip)))
 (.seq (.seq (.region false f134r6 [1, 2, 7, 29] 0)
 (.cond (.t 29)
  (.seq (.region false f134r7 [6] 0)
  (.ret))
  (.skip)))
 (.seq (.seq (.region false f134r8 [1, 2, 7, 32] 0)
 (.cond (.t 32)
  (.seq (.seq (.region false f134r9 [35] 0)
  (.cond (.t 35)
   (.seq (.region false f134r10 [6] 0)
   (.ret))
   (.skip)))
  (.seq (.region false f134r11 [6] 0)
  (.ret)))
  (.skip)))
 (.seq (.seq (.region false f134r12 [1, 2, 7, 44] 0)
 (.cond (.t 44)
  (.seq (.region false f134r13 [6] 0)
  (.ret))
  (.skip)))
 (.seq (.seq (.region false f134r14 [1, 2, 7, 8] 0)
 (.block 0 (.loop f134l15)))
 (.seq (.region false f134r19 [6] 0)
 (.ret)))))))))
def f134 : AFn := ⟨3, 58, [.tmp 6], f134c, 1, none⟩
def f134k : List (Nat × List Nat) := [(0, [0, 1, 2]), (1, [0, 1, 2, 7]), (2, [0, 1, 2, 7, 17]), (3, [6]), (4, [0, 1, 2, 7, 22]), (5, [6]), (6, [1, 2, 7, 29]), (7, [6]), (8, [1, 2, 7, 32]), (9, [35]), (10, [6]), (11, [6]), (12, [1, 2, 7, 44]), (13, [6]), (14, [1, 2, 7, 8]), (15, [1, 2, 7, 8, 47]), (17, [1, 2, 7, 8, 57]), (18, [6]), (16, [1, 2, 7, 8]), (19, [6])]
def f134v : List Nat := []
def f135r0 : List AOper := [⟨some 4, .move (.c (.str [])), none, 0, 0⟩, ⟨some 5, .move (.c (.bool false)), none, 0, 1⟩]
def f135r1 : List AOper := [⟨some 6, .move (.t 0), none, 0, 0⟩, ⟨some 7, .move (.t 1), none, 0, 0⟩, ⟨some 8, .call (.c (.fn 141 [] [])) [(.t 6), (.t 7)], none, 0, 3⟩, ⟨some 9, .extract (.t 8) 0, none, 0, 7⟩, ⟨some 10, .extract (.t 8) 1, none, 0, 7⟩, ⟨some 4, .move (.t 9), none, 0, 31⟩, ⟨some 5, .move (.t 10), none, 0, 63⟩]
def f135c : ACode :=
 .seq (.region false f135r0 [0, 1] 0)
 (.seq (.region false f135r1 [4, 5] 0)
 (.ret))
def f135 : AFn := ⟨2, 11, [.tmp 4, .tmp 5], f135c, 1, none⟩
def f135k : List (Nat × List Nat) := [(0, [0, 1]), (1, [4, 5])]
def f135v : List Nat := []
def f139r0 : List AOper := [⟨some 2, .move (.c (.bool false)), none, 0, 0⟩]
def f139r1 : List AOper := [⟨some 3, .move (.t 0), none, 0, 0⟩, ⟨some 4, .bin .geq (.t 3) (.c (.int .u8 97)), none, 0, 1⟩, ⟨some 5, .move (.t 4), none, 0, 3⟩, ⟨some 6, .move (.t 0), (some (5, true)), 0, 7⟩, ⟨some 7, .bin .leq (.t 6) (.c (.int .u8 122)), (some (5, true)), 0, 15⟩, ⟨some 8, .pick (.t 5) (.t 7) (.c (.bool false)), none, 0, 31⟩, ⟨some 9, .move (.t 8), none, 0, 63⟩, ⟨some 10, .move (.t 0), (some (9, false)), 0, 127⟩, ⟨some 11, .bin .geq (.t 10) (.c (.int .u8 65)), (some (9, false)), 0, 255⟩, ⟨some 12, .move (.t 11), (some (9, false)), 0, 511⟩, ⟨some 13, .move (.t 0), (some (12, true)), 0, 1023⟩, ⟨some 14, .bin .leq (.t 13) (.c (.int .u8 90)), (some (12, true)), 0, 2047⟩, ⟨some 15, .pick (.t 12) (.t 14) (.c (.bool false)), (some (9, false)), 0, 4095⟩, ⟨some 16, .pick (.t 9) (.c (.bool true)) (.t 15), none, 0, 8191⟩, ⟨some 17, .move (.t 16), none, 0, 16383⟩, ⟨some 18, .move (.t 0), (some (17, false)), 0, 32767⟩, ⟨some 19, .bin .eql (.t 18) (.c (.int .u8 95)), (some (17, false)), 0, 65535⟩, ⟨some 20, .pick (.t 17) (.c (.bool true)) (.t 19), none, 0, 131071⟩, ⟨some 2, .move (.t 20), none, 0, 262143⟩]
def f139c : ACode :=
 .seq (.region false f139r0 [0] 0)
 (.seq (.region false f139r1 [2] 0)
 (.ret))
def f139 : AFn := ⟨1, 21, [.tmp 2], f139c, 1, none⟩
def f139k : List (Nat × List Nat) := [(0, [0]), (1, [2])]
def f139v : List Nat := []
def f140r0 : List AOper := [⟨some 6, .move (.c (.bool false)), none, 0, 0⟩]
def f140r1 : List AOper := [⟨some 8, .move (.t 2), none, 0, 0⟩, ⟨some 9, .bin .eql (.t 8) (.c (.int .i64 (-1))), none, 0, 1⟩]
def f140r2 : List AOper := [⟨some 6, .move (.c (.bool true)), none, 0, 0⟩]
def f140r3 : List AOper := [⟨some 10, .move (.t 0), none, 0, 0⟩, ⟨some 11, .move (.t 1), none, 0, 0⟩, ⟨some 12, .call (.c (.fn 10 [] [])) [(.t 10), (.t 11)], none, 0, 3⟩, ⟨some 13, .call (.c (.fn 102 [] [])) [(.t 12)], none, 0, 7⟩, ⟨some 14, .bin .mul (.c (.int .i64 8)) (.t 13), none, 0, 15⟩, ⟨some 7, .move (.t 14), none, 0, 31⟩]
def f140r4 : List AOper := [⟨some 15, .move (.t 0), none, 0, 0⟩, ⟨some 16, .move (.t 1), none, 0, 0⟩, ⟨some 17, .call (.c (.fn 10 [] [])) [(.t 15), (.t 16)], none, 0, 3⟩, ⟨some 18, .bin .eql (.t 17) (.c (.int .i64 2)), none, 0, 7⟩]
def f140r5 : List AOper := [⟨some 7, .move (.c (.int .i64 1)), none, 0, 0⟩]
def f140r6 : List AOper := [⟨some 19, .move (.t 0), none, 0, 0⟩, ⟨some 20, .move (.t 1), none, 0, 0⟩, ⟨some 21, .call (.c (.fn 11 [] [])) [(.t 19), (.t 20)], none, 0, 3⟩, ⟨some 22, .move (.t 21), none, 0, 7⟩, ⟨some 23, .move (.t 2), (some (22, true)), 0, 15⟩, ⟨some 24, .bin .geq (.t 23) (.c (.int .i64 0)), (some (22, true)), 0, 31⟩, ⟨some 25, .pick (.t 22) (.t 24) (.c (.bool false)), none, 0, 63⟩, ⟨some 26, .move (.t 25), none, 0, 127⟩, ⟨some 27, .move (.t 2), (some (26, true)), 0, 255⟩, ⟨some 28, .move (.t 7), (some (26, true)), 0, 255⟩, ⟨some 29, .bin .leq (.t 27) (.t 28), (some (26, true)), 0, 1023⟩, ⟨some 30, .pick (.t 26) (.t 29) (.c (.bool false)), none, 0, 2047⟩, ⟨some 6, .move (.t 30), none, 0, 4095⟩]
def f140c : ACode :=
 .seq (.region false f140r0 [0, 1, 2] 0)
 (.seq (.seq (.region false f140r1 [0, 1, 2, 9] 0)
 (.cond (.t 9)
  (.seq (.region false f140r2 [6] 0)
  (.ret))
  (.skip)))
 (.seq (.region false f140r3 [0, 1, 2, 7] 0)
 (.seq (.seq (.region false f140r4 [0, 1, 2, 7, 18] 0)
 (.cond (.t 18)
  (.region false f140r5 [0, 1, 2, 7] 0)
  (.skip)))
 (.seq (.region false f140r6 [6] 0)
 (.ret)))))
def f140 : AFn := ⟨3, 31, [.tmp 6], f140c, 1, none⟩
def f140k : List (Nat × List Nat) := [(0, [0, 1, 2]), (1, [0, 1, 2, 9]), (2, [6]), (3, [0, 1, 2, 7]), (4, [0, 1, 2, 7, 18]), (5, [0, 1, 2, 7]), (6, [6])]
def f140v : List Nat := []
def f141r0 : List AOper := [⟨some 4, .move (.c (.str [])), none, 0, 0⟩, ⟨some 5, .move (.c (.bool false)), none, 0, 1⟩]
def f141r1 : List AOper := [⟨some 6, .move (.t 0), none, 0, 0⟩, ⟨some 7, .move (.t 1), none, 0, 0⟩, ⟨some 8, .call (.c (.fn 150 [] [])) [(.t 6), (.t 7)], none, 0, 3⟩, ⟨some 9, .un .not (.t 8), none, 0, 7⟩]
def f141r2 : List AOper := [⟨some 10, .move (.t 0), none, 0, 0⟩, ⟨some 4, .move (.t 10), none, 0, 1⟩, ⟨some 5, .move (.c (.bool false)), none, 0, 3⟩]
def f141r3 : List AOper := [⟨some 11, .move (.t 0), none, 0, 0⟩, ⟨some 12, .move (.t 1), none, 0, 0⟩, ⟨some 13, .len 0 (.t 12), none, 0, 2⟩, ⟨some 14, .strSlice (.t 11) (some (.t 13)) none, none, 0, 7⟩, ⟨some 4, .move (.t 14), none, 0, 15⟩, ⟨some 5, .move (.c (.bool true)), none, 0, 31⟩]
def f141c : ACode :=
 .seq (.region false f141r0 [0, 1] 0)
 (.seq (.seq (.region false f141r1 [0, 1, 9] 0)
 (.cond (.t 9)
  (.seq (.region false f141r2 [4, 5] 0)
  (.ret))
  (.skip)))
 (.seq (.region false f141r3 [4, 5] 0)
 (.ret)))
def f141 : AFn := ⟨2, 15, [.tmp 4, .tmp 5], f141c, 1, none⟩
def f141k : List (Nat × List Nat) := [(0, [0, 1]), (1, [0, 1, 9]), (2, [4, 5]), (3, [4, 5])]
def f141v : List Nat := []
def f150r0 : List AOper := [⟨some 4, .move (.c (.bool false)), none, 0, 0⟩]
def f150r1 : List AOper := [⟨some 5, .move (.t 0), none, 0, 0⟩, ⟨some 6, .len 0 (.t 5), none, 0, 1⟩, ⟨some 7, .move (.t 1), none, 0, 0⟩, ⟨some 8, .len 0 (.t 7), none, 0, 4⟩, ⟨some 9, .bin .geq (.t 6) (.t 8), none, 0, 15⟩, ⟨some 10, .move (.t 9), none, 0, 31⟩, ⟨some 11, .move (.t 0), (some (10, true)), 0, 63⟩, ⟨some 12, .move (.t 1), (some (10, true)), 0, 63⟩, ⟨some 13, .len 0 (.t 12), (some (10, true)), 0, 191⟩, ⟨some 14, .strSlice (.t 11) none (some (.t 13)), (some (10, true)), 0, 511⟩, ⟨some 15, .move (.t 1), (some (10, true)), 0, 63⟩, ⟨some 16, .bin .eql (.t 14) (.t 15), (some (10, true)), 0, 2047⟩, ⟨some 17, .pick (.t 10) (.t 16) (.c (.bool false)), none, 0, 4095⟩, ⟨some 4, .move (.t 17), none, 0, 8191⟩]
def f150c : ACode :=
 .seq (.region false f150r0 [0, 1] 0)
 (.seq (.region false f150r1 [4] 0)
 (.ret))
def f150 : AFn := ⟨2, 18, [.tmp 4], f150c, 1, none⟩
def f150k : List (Nat × List Nat) := [(0, [0, 1]), (1, [4])]
def f150v : List Nat := []
end Go.Proofs.YtfhijkapcdmdnaaGreatDoor
