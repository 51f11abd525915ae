/- The seat's functions as the machine's, part 1. Printed by a program. -/
import Derived.Test.YtfhijkapcdmdnaaDoorFns0
namespace Go.Proofs.YtfhijkapcdmdnaaDoor
open Go.AM
set_option maxRecDepth 100000
def f64r0 : List AOper := [⟨some 3,.box true (.t 1),none,0,0⟩,⟨some 4,.alloc false [(.int .i64 0),(.int .i64 0),(.is [] .nil)],none,0,0⟩]
def f64r1 : List AOper := [⟨some 12,.build [(.int .i64 0),(.int .i64 0),(.is [] .nil)] [(1,1,(.c (.int .i64 1)))],none,0,0⟩,⟨some 5,.alloc false [(.int .i64 0),(.int .i64 0),(.is [] .nil)],none,0,0⟩,⟨none,.store 3 (.t 5) (.t 12),none,1,3⟩]
def f64r2 : List AOper := [⟨some 6,.move (.c (.int .i64 0)),none,0,0⟩]
def f64r3 : List AOper := [⟨some 13,.fn 76 [] [(.t 5)],none,0,0⟩,⟨some 7,.move (.t 13),none,0,1⟩]
def f64r4 : List AOper := [⟨some 14,.fieldAddr 4 (.t 3),none,0,0⟩,⟨some 15,.load false 1 (.t 14),none,0,1⟩,⟨some 16,.len 1 (.t 15),none,0,3⟩,⟨some 17,.move (.c (.int .i64 0)),none,0,0⟩]
def f64r5 : List AOper := [⟨some 18,.bin .lss (.t 17) (.t 16),none,0,0⟩]
def f64r6 : List AOper := [⟨some 19,.move (.t 17),none,0,0⟩,⟨some 20,.idxAddr 3 (.t 15) (.t 17),none,0,0⟩,⟨some 21,.load true 3 (.t 20),none,0,2⟩,⟨some 9,.alloc false [(.str []),(.int .i64 0),(.int .i64 0)],none,0,0⟩,⟨some 8,.move (.t 19),none,1,15⟩,⟨none,.store 3 (.t 9) (.t 21),none,1,31⟩]
def f64r7 : List AOper := [⟨some 22,.move (.t 0),none,0,0⟩,⟨some 23,.fieldAddr 1 (.t 9),none,0,0⟩,⟨some 24,.load false 1 (.t 23),none,0,2⟩,⟨some 25,.call (.c (.fn 39 [] [])) [(.t 22),(.t 24)],none,0,7⟩,⟨some 10,.alloc false [(.int .i64 0),(.int .i64 0),(.is [] .nil)],none,0,0⟩,⟨none,.store 3 (.t 10) (.t 25),none,1,31⟩]
def f64r8 : List AOper := [⟨some 26,.fieldAddr 0 (.t 10),none,0,0⟩,⟨some 27,.load false 1 (.t 26),none,0,1⟩,⟨some 28,.bin .mul (.c (.int .i64 8)) (.t 27),none,0,3⟩,⟨some 11,.move (.t 28),none,0,7⟩]
def f64r9 : List AOper := [⟨some 74,.fieldAddr 2 (.t 9),none,0,0⟩,⟨some 75,.load false 1 (.t 74),none,0,1⟩,⟨some 76,.bin .lss (.t 75) (.c (.int .i64 0)),none,0,3⟩,⟨some 73,.move (.t 76),none,0,7⟩]
def f64r10 : List AOper := [⟨some 77,.move (.t 6),none,0,0⟩,⟨some 78,.fieldAddr 1 (.t 10),none,0,0⟩,⟨some 79,.load false 1 (.t 78),none,0,2⟩,⟨some 80,.bin .mul (.c (.int .i64 8)) (.t 79),none,0,6⟩,⟨some 81,.call (.c (.fn 77 [] [])) [(.t 77),(.t 80)],none,0,15⟩,⟨some 6,.move (.t 81),none,0,31⟩]
def f64r11 : List AOper := [⟨some 82,.move (.t 7),none,0,0⟩,⟨some 83,.move (.t 8),none,0,0⟩,⟨some 84,.fieldAddr 1 (.t 9),none,0,0⟩,⟨some 85,.load false 1 (.t 84),none,0,4⟩,⟨some 86,.move (.t 6),none,0,0⟩,⟨some 87,.bin .quo (.t 86) (.c (.int .i64 8)),none,0,16⟩,⟨some 88,.build (List.replicate 5 (.int .i64 0)) [(0,1,(.t 83)),(1,1,(.t 85)),(2,1,(.t 87))],none,0,62⟩,⟨some 89,.call (.t 82) [(.t 88)],none,0,127⟩]
def f64r12 : List AOper := [⟨some 90,.move (.t 6),none,0,0⟩,⟨some 91,.move (.t 11),none,0,0⟩,⟨some 92,.bin .add (.t 90) (.t 91),none,0,3⟩,⟨some 6,.move (.t 92),none,0,7⟩]
def f64r13 : List AOper := [⟨some 93,.fieldAddr 1 (.t 5),none,0,0⟩,⟨some 94,.load false 1 (.t 93),none,0,1⟩,⟨some 95,.fieldAddr 1 (.t 10),none,0,0⟩,⟨some 96,.load false 1 (.t 95),none,0,4⟩,⟨some 97,.max (.t 94) (.t 96),none,0,15⟩,⟨some 98,.fieldAddr 1 (.t 5),none,0,31⟩,⟨none,.store 1 (.t 98) (.t 97),none,0,63⟩]
def f64r14 : List AOper := [⟨some 100,.fieldAddr 2 (.t 9),none,0,0⟩,⟨some 101,.load false 1 (.t 100),none,0,1⟩,⟨some 102,.bin .eql (.t 101) (.c (.int .i64 0)),none,0,3⟩,⟨some 99,.move (.t 102),none,0,7⟩]
def f64r15 : List AOper := [⟨some 103,.move (.t 6),none,0,0⟩,⟨some 104,.move (.t 11),none,0,0⟩,⟨some 105,.call (.c (.fn 77 [] [])) [(.t 103),(.t 104)],none,0,3⟩,⟨some 6,.move (.t 105),none,0,7⟩]
def f64q16 : List AOper := [⟨some 29,.move (.t 6),none,0,0⟩,⟨some 30,.move (.t 11),none,0,0⟩,⟨some 31,.bin .quo (.t 29) (.t 30),none,0,3⟩,⟨some 32,.move (.t 6),none,0,0⟩,⟨some 33,.fieldAddr 2 (.t 9),none,0,0⟩,⟨some 34,.load false 1 (.t 33),none,0,16⟩,⟨some 35,.bin .add (.t 32) (.t 34),none,0,56⟩,⟨some 36,.bin .sub (.t 35) (.c (.int .i64 1)),none,0,120⟩,⟨some 37,.move (.t 11),none,0,0⟩,⟨some 38,.bin .quo (.t 36) (.t 37),none,0,504⟩,⟨some 39,.bin .neq (.t 31) (.t 38),none,0,1023⟩]
def f64r16 : List AOper := f64q16
def f64r17 : List AOper := [⟨some 40,.move (.t 6),none,0,0⟩,⟨some 41,.move (.t 11),none,0,0⟩,⟨some 42,.call (.c (.fn 77 [] [])) [(.t 40),(.t 41)],none,0,3⟩,⟨some 6,.move (.t 42),none,0,7⟩]
def f64q18 : List AOper := [⟨some 43,.move (.t 7),none,0,0⟩,⟨some 44,.move (.t 8),none,0,0⟩,⟨some 45,.fieldAddr 1 (.t 9),none,0,0⟩,⟨some 46,.load false 1 (.t 45),none,0,4⟩,⟨some 47,.fieldAddr 0 (.t 10),none,0,0⟩,⟨some 48,.load false 1 (.t 47),none,0,16⟩,⟨some 49,.move (.t 6),none,0,0⟩,⟨some 50,.move (.t 11),none,0,0⟩,⟨some 51,.bin .quo (.t 49) (.t 50),none,0,192⟩,⟨some 52,.bin .mul (.t 48) (.t 51),none,0,496⟩,⟨some 53,.move (.t 6),none,0,0⟩,⟨some 54,.move (.t 11),none,0,0⟩,⟨some 55,.bin .rem (.t 53) (.t 54),none,0,3072⟩,⟨some 56,.fieldAddr 2 (.t 9),none,0,0⟩,⟨some 57,.load false 1 (.t 56),none,0,8192⟩,⟨some 58,.build (List.replicate 5 (.int .i64 0)) [(0,1,(.t 44)),(1,1,(.t 46)),(2,1,(.t 52)),(3,1,(.t 55)),(4,1,(.t 57))],none,0,32766⟩,⟨some 59,.call (.t 43) [(.t 58)],none,0,65535⟩]
def f64r18 : List AOper := f64q18
def f64r19 : List AOper := [⟨some 60,.move (.t 6),none,0,0⟩,⟨some 61,.fieldAddr 2 (.t 9),none,0,0⟩,⟨some 62,.load false 1 (.t 61),none,0,2⟩,⟨some 63,.bin .add (.t 60) (.t 62),none,0,7⟩,⟨some 6,.move (.t 63),none,0,15⟩]
def f64r20 : List AOper := [⟨some 64,.fieldAddr 0 (.t 9),none,0,0⟩,⟨some 65,.load false 1 (.t 64),none,0,1⟩,⟨some 66,.bin .neq (.t 65) (.c (.str [])),none,0,3⟩]
def f64r21 : List AOper := [⟨some 67,.fieldAddr 1 (.t 5),none,0,0⟩,⟨some 68,.load false 1 (.t 67),none,0,1⟩,⟨some 69,.fieldAddr 0 (.t 10),none,0,0⟩,⟨some 70,.load false 1 (.t 69),none,0,4⟩,⟨some 71,.max (.t 68) (.t 70),none,0,15⟩,⟨some 72,.fieldAddr 1 (.t 5),none,0,31⟩,⟨none,.store 1 (.t 72) (.t 71),none,0,63⟩]
def f64r22 : List AOper := [⟨some 106,.bin .add (.t 17) (.c (.int .i64 1)),none,0,0⟩,⟨some 17,.move (.t 106),none,0,1⟩]
def f64m5 : ACode :=
 .seq (.region false f64r5 [0,4,5,6,7,15,16,17,18] 0)
 (.seq (.cond (.t 18)
  (.skip)
  (.exit 0))
 (.seq (.block 1 (.seq (.region false f64r6 [0,4,5,6,7,8,9,15,16,17] 1)
  (.seq (.region false f64r7 [0,4,5,6,7,8,9,10,15,16,17] 1)
  (.seq (.region false f64r8 [0,4,5,6,7,8,9,10,11,15,16,17] 0)
  (.block 2 (.seq (.region false f64r9 [0,4,5,6,7,8,9,10,11,15,16,17,73] 0)
   (.cond (.t 73)
    (.seq (.region false f64r10 [0,4,5,6,7,8,9,10,11,15,16,17] 0)
    (.seq (.region false f64r11 [0,4,5,6,7,10,11,15,16,17] 0)
    (.seq (.region false f64r12 [0,4,5,6,7,10,15,16,17] 0)
    (.region false f64r13 [0,4,5,6,7,15,16,17] 0))))
    (.seq (.region false f64r14 [0,4,5,6,7,8,9,10,11,15,16,17,99] 0)
    (.cond (.t 99)
     (.region false f64r15 [0,4,5,6,7,15,16,17] 0)
     (.seq (.seq (.region true f64r16 [0,4,5,6,7,8,9,10,11,15,16,17,39] 0)
     (.cond (.t 39)
      (.region false f64r17 [0,4,5,6,7,8,9,10,11,15,16,17] 0)
      (.skip)))
     (.seq (.region true f64r18 [0,4,5,6,7,9,10,15,16,17] 0)
     (.seq (.region false f64r19 [0,4,5,6,7,9,10,15,16,17] 0)
     (.seq (.region false f64r20 [0,4,5,6,7,10,15,16,17,66] 0)
     (.cond (.t 66)
      (.region false f64r21 [0,4,5,6,7,15,16,17] 0)
      (.skip)))))))))))))))
 (.region false f64r22 [0,4,5,6,7,15,16,17] 0)))
def f64l5 : ACode := f64m5
theorem f64l5_b {A : Tab} {nt : Nat} {e : Env} {h : Heap} : Brun A nt f64l5 e h = Brun A nt f64m5 e h := rfl
def f64q23 : List AOper := [⟨some 107,.move (.t 6),none,0,0⟩,⟨some 108,.call (.c (.fn 77 [] [])) [(.t 107),(.c (.int .i64 8))],none,0,1⟩,⟨some 109,.bin .quo (.t 108) (.c (.int .i64 8)),none,0,3⟩,⟨some 110,.max (.c (.int .i64 1)) (.t 109),none,0,7⟩,⟨some 111,.fieldAddr 1 (.t 5),none,0,0⟩,⟨some 112,.load false 1 (.t 111),none,0,16⟩,⟨some 113,.call (.c (.fn 77 [] [])) [(.t 110),(.t 112)],none,0,63⟩,⟨some 114,.fieldAddr 0 (.t 5),none,0,127⟩,⟨none,.store 1 (.t 114) (.t 113),none,0,255⟩]
def f64r23 : List AOper := f64q23
def f64r24 : List AOper := [⟨some 115,.load true 3 (.t 5),none,0,0⟩,⟨none,.store 3 (.t 4) (.t 115),none,0,1⟩]
theorem f64r16_s : staticOK 0 f64r16 = true := by rfl
theorem f64r16_w {A : Tab} {nt : Nat} {keep : List Nat} {n : Nat} {e : Env} {h : Heap} (hr : (bkeep keep (stepsF nt (stepF A true) h.length f64r16 e (h ++ List.replicate n .free))).isSome = true) : Brun A nt (.region true f64r16 keep n) e h = bkeep keep (stepsF nt (stepF A true) h.length f64r16 e (h ++ List.replicate n .free)) := Brun_drawnS f64r16_s hr
theorem f64r16_u (nt base : Nat) (step : Nat → AOp → Env → Heap → Option (AV × Heap)) (e : Env) (h : Heap) : stepsF nt step base f64r16 e h = stepsF nt step base f64q16 e h := rfl
theorem f64r18_s : staticOK 0 f64r18 = true := by rfl
theorem f64r18_w {A : Tab} {nt : Nat} {keep : List Nat} {n : Nat} {e : Env} {h : Heap} (hr : (bkeep keep (stepsF nt (stepF A true) h.length f64r18 e (h ++ List.replicate n .free))).isSome = true) : Brun A nt (.region true f64r18 keep n) e h = bkeep keep (stepsF nt (stepF A true) h.length f64r18 e (h ++ List.replicate n .free)) := Brun_drawnS f64r18_s hr
theorem f64r18_u (nt base : Nat) (step : Nat → AOp → Env → Heap → Option (AV × Heap)) (e : Env) (h : Heap) : stepsF nt step base f64r18 e h = stepsF nt step base f64q18 e h := rfl
theorem f64r23_s : staticOK 0 f64r23 = true := by rfl
theorem f64r23_w {A : Tab} {nt : Nat} {keep : List Nat} {n : Nat} {e : Env} {h : Heap} (hr : (bkeep keep (stepsF nt (stepF A true) h.length f64r23 e (h ++ List.replicate n .free))).isSome = true) : Brun A nt (.region true f64r23 keep n) e h = bkeep keep (stepsF nt (stepF A true) h.length f64r23 e (h ++ List.replicate n .free)) := Brun_drawnS f64r23_s hr
theorem f64r23_u (nt base : Nat) (step : Nat → AOp → Env → Heap → Option (AV × Heap)) (e : Env) (h : Heap) : stepsF nt step base f64r23 e h = stepsF nt step base f64q23 e h := rfl
def f64c : ACode :=
 .seq (.region false f64r0 [0,3,4] 1)
 (.seq (.region false f64r1 [0,3,4,5] 1)
 (.seq (.region false f64r2 [0,3,4,5,6] 0)
 (.seq (.region false f64r3 [0,3,4,5,6,7] 0)
 (.seq (.seq (.region false f64r4 [0,4,5,6,7,15,16,17] 0)
 (.block 0 (.loop f64l5)))
 (.seq (.region true f64r23 [4,5] 0)
 (.seq (.region false f64r24 [4] 0)
 (.ret)))))))
def f64 : AFn := ⟨2,116,[.cell 4 true 3],f64c,1,none⟩
def f64k : List (Nat × List Nat) := [(0,[0,3,4]),(1,[0,3,4,5]),(2,[0,3,4,5,6]),(3,[0,3,4,5,6,7]),(4,[0,4,5,6,7,15,16,17]),(5,[0,4,5,6,7,15,16,17,18]),(6,[0,4,5,6,7,8,9,15,16,17]),(7,[0,4,5,6,7,8,9,10,15,16,17]),(8,[0,4,5,6,7,8,9,10,11,15,16,17]),(15,[0,4,5,6,7,8,9,10,11,15,16,17,73]),(20,[0,4,5,6,7,8,9,10,11,15,16,17,99]),(9,[0,4,5,6,7,8,9,10,11,15,16,17,39]),(10,[0,4,5,6,7,8,9,10,11,15,16,17]),(11,[0,4,5,6,7,9,10,15,16,17]),(12,[0,4,5,6,7,9,10,15,16,17]),(13,[0,4,5,6,7,10,15,16,17,66]),(14,[0,4,5,6,7,15,16,17]),(21,[0,4,5,6,7,15,16,17]),(16,[0,4,5,6,7,8,9,10,11,15,16,17]),(17,[0,4,5,6,7,10,11,15,16,17]),(18,[0,4,5,6,7,10,15,16,17]),(19,[0,4,5,6,7,15,16,17]),(22,[0,4,5,6,7,15,16,17]),(23,[4,5]),(24,[4])]
def f64v : List Nat := [3]
def f65r0 : List AOper := [⟨some 3,.box true (.t 1),none,0,0⟩,⟨some 4,.alloc false [(.int .i64 0),(.int .i64 0),(.is [] .nil)],none,0,0⟩]
def f65r1 : List AOper := [⟨some 9,.build [(.int .i64 0),(.int .i64 0),(.is [] .nil)] [(0,1,(.c (.int .i64 1))),(1,1,(.c (.int .i64 1)))],none,0,0⟩,⟨some 5,.alloc false [(.int .i64 0),(.int .i64 0),(.is [] .nil)],none,0,0⟩,⟨none,.store 3 (.t 5) (.t 9),none,1,3⟩]
def f65r2 : List AOper := [⟨some 10,.fieldAddr 4 (.t 3),none,0,0⟩,⟨some 11,.load false 1 (.t 10),none,0,1⟩,⟨some 12,.len 1 (.t 11),none,0,3⟩,⟨some 13,.move (.c (.int .i64 0)),none,0,0⟩]
def f65r3 : List AOper := [⟨some 14,.bin .lss (.t 13) (.t 12),none,0,0⟩]
def f65r4 : List AOper := [⟨some 15,.move (.t 13),none,0,0⟩,⟨some 16,.idxAddr 3 (.t 11) (.t 13),none,0,0⟩,⟨some 17,.load true 3 (.t 16),none,0,2⟩,⟨some 7,.alloc false [(.str []),(.int .i64 0),(.int .i64 0)],none,0,0⟩,⟨some 6,.move (.t 15),none,1,15⟩,⟨none,.store 3 (.t 7) (.t 17),none,1,31⟩]
def f65r5 : List AOper := [⟨some 18,.move (.t 0),none,0,0⟩,⟨some 19,.fieldAddr 1 (.t 7),none,0,0⟩,⟨some 20,.load false 1 (.t 19),none,0,2⟩,⟨some 21,.call (.c (.fn 39 [] [])) [(.t 18),(.t 20)],none,0,7⟩,⟨some 8,.alloc false [(.int .i64 0),(.int .i64 0),(.is [] .nil)],none,0,0⟩,⟨none,.store 3 (.t 8) (.t 21),none,1,31⟩]
def f65r6 : List AOper := [⟨some 23,.fieldAddr 2 (.t 7),none,0,0⟩,⟨some 24,.load false 1 (.t 23),none,0,1⟩,⟨some 25,.bin .lss (.t 24) (.c (.int .i64 0)),none,0,3⟩,⟨some 22,.move (.t 25),none,0,7⟩]
def f65r7 : List AOper := [⟨some 26,.fieldAddr 2 (.t 5),none,0,0⟩,⟨some 27,.load false 1 (.t 26),none,0,1⟩,⟨some 28,.move (.t 6),none,0,0⟩,⟨some 29,.fieldAddr 1 (.t 7),none,0,0⟩,⟨some 30,.load false 1 (.t 29),none,0,8⟩,⟨some 31,.build (List.replicate 5 (.int .i64 0)) [(0,1,(.t 28)),(1,1,(.t 30))],none,0,28⟩,⟨some 32,.buildSlice true 5 1 (List.replicate 5 (.int .i64 0)) [(0,5,(.t 31))],none,0,60⟩,⟨some 33,.append true 5 40 (.t 27) (.t 32),none,0,127⟩,⟨some 34,.fieldAddr 2 (.t 5),none,1,255⟩,⟨none,.store 1 (.t 34) (.t 33),none,1,511⟩]
def f65r8 : List AOper := [⟨some 35,.fieldAddr 0 (.t 5),none,0,0⟩,⟨some 36,.load false 1 (.t 35),none,0,1⟩,⟨some 37,.fieldAddr 0 (.t 8),none,0,0⟩,⟨some 38,.load false 1 (.t 37),none,0,4⟩,⟨some 39,.max (.t 36) (.t 38),none,0,15⟩,⟨some 40,.fieldAddr 1 (.t 5),none,0,0⟩,⟨some 41,.load false 1 (.t 40),none,0,32⟩,⟨some 42,.fieldAddr 1 (.t 8),none,0,0⟩,⟨some 43,.load false 1 (.t 42),none,0,128⟩,⟨some 44,.max (.t 41) (.t 43),none,0,480⟩,⟨some 45,.fieldAddr 0 (.t 5),none,0,127⟩,⟨none,.store 1 (.t 45) (.t 39),none,0,1151⟩,⟨some 46,.fieldAddr 1 (.t 5),none,0,4095⟩,⟨none,.store 1 (.t 46) (.t 44),none,0,8191⟩]
def f65r9 : List AOper := [⟨some 48,.fieldAddr 2 (.t 7),none,0,0⟩,⟨some 49,.load false 1 (.t 48),none,0,1⟩,⟨some 50,.bin .gtr (.t 49) (.c (.int .i64 0)),none,0,3⟩,⟨some 47,.move (.t 50),none,0,7⟩]
def f65r10 : List AOper := [⟨some 51,.fieldAddr 2 (.t 5),none,0,0⟩,⟨some 52,.load false 1 (.t 51),none,0,1⟩,⟨some 53,.move (.t 6),none,0,0⟩,⟨some 54,.fieldAddr 1 (.t 7),none,0,0⟩,⟨some 55,.load false 1 (.t 54),none,0,8⟩,⟨some 56,.fieldAddr 2 (.t 7),none,0,0⟩,⟨some 57,.load false 1 (.t 56),none,0,32⟩,⟨some 58,.build (List.replicate 5 (.int .i64 0)) [(0,1,(.t 53)),(1,1,(.t 55)),(4,1,(.t 57))],none,0,124⟩,⟨some 59,.buildSlice true 5 1 (List.replicate 5 (.int .i64 0)) [(0,5,(.t 58))],none,0,252⟩,⟨some 60,.append true 5 40 (.t 52) (.t 59),none,0,511⟩,⟨some 61,.fieldAddr 2 (.t 5),none,1,1023⟩,⟨none,.store 1 (.t 61) (.t 60),none,1,2047⟩]
def f65q11 : List AOper := [⟨some 62,.fieldAddr 0 (.t 5),none,0,0⟩,⟨some 63,.load false 1 (.t 62),none,0,1⟩,⟨some 64,.fieldAddr 2 (.t 7),none,0,0⟩,⟨some 65,.load false 1 (.t 64),none,0,4⟩,⟨some 66,.call (.c (.fn 77 [] [])) [(.t 65),(.c (.int .i64 8))],none,0,12⟩,⟨some 67,.bin .quo (.t 66) (.c (.int .i64 8)),none,0,28⟩,⟨some 68,.max (.t 63) (.t 67),none,0,63⟩,⟨some 69,.fieldAddr 0 (.t 5),none,0,127⟩,⟨none,.store 1 (.t 69) (.t 68),none,0,255⟩]
def f65r11 : List AOper := f65q11
def f65r12 : List AOper := [⟨some 70,.fieldAddr 2 (.t 7),none,0,0⟩,⟨some 71,.load false 1 (.t 70),none,0,1⟩,⟨some 72,.bin .gtr (.t 71) (.c (.int .i64 0)),none,0,3⟩,⟨some 73,.move (.t 72),none,0,7⟩,⟨some 74,.fieldAddr 0 (.t 7),(some (73,true)),0,15⟩,⟨some 75,.load false 1 (.t 74),(some (73,true)),0,31⟩,⟨some 76,.bin .neq (.t 75) (.c (.str [])),(some (73,true)),0,63⟩,⟨some 77,.pick (.t 73) (.t 76) (.c (.bool false)),none,0,127⟩]
def f65r13 : List AOper := [⟨some 78,.fieldAddr 1 (.t 5),none,0,0⟩,⟨some 79,.load false 1 (.t 78),none,0,1⟩,⟨some 80,.fieldAddr 0 (.t 8),none,0,0⟩,⟨some 81,.load false 1 (.t 80),none,0,4⟩,⟨some 82,.max (.t 79) (.t 81),none,0,15⟩,⟨some 83,.fieldAddr 1 (.t 5),none,0,31⟩,⟨none,.store 1 (.t 83) (.t 82),none,0,63⟩]
def f65r14 : List AOper := [⟨some 84,.bin .add (.t 13) (.c (.int .i64 1)),none,0,0⟩,⟨some 13,.move (.t 84),none,0,1⟩]
def f65m3 : ACode :=
 .seq (.region false f65r3 [0,4,5,11,12,13,14] 0)
 (.seq (.cond (.t 14)
  (.skip)
  (.exit 0))
 (.seq (.block 1 (.seq (.region false f65r4 [0,4,5,6,7,11,12,13] 1)
  (.seq (.region false f65r5 [0,4,5,6,7,8,11,12,13] 1)
  (.seq (.block 2 (.seq (.region false f65r6 [0,4,5,6,7,8,11,12,13,22] 0)
   (.cond (.t 22)
    (.seq (.region false f65r7 [0,4,5,7,8,11,12,13] 1)
    (.region true f65r8 [0,4,5,7,8,11,12,13] 0))
    (.seq (.region false f65r9 [0,4,5,6,7,8,11,12,13,47] 0)
    (.cond (.t 47)
     (.seq (.region false f65r10 [0,4,5,7,8,11,12,13] 1)
     (.region true f65r11 [0,4,5,7,8,11,12,13] 0))
     (.skip))))))
  (.seq (.region false f65r12 [0,4,5,8,11,12,13,77] 0)
  (.cond (.t 77)
   (.region false f65r13 [0,4,5,11,12,13] 0)
   (.skip)))))))
 (.region false f65r14 [0,4,5,11,12,13] 0)))
def f65l3 : ACode := f65m3
theorem f65l3_b {A : Tab} {nt : Nat} {e : Env} {h : Heap} : Brun A nt f65l3 e h = Brun A nt f65m3 e h := rfl
def f65r15 : List AOper := [⟨some 85,.fieldAddr 0 (.t 5),none,0,0⟩,⟨some 86,.load false 1 (.t 85),none,0,1⟩,⟨some 87,.fieldAddr 1 (.t 5),none,0,0⟩,⟨some 88,.load false 1 (.t 87),none,0,4⟩,⟨some 89,.call (.c (.fn 77 [] [])) [(.t 86),(.t 88)],none,0,15⟩,⟨some 90,.fieldAddr 0 (.t 5),none,0,31⟩,⟨none,.store 1 (.t 90) (.t 89),none,0,63⟩]
def f65r16 : List AOper := [⟨some 91,.load true 3 (.t 5),none,0,0⟩,⟨none,.store 3 (.t 4) (.t 91),none,0,1⟩]
theorem f65r11_s : staticOK 0 f65r11 = true := by rfl
theorem f65r11_w {A : Tab} {nt : Nat} {keep : List Nat} {n : Nat} {e : Env} {h : Heap} (hr : (bkeep keep (stepsF nt (stepF A true) h.length f65r11 e (h ++ List.replicate n .free))).isSome = true) : Brun A nt (.region true f65r11 keep n) e h = bkeep keep (stepsF nt (stepF A true) h.length f65r11 e (h ++ List.replicate n .free)) := Brun_drawnS f65r11_s hr
theorem f65r11_u (nt base : Nat) (step : Nat → AOp → Env → Heap → Option (AV × Heap)) (e : Env) (h : Heap) : stepsF nt step base f65r11 e h = stepsF nt step base f65q11 e h := rfl
def f65c : ACode :=
 .seq (.region false f65r0 [0,3,4] 1)
 (.seq (.region false f65r1 [0,3,4,5] 1)
 (.seq (.seq (.region false f65r2 [0,4,5,11,12,13] 0)
 (.block 0 (.loop f65l3)))
 (.seq (.region false f65r15 [4,5] 0)
 (.seq (.region false f65r16 [4] 0)
 (.ret)))))
def f65 : AFn := ⟨2,92,[.cell 4 true 3],f65c,1,none⟩
def f65k : List (Nat × List Nat) := [(0,[0,3,4]),(1,[0,3,4,5]),(2,[0,4,5,11,12,13]),(3,[0,4,5,11,12,13,14]),(4,[0,4,5,6,7,11,12,13]),(5,[0,4,5,6,7,8,11,12,13]),(6,[0,4,5,6,7,8,11,12,13,22]),(9,[0,4,5,6,7,8,11,12,13,47]),(10,[0,4,5,7,8,11,12,13]),(11,[0,4,5,7,8,11,12,13]),(7,[0,4,5,7,8,11,12,13]),(8,[0,4,5,7,8,11,12,13]),(12,[0,4,5,8,11,12,13,77]),(13,[0,4,5,11,12,13]),(14,[0,4,5,11,12,13]),(15,[4,5]),(16,[4])]
def f65v : List Nat := [3,60,59,33,32]
def f66r0 : List AOper := [⟨some 2,.move (.c (.int .i64 0)),none,0,0⟩]
def f66r1 : List AOper := [⟨some 3,.move (.t 0),none,0,0⟩]
def f66r2 : List AOper := [⟨some 5,.bin .eql (.t 3) (.c (.int .i64 2)),none,0,0⟩,⟨some 4,.move (.t 5),none,0,1⟩]
def f66r3 : List AOper := [⟨some 6,.bin .eql (.t 3) (.c (.int .i64 3)),none,0,0⟩,⟨some 4,.move (.t 6),none,0,1⟩]
def f66r4 : List AOper := [⟨some 7,.bin .eql (.t 3) (.c (.int .i64 4)),none,0,0⟩,⟨some 4,.move (.t 7),none,0,1⟩]
def f66r5 : List AOper := [⟨some 8,.bin .eql (.t 3) (.c (.int .i64 5)),none,0,0⟩,⟨some 4,.move (.t 8),none,0,1⟩]
def f66r6 : List AOper := [⟨some 2,.move (.c (.int .i64 1)),none,0,0⟩]
def f66r7 : List AOper := [⟨some 10,.bin .eql (.t 3) (.c (.int .i64 6)),none,0,0⟩,⟨some 9,.move (.t 10),none,0,1⟩]
def f66r8 : List AOper := [⟨some 11,.bin .eql (.t 3) (.c (.int .i64 7)),none,0,0⟩,⟨some 9,.move (.t 11),none,0,1⟩]
def f66r9 : List AOper := [⟨some 2,.move (.c (.int .i64 2)),none,0,0⟩]
def f66r10 : List AOper := [⟨some 13,.bin .eql (.t 3) (.c (.int .i64 8)),none,0,0⟩,⟨some 12,.move (.t 13),none,0,1⟩]
def f66r11 : List AOper := [⟨some 14,.bin .eql (.t 3) (.c (.int .i64 9)),none,0,0⟩,⟨some 12,.move (.t 14),none,0,1⟩]
def f66r12 : List AOper := [⟨some 15,.bin .eql (.t 3) (.c (.int .i64 10)),none,0,0⟩,⟨some 12,.move (.t 15),none,0,1⟩]
def f66r13 : List AOper := [⟨some 16,.bin .eql (.t 3) (.c (.int .i64 11)),none,0,0⟩,⟨some 12,.move (.t 16),none,0,1⟩]
def f66r14 : List AOper := [⟨some 17,.bin .eql (.t 3) (.c (.int .i64 12)),none,0,0⟩,⟨some 12,.move (.t 17),none,0,1⟩]
def f66r15 : List AOper := [⟨some 18,.bin .eql (.t 3) (.c (.int .i64 13)),none,0,0⟩,⟨some 12,.move (.t 18),none,0,1⟩]
def f66r16 : List AOper := [⟨some 2,.move (.c (.int .i64 4)),none,0,0⟩]
def f66r17 : List AOper := [⟨some 2,.move (.c (.int .i64 0)),none,0,0⟩]
def f66c : ACode :=
 .seq (.region false f66r0 [0] 0)
 (.seq (.seq (.region false f66r1 [3] 0)
 (.block 0 (.seq (.seq (.region false f66r2 [3,4] 0)
  (.cond (.t 4)
   (.skip)
   (.seq (.region false f66r3 [3,4] 0)
   (.cond (.t 4)
    (.skip)
    (.seq (.region false f66r4 [3,4] 0)
    (.cond (.t 4)
     (.skip)
     (.region false f66r5 [3,4] 0)))))))
  (.cond (.t 4)
   (.seq (.region false f66r6 [2] 0)
   (.ret))
   (.seq (.seq (.region false f66r7 [3,9] 0)
   (.cond (.t 9)
    (.skip)
    (.region false f66r8 [3,9] 0)))
   (.cond (.t 9)
    (.seq (.region false f66r9 [2] 0)
    (.ret))
    (.seq (.seq (.region false f66r10 [3,12] 0)
    (.cond (.t 12)
     (.skip)
     (.seq (.region false f66r11 [3,12] 0)
     (.cond (.t 12)
      (.skip)
      (.seq (.region false f66r12 [3,12] 0)
      (.cond (.t 12)
       (.skip)
       (.seq (.region false f66r13 [3,12] 0)
       (.cond (.t 12)
        (.skip)
        (.seq (.region false f66r14 [3,12] 0)
        (.cond (.t 12)
         (.skip)
         (.region false f66r15 [12] 0)))))))))))
    (.cond (.t 12)
     (.seq (.region false f66r16 [2] 0)
     (.ret))
     (.skip)))))))))
 (.seq (.region false f66r17 [2] 0)
 (.ret)))
def f66 : AFn := ⟨1,19,[.tmp 2],f66c,1,none⟩
def f66k : List (Nat × List Nat) := [(0,[0]),(1,[3]),(2,[3,4]),(3,[3,4]),(4,[3,4]),(5,[3,4]),(7,[3,9]),(8,[3,9]),(10,[3,12]),(11,[3,12]),(12,[3,12]),(13,[3,12]),(14,[3,12]),(15,[12]),(16,[2]),(9,[2]),(6,[2]),(17,[2])]
def f66v : List Nat := []
def f67r0 : List AOper := [⟨some 2,.box true (.t 0),none,0,0⟩,⟨some 3,.box true (.t 1),none,0,0⟩,⟨some 4,.move (.c (.bool false)),none,0,0⟩]
def f67r1 : List AOper := [⟨some 6,.fieldAddr 0 (.t 2),none,0,0⟩,⟨some 7,.load false 1 (.t 6),none,0,1⟩,⟨some 8,.fieldAddr 0 (.t 3),none,0,0⟩,⟨some 9,.load false 1 (.t 8),none,0,4⟩,⟨some 10,.bin .neq (.t 7) (.t 9),none,0,15⟩,⟨some 11,.move (.t 10),none,0,31⟩,⟨some 12,.fieldAddr 1 (.t 2),(some (11,false)),0,63⟩,⟨some 13,.load false 1 (.t 12),(some (11,false)),0,127⟩,⟨some 14,.fieldAddr 1 (.t 3),(some (11,false)),0,63⟩,⟨some 15,.load false 1 (.t 14),(some (11,false)),0,319⟩,⟨some 16,.bin .neq (.t 13) (.t 15),(some (11,false)),0,1023⟩,⟨some 17,.pick (.t 11) (.c (.bool true)) (.t 16),none,0,2047⟩,⟨some 18,.move (.t 17),none,0,4095⟩,⟨some 19,.fieldAddr 2 (.t 2),(some (18,false)),0,8191⟩,⟨some 20,.load false 1 (.t 19),(some (18,false)),0,16383⟩,⟨some 21,.fieldAddr 2 (.t 3),(some (18,false)),0,8191⟩,⟨some 22,.load false 1 (.t 21),(some (18,false)),0,40959⟩,⟨some 23,.bin .neq (.t 20) (.t 22),(some (18,false)),0,131071⟩,⟨some 24,.pick (.t 18) (.c (.bool true)) (.t 23),none,0,262143⟩,⟨some 25,.move (.t 24),none,0,524287⟩,⟨some 26,.fieldAddr 3 (.t 2),(some (25,false)),0,1048575⟩,⟨some 27,.load false 1 (.t 26),(some (25,false)),0,2097151⟩,⟨some 28,.fieldAddr 3 (.t 3),(some (25,false)),0,1048575⟩,⟨some 29,.load false 1 (.t 28),(some (25,false)),0,5242879⟩,⟨some 30,.bin .neq (.t 27) (.t 29),(some (25,false)),0,16777215⟩,⟨some 31,.pick (.t 25) (.c (.bool true)) (.t 30),none,0,33554431⟩,⟨some 32,.move (.t 31),none,0,67108863⟩,⟨some 33,.fieldAddr 5 (.t 2),(some (32,false)),0,134217727⟩,⟨some 34,.load false 1 (.t 33),(some (32,false)),0,268435455⟩,⟨some 35,.fieldAddr 5 (.t 3),(some (32,false)),0,134217727⟩,⟨some 36,.load false 1 (.t 35),(some (32,false)),0,671088639⟩,⟨some 37,.eq true .bool (.t 34) (.t 36),(some (32,false)),0,2147483647⟩,⟨some 38,.pick (.t 32) (.c (.bool true)) (.t 37),none,0,4294967295⟩,⟨some 39,.move (.t 38),none,0,8589934591⟩,⟨some 40,.fieldAddr 4 (.t 2),(some (39,false)),0,17179869183⟩,⟨some 41,.load false 1 (.t 40),(some (39,false)),0,34359738367⟩,⟨some 42,.len 1 (.t 41),(some (39,false)),0,68719476735⟩,⟨some 43,.fieldAddr 4 (.t 3),(some (39,false)),0,17179869183⟩,⟨some 44,.load false 1 (.t 43),(some (39,false)),0,154618822655⟩,⟨some 45,.len 1 (.t 44),(some (39,false)),0,429496729599⟩,⟨some 46,.bin .neq (.t 42) (.t 45),(some (39,false)),0,1099511627775⟩,⟨some 47,.pick (.t 39) (.c (.bool true)) (.t 46),none,0,2199023255551⟩]
def f67r2 : List AOper := [⟨some 4,.move (.c (.bool false)),none,0,0⟩]
def f67r3 : List AOper := [⟨some 5,.move (.c (.int .i64 0)),none,0,0⟩]
def f67r4 : List AOper := [⟨some 48,.move (.t 5),none,0,0⟩,⟨some 49,.fieldAddr 4 (.t 2),none,0,0⟩,⟨some 50,.load false 1 (.t 49),none,0,2⟩,⟨some 51,.len 1 (.t 50),none,0,6⟩,⟨some 52,.bin .lss (.t 48) (.t 51),none,0,15⟩]
def f67q5 : List AOper := [⟨some 55,.fieldAddr 4 (.t 2),none,0,0⟩,⟨some 56,.load false 1 (.t 55),none,0,1⟩,⟨some 57,.move (.t 5),none,0,0⟩,⟨some 58,.idxAddr 3 (.t 56) (.t 57),none,0,7⟩,⟨some 59,.load true 3 (.t 58),none,0,15⟩,⟨some 60,.fieldAddr 4 (.t 3),none,0,0⟩,⟨some 61,.load false 1 (.t 60),none,0,32⟩,⟨some 62,.move (.t 5),none,0,0⟩,⟨some 63,.idxAddr 3 (.t 61) (.t 62),none,0,224⟩,⟨some 64,.load true 3 (.t 63),none,0,480⟩,⟨some 65,.eq true (.agg [.str,.int .i64,.int .i64]) (.t 59) (.t 64),none,0,1023⟩]
def f67r5 : List AOper := f67q5
def f67r6 : List AOper := [⟨some 4,.move (.c (.bool false)),none,0,0⟩]
def f67r7 : List AOper := [⟨some 53,.move (.t 5),none,0,0⟩,⟨some 54,.bin .add (.t 53) (.c (.int .i64 1)),none,0,1⟩,⟨some 5,.move (.t 54),none,0,3⟩]
def f67m4 : ACode :=
 .seq (.seq (.region false f67r4 [2,3,5,52] 0)
 (.cond (.t 52)
  (.skip)
  (.exit 0)))
 (.seq (.block 1 (.seq (.region true f67r5 [2,3,5,65] 0)
  (.cond (.t 65)
   (.seq (.region false f67r6 [4] 0)
   (.ret))
   (.skip))))
 (.region false f67r7 [2,3,5] 0))
def f67l4 : ACode := f67m4
theorem f67l4_b {A : Tab} {nt : Nat} {e : Env} {h : Heap} : Brun A nt f67l4 e h = Brun A nt f67m4 e h := rfl
def f67r8 : List AOper := [⟨some 4,.move (.c (.bool true)),none,0,0⟩]
theorem f67r5_s : staticOK 0 f67r5 = true := by rfl
theorem f67r5_w {A : Tab} {nt : Nat} {keep : List Nat} {n : Nat} {e : Env} {h : Heap} (hr : (bkeep keep (stepsF nt (stepF A true) h.length f67r5 e (h ++ List.replicate n .free))).isSome = true) : Brun A nt (.region true f67r5 keep n) e h = bkeep keep (stepsF nt (stepF A true) h.length f67r5 e (h ++ List.replicate n .free)) := Brun_drawnS f67r5_s hr
theorem f67r5_u (nt base : Nat) (step : Nat → AOp → Env → Heap → Option (AV × Heap)) (e : Env) (h : Heap) : stepsF nt step base f67r5 e h = stepsF nt step base f67q5 e h := rfl
def f67c : ACode :=
 .seq (.region false f67r0 [2,3] 0)
 (.seq (.seq (.region false f67r1 [2,3,47] 0)
 (.cond (.t 47)
  (.seq (.region false f67r2 [4] 0)
  (.ret))
  (.skip)))
 (.seq (.seq (.region false f67r3 [2,3,5] 0)
 (.block 0 (.loop f67l4)))
 (.seq (.region false f67r8 [4] 0)
 (.ret))))
def f67 : AFn := ⟨2,66,[.tmp 4],f67c,1,none⟩
def f67k : List (Nat × List Nat) := [(0,[2,3]),(1,[2,3,47]),(2,[4]),(3,[2,3,5]),(4,[2,3,5,52]),(6,[2,3,5,65]),(7,[4]),(5,[2,3,5]),(8,[4])]
def f67v : List Nat := [3,2]
def f68r0 : List AOper := [⟨some 2,.move (.c (.bool false)),none,0,0⟩]
def f68r1 : List AOper := [⟨some 4,.move (.t 0),none,0,0⟩,⟨some 5,.len 0 (.t 4),none,0,1⟩,⟨some 6,.bin .lss (.t 5) (.c (.int .i64 2)),none,0,3⟩,⟨some 7,.move (.t 6),none,0,7⟩,⟨some 8,.move (.t 0),(some (7,false)),0,15⟩,⟨some 9,.len 0 (.t 8),(some (7,false)),0,31⟩,⟨some 10,.bin .gtr (.t 9) (.c (.int .i64 10)),(some (7,false)),0,63⟩,⟨some 11,.pick (.t 7) (.c (.bool true)) (.t 10),none,0,127⟩,⟨some 12,.move (.t 11),none,0,255⟩,⟨some 13,.move (.t 0),(some (12,false)),0,511⟩,⟨some 14,.strIndex (.t 13) (.c (.int .i64 0)),(some (12,false)),0,1023⟩,⟨some 15,.bin .neq (.t 14) (.c (.int .u8 35)),(some (12,false)),0,2047⟩,⟨some 16,.pick (.t 12) (.c (.bool true)) (.t 15),none,0,4095⟩]
def f68r2 : List AOper := [⟨some 17,.move (.t 0),none,0,0⟩,⟨some 18,.call (.c (.fn 78 [] [])) [(.t 17)],none,0,1⟩,⟨some 2,.move (.t 18),none,0,3⟩]
def f68r3 : List AOper := [⟨some 3,.move (.c (.int .i64 1)),none,0,0⟩]
def f68r4 : List AOper := [⟨some 19,.move (.t 3),none,0,0⟩,⟨some 20,.move (.t 0),none,0,0⟩,⟨some 21,.len 0 (.t 20),none,0,2⟩,⟨some 22,.bin .lss (.t 19) (.t 21),none,0,7⟩]
def f68r5 : List AOper := [⟨some 25,.move (.t 0),none,0,0⟩,⟨some 26,.move (.t 3),none,0,0⟩,⟨some 27,.strIndex (.t 25) (.t 26),none,0,3⟩,⟨some 28,.call (.c (.fn 79 [] [])) [(.t 27)],none,0,7⟩,⟨some 29,.un .not (.t 28),none,0,15⟩]
def f68r6 : List AOper := [⟨some 2,.move (.c (.bool false)),none,0,0⟩]
def f68r7 : List AOper := [⟨some 23,.move (.t 3),none,0,0⟩,⟨some 24,.bin .add (.t 23) (.c (.int .i64 1)),none,0,1⟩,⟨some 3,.move (.t 24),none,0,3⟩]
def f68m4 : ACode :=
 .seq (.seq (.region false f68r4 [0,3,22] 0)
 (.cond (.t 22)
  (.skip)
  (.exit 0)))
 (.seq (.block 1 (.seq (.region false f68r5 [0,3,29] 0)
  (.cond (.t 29)
   (.seq (.region false f68r6 [2] 0)
   (.ret))
   (.skip))))
 (.region false f68r7 [0,3] 0))
def f68l4 : ACode := f68m4
theorem f68l4_b {A : Tab} {nt : Nat} {e : Env} {h : Heap} : Brun A nt f68l4 e h = Brun A nt f68m4 e h := rfl
def f68r8 : List AOper := [⟨some 2,.move (.c (.bool true)),none,0,0⟩]
def f68c : ACode :=
 .seq (.region false f68r0 [0] 0)
 (.seq (.seq (.region false f68r1 [0,16] 0)
 (.cond (.t 16)
  (.seq (.region false f68r2 [2] 0)
  (.ret))
  (.skip)))
 (.seq (.seq (.region false f68r3 [0,3] 0)
 (.block 0 (.loop f68l4)))
 (.seq (.region false f68r8 [2] 0)
 (.ret))))
def f68 : AFn := ⟨1,30,[.tmp 2],f68c,1,none⟩
def f68k : List (Nat × List Nat) := [(0,[0]),(1,[0,16]),(2,[2]),(3,[0,3]),(4,[0,3,22]),(6,[0,3,29]),(7,[2]),(5,[0,3]),(8,[2])]
def f68v : List Nat := []
def f69r0 : List AOper := [⟨some 4,.move (.c (.int .i64 0)),none,0,0⟩]
def f69r1 : List AOper := [⟨some 7,.move (.t 1),none,0,0⟩,⟨some 8,.len 1 (.t 7),none,0,1⟩,⟨some 9,.bin .lss (.t 8) (.c (.int .i64 1)),none,0,3⟩,⟨some 10,.move (.t 9),none,0,7⟩,⟨some 11,.move (.t 1),(some (10,false)),0,15⟩,⟨some 12,.len 1 (.t 11),(some (10,false)),0,31⟩,⟨some 13,.bin .gtr (.t 12) (.c (.int .i64 64)),(some (10,false)),0,63⟩,⟨some 14,.pick (.t 10) (.c (.bool true)) (.t 13),none,0,127⟩]
def f69r2 : List AOper := [⟨some 4,.move (.c (.int .i64 2)),none,0,0⟩]
def f69r3 : List AOper := [⟨some 5,.move (.c (.int .i64 0)),none,0,0⟩]
def f69r4 : List AOper := [⟨some 15,.move (.t 5),none,0,0⟩,⟨some 16,.move (.t 1),none,0,0⟩,⟨some 17,.len 1 (.t 16),none,0,2⟩,⟨some 18,.bin .lss (.t 15) (.t 17),none,0,7⟩]
def f69r5 : List AOper := [⟨some 21,.move (.t 0),none,0,0⟩,⟨some 22,.move (.t 1),none,0,0⟩,⟨some 23,.move (.t 5),none,0,0⟩,⟨some 24,.call (.c (.fn 80 [] [])) [(.t 21),(.t 22),(.t 23)],none,0,7⟩,⟨some 6,.move (.t 24),none,0,15⟩]
def f69r6 : List AOper := [⟨some 25,.move (.t 6),none,0,0⟩,⟨some 26,.bin .neq (.t 25) (.c (.int .i64 0)),none,0,1⟩]
def f69r7 : List AOper := [⟨some 27,.move (.t 6),none,0,0⟩,⟨some 4,.move (.t 27),none,0,1⟩]
def f69r8 : List AOper := [⟨some 19,.move (.t 5),none,0,0⟩,⟨some 20,.bin .add (.t 19) (.c (.int .i64 1)),none,0,1⟩,⟨some 5,.move (.t 20),none,0,3⟩]
def f69m4 : ACode :=
 .seq (.seq (.region false f69r4 [0,1,5,18] 0)
 (.cond (.t 18)
  (.skip)
  (.exit 0)))
 (.seq (.block 1 (.seq (.region false f69r5 [0,1,5,6] 0)
  (.seq (.region false f69r6 [0,1,5,6,26] 0)
  (.cond (.t 26)
   (.seq (.region false f69r7 [4] 0)
   (.ret))
   (.skip)))))
 (.region false f69r8 [0,1,5] 0))
def f69l4 : ACode := f69m4
theorem f69l4_b {A : Tab} {nt : Nat} {e : Env} {h : Heap} : Brun A nt f69l4 e h = Brun A nt f69m4 e h := rfl
def f69r9 : List AOper := [⟨some 4,.move (.c (.int .i64 0)),none,0,0⟩]
def f69c : ACode :=
 .seq (.region false f69r0 [0,1] 0)
 (.seq (.seq (.region false f69r1 [0,1,14] 0)
 (.cond (.t 14)
  (.seq (.region false f69r2 [4] 0)
  (.ret))
  (.skip)))
 (.seq (.seq (.region false f69r3 [0,1,5] 0)
 (.block 0 (.loop f69l4)))
 (.seq (.region false f69r9 [4] 0)
 (.ret))))
def f69 : AFn := ⟨2,28,[.tmp 4],f69c,1,none⟩
def f69k : List (Nat × List Nat) := [(0,[0,1]),(1,[0,1,14]),(2,[4]),(3,[0,1,5]),(4,[0,1,5,18]),(6,[0,1,5,6]),(7,[0,1,5,6,26]),(8,[4]),(5,[0,1,5]),(9,[4])]
def f69v : List Nat := []
def f70r0 : List AOper := [⟨some 2,.move (.c (.bool false)),none,0,0⟩]
def f70r1 : List AOper := [⟨some 3,.move (.t 0),none,0,0⟩,⟨some 4,.bin .eql (.t 3) (.c (.int .i64 (-1))),none,0,1⟩,⟨some 5,.move (.t 4),none,0,3⟩,⟨some 6,.move (.t 0),(some (5,false)),0,7⟩,⟨some 7,.bin .geq (.t 6) (.c (.int .i64 1)),(some (5,false)),0,15⟩,⟨some 8,.move (.t 7),(some (5,false)),0,31⟩,⟨some 9,.move (.t 0),(some (8,true)),0,63⟩,⟨some 10,.bin .leq (.t 9) (.c (.int .i64 16384)),(some (8,true)),0,127⟩,⟨some 11,.pick (.t 8) (.t 10) (.c (.bool false)),(some (5,false)),0,255⟩,⟨some 12,.pick (.t 5) (.c (.bool true)) (.t 11),none,0,511⟩,⟨some 2,.move (.t 12),none,0,1023⟩]
def f70c : ACode :=
 .seq (.region false f70r0 [0] 0)
 (.seq (.region false f70r1 [2] 0)
 (.ret))
def f70 : AFn := ⟨1,13,[.tmp 2],f70c,1,none⟩
def f70k : List (Nat × List Nat) := [(0,[0]),(1,[2])]
def f70v : List Nat := []
def f71r0 : List AOper := [⟨some 4,.move (.c (.bool false)),none,0,0⟩]
def f71r1 : List AOper := [⟨some 6,.move (.t 0),none,0,0⟩,⟨some 7,.move (.t 1),none,0,0⟩,⟨some 8,.call (.c (.fn 35 [] [])) [(.t 6),(.t 7)],none,0,3⟩,⟨some 5,.move (.t 8),none,0,7⟩]
def f71r2 : List AOper := [⟨some 10,.move (.t 5),none,0,0⟩,⟨some 11,.bin .eql (.t 10) (.c (.int .i64 14)),none,0,1⟩,⟨some 9,.move (.t 11),none,0,3⟩]
def f71r3 : List AOper := [⟨some 12,.move (.t 0),none,0,0⟩,⟨some 13,.nilCheck (.t 12),none,0,1⟩,⟨some 14,.fieldAddr 0 (.t 13),none,0,3⟩,⟨some 15,.load false 1 (.t 14),none,0,7⟩,⟨some 16,.move (.t 1),none,0,0⟩,⟨some 17,.idxAddr 6 (.t 15) (.t 16),none,0,31⟩,⟨some 18,.fieldAddr 2 (.t 17),none,0,63⟩,⟨some 19,.load false 1 (.t 18),none,0,127⟩,⟨some 20,.bin .geq (.t 19) (.c (.int .i64 1)),none,0,255⟩,⟨some 4,.move (.t 20),none,0,511⟩]
def f71r4 : List AOper := [⟨some 22,.move (.t 0),none,0,0⟩,⟨some 23,.move (.t 1),none,0,0⟩,⟨some 24,.call (.c (.fn 14 [] [])) [(.t 22),(.t 23)],none,0,3⟩,⟨some 21,.move (.t 24),none,0,7⟩]
def f71r5 : List AOper := [⟨some 25,.move (.t 0),none,0,0⟩,⟨some 26,.nilCheck (.t 25),none,0,1⟩,⟨some 27,.fieldAddr 0 (.t 26),none,0,3⟩,⟨some 28,.load false 1 (.t 27),none,0,7⟩,⟨some 29,.move (.t 1),none,0,0⟩,⟨some 30,.idxAddr 6 (.t 28) (.t 29),none,0,31⟩,⟨some 31,.fieldAddr 5 (.t 30),none,0,63⟩,⟨some 32,.load false 1 (.t 31),none,0,127⟩,⟨some 4,.move (.t 32),none,0,255⟩]
def f71r6 : List AOper := [⟨some 33,.move (.t 5),none,0,0⟩,⟨some 34,.bin .gtr (.t 33) (.c (.int .i64 1)),none,0,1⟩,⟨some 4,.move (.t 34),none,0,3⟩]
def f71c : ACode :=
 .seq (.region false f71r0 [0,1] 0)
 (.seq (.region false f71r1 [0,1,5] 0)
 (.seq (.block 0 (.seq (.region false f71r2 [0,1,5,9] 0)
  (.cond (.t 9)
   (.seq (.region false f71r3 [4] 0)
   (.ret))
   (.seq (.region false f71r4 [0,1,5,21] 0)
   (.cond (.t 21)
    (.seq (.region false f71r5 [4] 0)
    (.ret))
    (.skip))))))
 (.seq (.region false f71r6 [4] 0)
 (.ret))))
def f71 : AFn := ⟨2,35,[.tmp 4],f71c,1,none⟩
def f71k : List (Nat × List Nat) := [(0,[0,1]),(1,[0,1,5]),(2,[0,1,5,9]),(4,[0,1,5,21]),(5,[4]),(3,[4]),(6,[4])]
def f71v : List Nat := []
def f74r0 : List AOper := [⟨some 4,.move (.c (.str [])),none,0,0⟩,⟨some 5,.move (.c (.bool false)),none,0,1⟩]
def f74r1 : List AOper := [⟨some 6,.move (.t 0),none,0,0⟩,⟨some 7,.move (.t 1),none,0,0⟩,⟨some 8,.call (.c (.fn 82 [] [])) [(.t 6),(.t 7)],none,0,3⟩,⟨some 9,.extract (.t 8) 0,none,0,7⟩,⟨some 10,.extract (.t 8) 1,none,0,7⟩,⟨some 4,.move (.t 9),none,0,31⟩,⟨some 5,.move (.t 10),none,0,63⟩]
def f74c : ACode :=
 .seq (.region false f74r0 [0,1] 0)
 (.seq (.region false f74r1 [4,5] 0)
 (.ret))
def f74 : AFn := ⟨2,11,[.tmp 4,.tmp 5],f74c,1,none⟩
def f74k : List (Nat × List Nat) := [(0,[0,1]),(1,[4,5])]
def f74v : List Nat := []
def f76r0 : List AOper := [⟨some 2,.box true (.t 0),none,0,0⟩]
def f76r1 : List AOper := [⟨some 3,.fieldAddr 2 (.t 1),none,0,0⟩,⟨some 4,.load false 1 (.t 3),none,0,1⟩,⟨some 5,.load true 5 (.t 2),none,0,0⟩,⟨some 6,.buildSlice true 5 1 (List.replicate 5 (.int .i64 0)) [(0,5,(.t 5))],none,0,4⟩,⟨some 7,.append true 5 40 (.t 4) (.t 6),none,0,15⟩,⟨some 8,.fieldAddr 2 (.t 1),none,1,31⟩,⟨none,.store 1 (.t 8) (.t 7),none,1,63⟩]
def f76c : ACode :=
 .seq (.region false f76r0 [1,2] 0)
 (.region false f76r1 [] 1)
def f76 : AFn := ⟨2,9,[],f76c,1,none⟩
def f76k : List (Nat × List Nat) := [(0,[1,2]),(1,[])]
def f76v : List Nat := [2,7,6]
def f77r0 : List AOper := [⟨some 4,.move (.c (.int .i64 0)),none,0,0⟩]
def f77r1 : List AOper := [⟨some 5,.move (.t 0),none,0,0⟩,⟨some 6,.move (.t 1),none,0,0⟩,⟨some 7,.bin .add (.t 5) (.t 6),none,0,3⟩,⟨some 8,.bin .sub (.t 7) (.c (.int .i64 1)),none,0,7⟩,⟨some 9,.move (.t 1),none,0,0⟩,⟨some 10,.bin .quo (.t 8) (.t 9),none,0,31⟩,⟨some 11,.move (.t 1),none,0,0⟩,⟨some 12,.bin .mul (.t 10) (.t 11),none,0,127⟩,⟨some 4,.move (.t 12),none,0,255⟩]
def f77c : ACode :=
 .seq (.region false f77r0 [0,1] 0)
 (.seq (.region false f77r1 [4] 0)
 (.ret))
def f77 : AFn := ⟨2,13,[.tmp 4],f77c,1,none⟩
def f77k : List (Nat × List Nat) := [(0,[0,1]),(1,[4])]
def f77v : List Nat := []
def f78r0 : List AOper := [⟨some 2,.move (.c (.bool false)),none,0,0⟩]
def f78r1 : List AOper := [⟨some 4,.move (.t 0),none,0,0⟩,⟨some 5,.len 0 (.t 4),none,0,1⟩,⟨some 6,.bin .lss (.t 5) (.c (.int .i64 1)),none,0,3⟩,⟨some 7,.move (.t 6),none,0,7⟩,⟨some 8,.move (.t 0),(some (7,false)),0,15⟩,⟨some 9,.len 0 (.t 8),(some (7,false)),0,31⟩,⟨some 10,.bin .gtr (.t 9) (.c (.int .i64 63)),(some (7,false)),0,63⟩,⟨some 11,.pick (.t 7) (.c (.bool true)) (.t 10),none,0,127⟩,⟨some 12,.move (.t 11),none,0,255⟩,⟨some 13,.move (.t 0),(some (12,false)),0,511⟩,⟨some 14,.strIndex (.t 13) (.c (.int .i64 0)),(some (12,false)),0,1023⟩,⟨some 15,.call (.c (.fn 90 [] [])) [(.t 14)],(some (12,false)),0,2047⟩,⟨some 16,.un .not (.t 15),(some (12,false)),0,4095⟩,⟨some 17,.pick (.t 12) (.c (.bool true)) (.t 16),none,0,8191⟩]
def f78r2 : List AOper := [⟨some 2,.move (.c (.bool false)),none,0,0⟩]
def f78r3 : List AOper := [⟨some 3,.move (.c (.int .i64 1)),none,0,0⟩]
def f78r4 : List AOper := [⟨some 18,.move (.t 3),none,0,0⟩,⟨some 19,.move (.t 0),none,0,0⟩,⟨some 20,.len 0 (.t 19),none,0,2⟩,⟨some 21,.bin .lss (.t 18) (.t 20),none,0,7⟩]
def f78r5 : List AOper := [⟨some 24,.move (.t 0),none,0,0⟩,⟨some 25,.move (.t 3),none,0,0⟩,⟨some 26,.strIndex (.t 24) (.t 25),none,0,3⟩,⟨some 27,.call (.c (.fn 90 [] [])) [(.t 26)],none,0,7⟩,⟨some 28,.un .not (.t 27),none,0,15⟩,⟨some 29,.move (.t 28),none,0,31⟩,⟨some 30,.move (.t 0),(some (29,true)),0,63⟩,⟨some 31,.move (.t 3),(some (29,true)),0,63⟩,⟨some 32,.strIndex (.t 30) (.t 31),(some (29,true)),0,255⟩,⟨some 33,.call (.c (.fn 79 [] [])) [(.t 32)],(some (29,true)),0,511⟩,⟨some 34,.un .not (.t 33),(some (29,true)),0,1023⟩,⟨some 35,.pick (.t 29) (.t 34) (.c (.bool false)),none,0,2047⟩]
def f78r6 : List AOper := [⟨some 2,.move (.c (.bool false)),none,0,0⟩]
def f78r7 : List AOper := [⟨some 22,.move (.t 3),none,0,0⟩,⟨some 23,.bin .add (.t 22) (.c (.int .i64 1)),none,0,1⟩,⟨some 3,.move (.t 23),none,0,3⟩]
def f78m4 : ACode :=
 .seq (.seq (.region false f78r4 [0,3,21] 0)
 (.cond (.t 21)
  (.skip)
  (.exit 0)))
 (.seq (.block 1 (.seq (.region false f78r5 [0,3,35] 0)
  (.cond (.t 35)
   (.seq (.region false f78r6 [2] 0)
   (.ret))
   (.skip))))
 (.region false f78r7 [0,3] 0))
def f78l4 : ACode := f78m4
theorem f78l4_b {A : Tab} {nt : Nat} {e : Env} {h : Heap} : Brun A nt f78l4 e h = Brun A nt f78m4 e h := rfl
def f78r8 : List AOper := [⟨some 2,.move (.c (.bool true)),none,0,0⟩]
def f78c : ACode :=
 .seq (.region false f78r0 [0] 0)
 (.seq (.seq (.region false f78r1 [0,17] 0)
 (.cond (.t 17)
  (.seq (.region false f78r2 [2] 0)
  (.ret))
  (.skip)))
 (.seq (.seq (.region false f78r3 [0,3] 0)
 (.block 0 (.loop f78l4)))
 (.seq (.region false f78r8 [2] 0)
 (.ret))))
def f78 : AFn := ⟨1,36,[.tmp 2],f78c,1,none⟩
def f78k : List (Nat × List Nat) := [(0,[0]),(1,[0,17]),(2,[2]),(3,[0,3]),(4,[0,3,21]),(6,[0,3,35]),(7,[2]),(5,[0,3]),(8,[2])]
def f78v : List Nat := []
def f79r0 : List AOper := [⟨some 2,.move (.c (.bool false)),none,0,0⟩]
def f79r1 : List AOper := [⟨some 3,.move (.t 0),none,0,0⟩,⟨some 4,.bin .geq (.t 3) (.c (.int .u8 48)),none,0,1⟩,⟨some 5,.move (.t 4),none,0,3⟩,⟨some 6,.move (.t 0),(some (5,true)),0,7⟩,⟨some 7,.bin .leq (.t 6) (.c (.int .u8 57)),(some (5,true)),0,15⟩,⟨some 8,.pick (.t 5) (.t 7) (.c (.bool false)),none,0,31⟩,⟨some 2,.move (.t 8),none,0,63⟩]
def f79c : ACode :=
 .seq (.region false f79r0 [0] 0)
 (.seq (.region false f79r1 [2] 0)
 (.ret))
def f79 : AFn := ⟨1,9,[.tmp 2],f79c,1,none⟩
def f79k : List (Nat × List Nat) := [(0,[0]),(1,[2])]
def f79v : List Nat := []
def f80r0 : List AOper := [⟨some 6,.move (.c (.int .i64 0)),none,0,0⟩]
def f80r1 : List AOper := [⟨some 9,.move (.t 1),none,0,0⟩,⟨some 10,.move (.t 2),none,0,0⟩,⟨some 11,.idxAddr 3 (.t 9) (.t 10),none,0,3⟩,⟨some 12,.load true 3 (.t 11),none,0,7⟩,⟨some 7,.alloc false [(.str []),(.int .i64 0),(.int .i64 0)],none,0,0⟩,⟨none,.store 3 (.t 7) (.t 12),none,1,31⟩]
def f80r2 : List AOper := [⟨some 13,.move (.t 0),none,0,0⟩,⟨some 14,.fieldAddr 1 (.t 7),none,0,0⟩,⟨some 15,.load false 1 (.t 14),none,0,2⟩,⟨some 16,.call (.c (.fn 63 [] [])) [(.t 13),(.t 15)],none,0,7⟩,⟨some 17,.un .not (.t 16),none,0,15⟩]
def f80r3 : List AOper := [⟨some 6,.move (.c (.int .i64 30)),none,0,0⟩]
def f80r4 : List AOper := [⟨some 18,.move (.t 0),none,0,0⟩,⟨some 19,.fieldAddr 1 (.t 7),none,0,0⟩,⟨some 20,.load false 1 (.t 19),none,0,2⟩,⟨some 21,.call (.c (.fn 71 [] [])) [(.t 18),(.t 20)],none,0,7⟩,⟨some 22,.un .not (.t 21),none,0,15⟩]
def f80r5 : List AOper := [⟨some 6,.move (.c (.int .i64 50)),none,0,0⟩]
def f80r6 : List AOper := [⟨some 23,.move (.t 0),none,0,0⟩,⟨some 24,.fieldAddr 1 (.t 7),none,0,0⟩,⟨some 25,.load false 1 (.t 24),none,0,2⟩,⟨some 26,.fieldAddr 2 (.t 7),none,0,0⟩,⟨some 27,.load false 1 (.t 26),none,0,8⟩,⟨some 28,.call (.c (.fn 91 [] [])) [(.t 23),(.t 25),(.t 27)],none,0,31⟩,⟨some 29,.un .not (.t 28),none,0,63⟩]
def f80r7 : List AOper := [⟨some 6,.move (.c (.int .i64 52)),none,0,0⟩]
def f80r8 : List AOper := [⟨some 30,.fieldAddr 0 (.t 7),none,0,0⟩,⟨some 31,.load false 1 (.t 30),none,0,1⟩,⟨some 32,.bin .eql (.t 31) (.c (.str [])),none,0,3⟩]
def f80r9 : List AOper := [⟨some 33,.fieldAddr 2 (.t 7),none,0,0⟩,⟨some 34,.load false 1 (.t 33),none,0,1⟩,⟨some 35,.bin .lss (.t 34) (.c (.int .i64 0)),none,0,3⟩]
def f80r10 : List AOper := [⟨some 6,.move (.c (.int .i64 31)),none,0,0⟩]
def f80r11 : List AOper := [⟨some 6,.move (.c (.int .i64 0)),none,0,0⟩]
def f80r12 : List AOper := [⟨some 36,.fieldAddr 0 (.t 7),none,0,0⟩,⟨some 37,.load false 1 (.t 36),none,0,1⟩,⟨some 38,.call (.c (.fn 78 [] [])) [(.t 37)],none,0,3⟩,⟨some 39,.un .not (.t 38),none,0,7⟩,⟨some 40,.move (.t 39),none,0,15⟩,⟨some 41,.fieldAddr 2 (.t 7),(some (40,false)),0,31⟩,⟨some 42,.load false 1 (.t 41),(some (40,false)),0,63⟩,⟨some 43,.bin .eql (.t 42) (.c (.int .i64 0)),(some (40,false)),0,127⟩,⟨some 44,.pick (.t 40) (.c (.bool true)) (.t 43),none,0,255⟩]
def f80r13 : List AOper := [⟨some 6,.move (.c (.int .i64 31)),none,0,0⟩]
def f80r14 : List AOper := [⟨some 8,.move (.c (.int .i64 0)),none,0,0⟩]
def f80r15 : List AOper := [⟨some 45,.move (.t 8),none,0,0⟩,⟨some 46,.move (.t 2),none,0,0⟩,⟨some 47,.bin .lss (.t 45) (.t 46),none,0,3⟩]
def f80q16 : List AOper := [⟨some 50,.move (.t 1),none,0,0⟩,⟨some 51,.move (.t 8),none,0,0⟩,⟨some 52,.idxAddr 3 (.t 50) (.t 51),none,0,3⟩,⟨some 53,.fieldAddr 0 (.t 52),none,0,7⟩,⟨some 54,.load false 1 (.t 53),none,0,15⟩,⟨some 55,.fieldAddr 0 (.t 7),none,0,0⟩,⟨some 56,.load false 1 (.t 55),none,0,32⟩,⟨some 57,.bin .eql (.t 54) (.t 56),none,0,127⟩]
def f80r16 : List AOper := f80q16
def f80r17 : List AOper := [⟨some 6,.move (.c (.int .i64 31)),none,0,0⟩]
def f80r18 : List AOper := [⟨some 48,.move (.t 8),none,0,0⟩,⟨some 49,.bin .add (.t 48) (.c (.int .i64 1)),none,0,1⟩,⟨some 8,.move (.t 49),none,0,3⟩]
def f80m15 : ACode :=
 .seq (.seq (.region false f80r15 [1,2,7,8,47] 0)
 (.cond (.t 47)
  (.skip)
  (.exit 0)))
 (.seq (.block 1 (.seq (.region true f80r16 [1,2,7,8,57] 0)
  (.cond (.t 57)
   (.seq (.region false f80r17 [6] 0)
   (.ret))
   (.skip))))
 (.region false f80r18 [1,2,7,8] 0))
def f80l15 : ACode := f80m15
theorem f80l15_b {A : Tab} {nt : Nat} {e : Env} {h : Heap} : Brun A nt f80l15 e h = Brun A nt f80m15 e h := rfl
def f80r19 : List AOper := [⟨some 6,.move (.c (.int .i64 0)),none,0,0⟩]
theorem f80r16_s : staticOK 0 f80r16 = true := by rfl
theorem f80r16_w {A : Tab} {nt : Nat} {keep : List Nat} {n : Nat} {e : Env} {h : Heap} (hr : (bkeep keep (stepsF nt (stepF A true) h.length f80r16 e (h ++ List.replicate n .free))).isSome = true) : Brun A nt (.region true f80r16 keep n) e h = bkeep keep (stepsF nt (stepF A true) h.length f80r16 e (h ++ List.replicate n .free)) := Brun_drawnS f80r16_s hr
theorem f80r16_u (nt base : Nat) (step : Nat → AOp → Env → Heap → Option (AV × Heap)) (e : Env) (h : Heap) : stepsF nt step base f80r16 e h = stepsF nt step base f80q16 e h := rfl
def f80c : ACode :=
 .seq (.region false f80r0 [0,1,2] 0)
 (.seq (.region false f80r1 [0,1,2,7] 1)
 (.seq (.seq (.region false f80r2 [0,1,2,7,17] 0)
 (.cond (.t 17)
  (.seq (.region false f80r3 [6] 0)
  (.ret))
  (.skip)))
 (.seq (.seq (.region false f80r4 [0,1,2,7,22] 0)
 (.cond (.t 22)
  (.seq (.region false f80r5 [6] 0)
  (.ret))
  (.skip)))
 (.seq (.seq (.region false f80r6 [1,2,7,29] 0)
 (.cond (.t 29)
  (.seq (.region false f80r7 [6] 0)
  (.ret))
  (.skip)))
 (.seq (.seq (.region false f80r8 [1,2,7,32] 0)
 (.cond (.t 32)
  (.seq (.seq (.region false f80r9 [35] 0)
  (.cond (.t 35)
   (.seq (.region false f80r10 [6] 0)
   (.ret))
   (.skip)))
  (.seq (.region false f80r11 [6] 0)
  (.ret)))
  (.skip)))
 (.seq (.seq (.region false f80r12 [1,2,7,44] 0)
 (.cond (.t 44)
  (.seq (.region false f80r13 [6] 0)
  (.ret))
  (.skip)))
 (.seq (.seq (.region false f80r14 [1,2,7,8] 0)
 (.block 0 (.loop f80l15)))
 (.seq (.region false f80r19 [6] 0)
 (.ret)))))))))
def f80 : AFn := ⟨3,58,[.tmp 6],f80c,1,none⟩
def f80k : List (Nat × List Nat) := [(0,[0,1,2]),(1,[0,1,2,7]),(2,[0,1,2,7,17]),(3,[6]),(4,[0,1,2,7,22]),(5,[6]),(6,[1,2,7,29]),(7,[6]),(8,[1,2,7,32]),(9,[35]),(10,[6]),(11,[6]),(12,[1,2,7,44]),(13,[6]),(14,[1,2,7,8]),(15,[1,2,7,8,47]),(17,[1,2,7,8,57]),(18,[6]),(16,[1,2,7,8]),(19,[6])]
def f80v : List Nat := []
def f82r0 : List AOper := [⟨some 4,.move (.c (.str [])),none,0,0⟩,⟨some 5,.move (.c (.bool false)),none,0,1⟩]
def f82r1 : List AOper := [⟨some 6,.move (.t 0),none,0,0⟩,⟨some 7,.move (.t 1),none,0,0⟩,⟨some 8,.call (.c (.fn 93 [] [])) [(.t 6),(.t 7)],none,0,3⟩,⟨some 9,.un .not (.t 8),none,0,7⟩]
def f82r2 : List AOper := [⟨some 10,.move (.t 0),none,0,0⟩,⟨some 4,.move (.t 10),none,0,1⟩,⟨some 5,.move (.c (.bool false)),none,0,3⟩]
def f82r3 : List AOper := [⟨some 11,.move (.t 0),none,0,0⟩,⟨some 12,.move (.t 1),none,0,0⟩,⟨some 13,.len 0 (.t 12),none,0,2⟩,⟨some 14,.strSlice (.t 11) (some (.t 13)) none,none,0,7⟩,⟨some 4,.move (.t 14),none,0,15⟩,⟨some 5,.move (.c (.bool true)),none,0,31⟩]
def f82c : ACode :=
 .seq (.region false f82r0 [0,1] 0)
 (.seq (.seq (.region false f82r1 [0,1,9] 0)
 (.cond (.t 9)
  (.seq (.region false f82r2 [4,5] 0)
  (.ret))
  (.skip)))
 (.seq (.region false f82r3 [4,5] 0)
 (.ret)))
def f82 : AFn := ⟨2,15,[.tmp 4,.tmp 5],f82c,1,none⟩
def f82k : List (Nat × List Nat) := [(0,[0,1]),(1,[0,1,9]),(2,[4,5]),(3,[4,5])]
def f82v : List Nat := []
def f90r0 : List AOper := [⟨some 2,.move (.c (.bool false)),none,0,0⟩]
def f90r1 : List AOper := [⟨some 3,.move (.t 0),none,0,0⟩,⟨some 4,.bin .geq (.t 3) (.c (.int .u8 97)),none,0,1⟩,⟨some 5,.move (.t 4),none,0,3⟩,⟨some 6,.move (.t 0),(some (5,true)),0,7⟩,⟨some 7,.bin .leq (.t 6) (.c (.int .u8 122)),(some (5,true)),0,15⟩,⟨some 8,.pick (.t 5) (.t 7) (.c (.bool false)),none,0,31⟩,⟨some 9,.move (.t 8),none,0,63⟩,⟨some 10,.move (.t 0),(some (9,false)),0,127⟩,⟨some 11,.bin .geq (.t 10) (.c (.int .u8 65)),(some (9,false)),0,255⟩,⟨some 12,.move (.t 11),(some (9,false)),0,511⟩,⟨some 13,.move (.t 0),(some (12,true)),0,1023⟩,⟨some 14,.bin .leq (.t 13) (.c (.int .u8 90)),(some (12,true)),0,2047⟩,⟨some 15,.pick (.t 12) (.t 14) (.c (.bool false)),(some (9,false)),0,4095⟩,⟨some 16,.pick (.t 9) (.c (.bool true)) (.t 15),none,0,8191⟩,⟨some 17,.move (.t 16),none,0,16383⟩,⟨some 18,.move (.t 0),(some (17,false)),0,32767⟩,⟨some 19,.bin .eql (.t 18) (.c (.int .u8 95)),(some (17,false)),0,65535⟩,⟨some 20,.pick (.t 17) (.c (.bool true)) (.t 19),none,0,131071⟩,⟨some 2,.move (.t 20),none,0,262143⟩]
def f90c : ACode :=
 .seq (.region false f90r0 [0] 0)
 (.seq (.region false f90r1 [2] 0)
 (.ret))
def f90 : AFn := ⟨1,21,[.tmp 2],f90c,1,none⟩
def f90k : List (Nat × List Nat) := [(0,[0]),(1,[2])]
def f90v : List Nat := []
def f91r0 : List AOper := [⟨some 6,.move (.c (.bool false)),none,0,0⟩]
def f91r1 : List AOper := [⟨some 8,.move (.t 2),none,0,0⟩,⟨some 9,.bin .eql (.t 8) (.c (.int .i64 (-1))),none,0,1⟩]
def f91r2 : List AOper := [⟨some 6,.move (.c (.bool true)),none,0,0⟩]
def f91r3 : List AOper := [⟨some 10,.move (.t 0),none,0,0⟩,⟨some 11,.move (.t 1),none,0,0⟩,⟨some 12,.call (.c (.fn 35 [] [])) [(.t 10),(.t 11)],none,0,3⟩,⟨some 13,.call (.c (.fn 98 [] [])) [(.t 12)],none,0,7⟩,⟨some 14,.bin .mul (.c (.int .i64 8)) (.t 13),none,0,15⟩,⟨some 7,.move (.t 14),none,0,31⟩]
def f91r4 : List AOper := [⟨some 15,.move (.t 0),none,0,0⟩,⟨some 16,.move (.t 1),none,0,0⟩,⟨some 17,.call (.c (.fn 35 [] [])) [(.t 15),(.t 16)],none,0,3⟩,⟨some 18,.bin .eql (.t 17) (.c (.int .i64 2)),none,0,7⟩]
def f91r5 : List AOper := [⟨some 7,.move (.c (.int .i64 1)),none,0,0⟩]
def f91r6 : List AOper := [⟨some 19,.move (.t 0),none,0,0⟩,⟨some 20,.move (.t 1),none,0,0⟩,⟨some 21,.call (.c (.fn 99 [] [])) [(.t 19),(.t 20)],none,0,3⟩,⟨some 22,.move (.t 21),none,0,7⟩,⟨some 23,.move (.t 2),(some (22,true)),0,15⟩,⟨some 24,.bin .geq (.t 23) (.c (.int .i64 0)),(some (22,true)),0,31⟩,⟨some 25,.pick (.t 22) (.t 24) (.c (.bool false)),none,0,63⟩,⟨some 26,.move (.t 25),none,0,127⟩,⟨some 27,.move (.t 2),(some (26,true)),0,255⟩,⟨some 28,.move (.t 7),(some (26,true)),0,255⟩,⟨some 29,.bin .leq (.t 27) (.t 28),(some (26,true)),0,1023⟩,⟨some 30,.pick (.t 26) (.t 29) (.c (.bool false)),none,0,2047⟩,⟨some 6,.move (.t 30),none,0,4095⟩]
def f91c : ACode :=
 .seq (.region false f91r0 [0,1,2] 0)
 (.seq (.seq (.region false f91r1 [0,1,2,9] 0)
 (.cond (.t 9)
  (.seq (.region false f91r2 [6] 0)
  (.ret))
  (.skip)))
 (.seq (.region false f91r3 [0,1,2,7] 0)
 (.seq (.seq (.region false f91r4 [0,1,2,7,18] 0)
 (.cond (.t 18)
  (.region false f91r5 [0,1,2,7] 0)
  (.skip)))
 (.seq (.region false f91r6 [6] 0)
 (.ret)))))
def f91 : AFn := ⟨3,31,[.tmp 6],f91c,1,none⟩
def f91k : List (Nat × List Nat) := [(0,[0,1,2]),(1,[0,1,2,9]),(2,[6]),(3,[0,1,2,7]),(4,[0,1,2,7,18]),(5,[0,1,2,7]),(6,[6])]
def f91v : List Nat := []
def f93r0 : List AOper := [⟨some 4,.move (.c (.bool false)),none,0,0⟩]
def f93r1 : List AOper := [⟨some 5,.move (.t 0),none,0,0⟩,⟨some 6,.len 0 (.t 5),none,0,1⟩,⟨some 7,.move (.t 1),none,0,0⟩,⟨some 8,.len 0 (.t 7),none,0,4⟩,⟨some 9,.bin .geq (.t 6) (.t 8),none,0,15⟩,⟨some 10,.move (.t 9),none,0,31⟩,⟨some 11,.move (.t 0),(some (10,true)),0,63⟩,⟨some 12,.move (.t 1),(some (10,true)),0,63⟩,⟨some 13,.len 0 (.t 12),(some (10,true)),0,191⟩,⟨some 14,.strSlice (.t 11) none (some (.t 13)),(some (10,true)),0,511⟩,⟨some 15,.move (.t 1),(some (10,true)),0,63⟩,⟨some 16,.bin .eql (.t 14) (.t 15),(some (10,true)),0,2047⟩,⟨some 17,.pick (.t 10) (.t 16) (.c (.bool false)),none,0,4095⟩,⟨some 4,.move (.t 17),none,0,8191⟩]
def f93c : ACode :=
 .seq (.region false f93r0 [0,1] 0)
 (.seq (.region false f93r1 [4] 0)
 (.ret))
def f93 : AFn := ⟨2,18,[.tmp 4],f93c,1,none⟩
def f93k : List (Nat × List Nat) := [(0,[0,1]),(1,[4])]
def f93v : List Nat := []
def f98r0 : List AOper := [⟨some 2,.move (.c (.int .i64 0)),none,0,0⟩]
def f98r1 : List AOper := [⟨some 3,.move (.t 0),none,0,0⟩]
def f98r2 : List AOper := [⟨some 5,.bin .eql (.t 3) (.c (.int .i64 2)),none,0,0⟩,⟨some 4,.move (.t 5),none,0,1⟩]
def f98r3 : List AOper := [⟨some 6,.bin .eql (.t 3) (.c (.int .i64 3)),none,0,0⟩,⟨some 4,.move (.t 6),none,0,1⟩]
def f98r4 : List AOper := [⟨some 7,.bin .eql (.t 3) (.c (.int .i64 4)),none,0,0⟩,⟨some 4,.move (.t 7),none,0,1⟩]
def f98r5 : List AOper := [⟨some 8,.bin .eql (.t 3) (.c (.int .i64 5)),none,0,0⟩,⟨some 4,.move (.t 8),none,0,1⟩]
def f98r6 : List AOper := [⟨some 2,.move (.c (.int .i64 1)),none,0,0⟩]
def f98r7 : List AOper := [⟨some 10,.bin .eql (.t 3) (.c (.int .i64 6)),none,0,0⟩,⟨some 9,.move (.t 10),none,0,1⟩]
def f98r8 : List AOper := [⟨some 11,.bin .eql (.t 3) (.c (.int .i64 7)),none,0,0⟩,⟨some 9,.move (.t 11),none,0,1⟩]
def f98r9 : List AOper := [⟨some 2,.move (.c (.int .i64 2)),none,0,0⟩]
def f98r10 : List AOper := [⟨some 13,.bin .eql (.t 3) (.c (.int .i64 8)),none,0,0⟩,⟨some 12,.move (.t 13),none,0,1⟩]
def f98r11 : List AOper := [⟨some 14,.bin .eql (.t 3) (.c (.int .i64 9)),none,0,0⟩,⟨some 12,.move (.t 14),none,0,1⟩]
def f98r12 : List AOper := [⟨some 15,.bin .eql (.t 3) (.c (.int .i64 10)),none,0,0⟩,⟨some 12,.move (.t 15),none,0,1⟩]
def f98r13 : List AOper := [⟨some 16,.bin .eql (.t 3) (.c (.int .i64 11)),none,0,0⟩,⟨some 12,.move (.t 16),none,0,1⟩]
def f98r14 : List AOper := [⟨some 17,.bin .eql (.t 3) (.c (.int .i64 12)),none,0,0⟩,⟨some 12,.move (.t 17),none,0,1⟩]
def f98r15 : List AOper := [⟨some 18,.bin .eql (.t 3) (.c (.int .i64 13)),none,0,0⟩,⟨some 12,.move (.t 18),none,0,1⟩]
def f98r16 : List AOper := [⟨some 2,.move (.c (.int .i64 4)),none,0,0⟩]
def f98r17 : List AOper := [⟨some 2,.move (.c (.int .i64 0)),none,0,0⟩]
def f98c : ACode :=
 .seq (.region false f98r0 [0] 0)
 (.seq (.seq (.region false f98r1 [3] 0)
 (.block 0 (.seq (.seq (.region false f98r2 [3,4] 0)
  (.cond (.t 4)
   (.skip)
   (.seq (.region false f98r3 [3,4] 0)
   (.cond (.t 4)
    (.skip)
    (.seq (.region false f98r4 [3,4] 0)
    (.cond (.t 4)
     (.skip)
     (.region false f98r5 [3,4] 0)))))))
  (.cond (.t 4)
   (.seq (.region false f98r6 [2] 0)
   (.ret))
   (.seq (.seq (.region false f98r7 [3,9] 0)
   (.cond (.t 9)
    (.skip)
    (.region false f98r8 [3,9] 0)))
   (.cond (.t 9)
    (.seq (.region false f98r9 [2] 0)
    (.ret))
    (.seq (.seq (.region false f98r10 [3,12] 0)
    (.cond (.t 12)
     (.skip)
     (.seq (.region false f98r11 [3,12] 0)
     (.cond (.t 12)
      (.skip)
      (.seq (.region false f98r12 [3,12] 0)
      (.cond (.t 12)
       (.skip)
       (.seq (.region false f98r13 [3,12] 0)
       (.cond (.t 12)
        (.skip)
        (.seq (.region false f98r14 [3,12] 0)
        (.cond (.t 12)
         (.skip)
         (.region false f98r15 [12] 0)))))))))))
    (.cond (.t 12)
     (.seq (.region false f98r16 [2] 0)
     (.ret))
     (.skip)))))))))
 (.seq (.region false f98r17 [2] 0)
 (.ret)))
def f98 : AFn := ⟨1,19,[.tmp 2],f98c,1,none⟩
def f98k : List (Nat × List Nat) := [(0,[0]),(1,[3]),(2,[3,4]),(3,[3,4]),(4,[3,4]),(5,[3,4]),(7,[3,9]),(8,[3,9]),(10,[3,12]),(11,[3,12]),(12,[3,12]),(13,[3,12]),(14,[3,12]),(15,[12]),(16,[2]),(9,[2]),(6,[2]),(17,[2])]
def f98v : List Nat := []
def f99r0 : List AOper := [⟨some 4,.move (.c (.bool false)),none,0,0⟩]
def f99r1 : List AOper := [⟨some 6,.move (.t 0),none,0,0⟩,⟨some 7,.move (.t 1),none,0,0⟩,⟨some 8,.call (.c (.fn 35 [] [])) [(.t 6),(.t 7)],none,0,3⟩,⟨some 5,.move (.t 8),none,0,7⟩]
def f99r2 : List AOper := [⟨some 9,.move (.t 5),none,0,0⟩,⟨some 10,.bin .gtr (.t 9) (.c (.int .i64 1)),none,0,1⟩,⟨some 11,.move (.t 10),none,0,3⟩,⟨some 12,.move (.t 5),(some (11,true)),0,7⟩,⟨some 13,.bin .leq (.t 12) (.c (.int .i64 12)),(some (11,true)),0,15⟩,⟨some 14,.pick (.t 11) (.t 13) (.c (.bool false)),none,0,31⟩,⟨some 4,.move (.t 14),none,0,63⟩]
def f99c : ACode :=
 .seq (.region false f99r0 [0,1] 0)
 (.seq (.region false f99r1 [5] 0)
 (.seq (.region false f99r2 [4] 0)
 (.ret)))
def f99 : AFn := ⟨2,15,[.tmp 4],f99c,1,none⟩
def f99k : List (Nat × List Nat) := [(0,[0,1]),(1,[5]),(2,[4])]
def f99v : List Nat := []
end Go.Proofs.YtfhijkapcdmdnaaDoor
