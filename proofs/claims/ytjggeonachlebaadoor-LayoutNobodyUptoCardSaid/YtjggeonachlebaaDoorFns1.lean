/- The seat's functions as the machine's, part 1. Printed by a program. -/
import Derived.Test.YtjggeonachlebaaDoorFns0
namespace Go.Proofs.YtjggeonachlebaaDoor
open Go.AM
set_option maxRecDepth 100000
/-! 58: unicode/utf8.RuneStart, parameters [5], results [4] -/
def f58r0 : List AOper := [
  ⟨(some 2), .move (.c (.bool false)), none, 0, 0⟩]
def f58r1 : List AOper := [
  ⟨(some 3), .move (.t 0), none, 0, 0⟩,
  ⟨(some 4), .bin .and (.t 3) (.c (.int .u8 192)), none, 0, 1⟩,
  ⟨(some 5), .bin .neq (.t 4) (.c (.int .u8 128)), none, 0, 3⟩,
  ⟨(some 2), .move (.t 5), none, 0, 7⟩]
def f58c : ACode :=
  .seq (.region false f58r0 [0] 0)
  (.seq (.region false f58r1 [2] 0)
  (.ret))
def f58 : AFn := ⟨1, 6, [.tmp 2], f58c, 1, none⟩
def f58k : List (Nat × List Nat) := [(0, [0]), (1, [2])]
def f58v : List Nat := []

/-! 59: strings.IndexByte, parameters [9, 5], results [3] -/
def f59r0 : List AOper := [
  ⟨(some 4), .move (.c (.int .i64 0)), none, 0, 0⟩]
def f59r1 : List AOper := [
  ⟨(some 5), .move (.t 0), none, 0, 0⟩,
  ⟨(some 6), .move (.t 1), none, 0, 0⟩,
  ⟨(some 7), .call (.c (.fn 63 [] [])) [(.t 5), (.t 6)], none, 0, 3⟩,
  ⟨(some 4), .move (.t 7), none, 0, 7⟩]
def f59c : ACode :=
  .seq (.region false f59r0 [0, 1] 0)
  (.seq (.region false f59r1 [4] 0)
  (.ret))
def f59 : AFn := ⟨2, 8, [.tmp 4], f59c, 1, none⟩
def f59k : List (Nat × List Nat) := [(0, [0, 1]), (1, [4])]
def f59v : List Nat := []

/-! 60: unicode/utf8.ValidRune, parameters [21], results [4] -/
def f60r0 : List AOper := [
  ⟨(some 2), .move (.c (.bool false)), none, 0, 0⟩]
def f60r1 : List AOper := [
  ⟨(some 4), .move (.t 0), none, 0, 0⟩,
  ⟨(some 5), .bin .leq (.c (.int .i32 0)) (.t 4), none, 0, 1⟩,
  ⟨(some 6), .move (.t 5), none, 0, 3⟩,
  ⟨(some 7), .move (.t 0), (some (6, true)), 0, 7⟩,
  ⟨(some 8), .bin .lss (.t 7) (.c (.int .i32 55296)), (some (6, true)), 0, 15⟩,
  ⟨(some 9), .pick (.t 6) (.t 8) (.c (.bool false)), none, 0, 31⟩,
  ⟨(some 3), .move (.t 9), none, 0, 63⟩]
def f60r2 : List AOper := [
  ⟨(some 2), .move (.c (.bool true)), none, 0, 0⟩]
def f60r3 : List AOper := [
  ⟨(some 11), .move (.t 0), none, 0, 0⟩,
  ⟨(some 12), .bin .lss (.c (.int .i32 57343)) (.t 11), none, 0, 1⟩,
  ⟨(some 13), .move (.t 12), none, 0, 3⟩,
  ⟨(some 14), .move (.t 0), (some (13, true)), 0, 7⟩,
  ⟨(some 15), .bin .leq (.t 14) (.c (.int .i32 1114111)), (some (13, true)), 0, 15⟩,
  ⟨(some 16), .pick (.t 13) (.t 15) (.c (.bool false)), none, 0, 31⟩,
  ⟨(some 10), .move (.t 16), none, 0, 63⟩]
def f60r4 : List AOper := [
  ⟨(some 2), .move (.c (.bool true)), none, 0, 0⟩]
def f60r5 : List AOper := [
  ⟨(some 2), .move (.c (.bool false)), none, 0, 0⟩]
def f60c : ACode :=
  .seq (.region false f60r0 [0] 0)
  (.seq (.block 0 (.seq (.region false f60r1 [0, 3] 0)
    (.cond (.t 3)
      (.seq (.region false f60r2 [2] 0)
      (.ret))
      (.seq (.region false f60r3 [10] 0)
      (.cond (.t 10)
        (.seq (.region false f60r4 [2] 0)
        (.ret))
        (.skip))))))
  (.seq (.region false f60r5 [2] 0)
  (.ret)))
def f60 : AFn := ⟨1, 17, [.tmp 2], f60c, 1, none⟩
def f60k : List (Nat × List Nat) := [(0, [0]), (1, [0, 3]), (3, [10]), (4, [2]), (2, [2]), (5, [2])]
def f60v : List Nat := []

/-! 61: internal/bytealg.Cutover, parameters [3], results [3] -/
def f61r0 : List AOper := [
  ⟨(some 2), .move (.c (.int .i64 0)), none, 0, 0⟩]
def f61r1 : List AOper := [
  ⟨(some 3), .move (.t 0), none, 0, 0⟩,
  ⟨(some 4), .bin .add (.t 3) (.c (.int .i64 16)), none, 0, 1⟩,
  ⟨(some 5), .bin .quo (.t 4) (.c (.int .i64 8)), none, 0, 3⟩,
  ⟨(some 2), .move (.t 5), none, 0, 7⟩]
def f61c : ACode :=
  .seq (.region false f61r0 [0] 0)
  (.seq (.region false f61r1 [2] 0)
  (.ret))
def f61 : AFn := ⟨1, 6, [.tmp 2], f61c, 1, none⟩
def f61k : List (Nat × List Nat) := [(0, [0]), (1, [2])]
def f61v : List Nat := []

/-! 63: internal/stringslite.IndexByte, parameters [9, 5], results [3] -/
def f63r0 : List AOper := [
  ⟨(some 4), .move (.c (.int .i64 0)), none, 0, 0⟩]
def f63r1 : List AOper := [
  ⟨(some 5), .move (.t 0), none, 0, 0⟩,
  ⟨(some 6), .move (.t 1), none, 0, 0⟩,
  ⟨(some 7), .ext .idxByte [(.t 5), (.t 6)], none, 0, 3⟩,
  ⟨(some 4), .move (.t 7), none, 0, 7⟩]
def f63c : ACode :=
  .seq (.region false f63r0 [0, 1] 0)
  (.seq (.region false f63r1 [4] 0)
  (.ret))
def f63 : AFn := ⟨2, 8, [.tmp 4], f63c, 1, none⟩
def f63k : List (Nat × List Nat) := [(0, [0, 1]), (1, [4])]
def f63v : List Nat := []

end Go.Proofs.YtjggeonachlebaaDoor
