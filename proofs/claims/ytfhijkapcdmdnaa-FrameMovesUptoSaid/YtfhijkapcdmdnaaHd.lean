/- What must come at any rate: each region is reckoned by the kernel. Printed by a program. -/
import Derived.Test.YtfhijkapcdmdnaaFns
import Derived.Test.YtfhijkapcdmdnaaAmW
namespace Go.Proofs.Ytfhijkapcdmdnaa
open Go.AM
set_option maxRecDepth 100000
set_option linter.unusedSimpArgs false
def hp6_0 : Heap := []
def hp6_1 : Heap := turn hp6_0 [] []
theorem hd6_0 : reckon tab 1000 103 false f6r0 [] 0 (ofL []) hp6_0 = some ([], hp6_1) := by kernel_rfl
def hp6_2 : Heap := turn hp6_1 [] [.cells [.is [[.int .i64 0], [.int .i64 4]] .no, .int .i64 8, .int .i64 20, .int .i64 24]]
theorem hd6_1 : reckon tab 1000 103 false f6r1 [1, 2] 1 (ofL []) hp6_1 = some ([(1, .mp 0 0), (2, .int .i64 0)], hp6_2) := by kernel_rfl
def hp6_3 : Heap := turn hp6_2 [] []
theorem hd6_2 : reckon tab 1000 103 false f6r2 [1, 2, 3, 4] 0 (ofL [(1, .mp 0 0), (2, .int .i64 0)]) hp6_2 = some ([(1, .mp 0 0), (2, .int .i64 0), (3, .is [[.int .i64 10, .int .i64 1], [.int .i64 1, .int .i64 0], [.int .i64 0, .int .i64 10]] .no), (4, .int .i64 0)], hp6_3) := by kernel_rfl
def hp6_4 : Heap := turn hp6_3 [] []
theorem hd6_3 : reckon tab 1000 103 false f6r3 [1, 2, 3, 4, 5, 6] 0 (ofL [(1, .mp 0 0), (2, .int .i64 0), (3, .is [[.int .i64 10, .int .i64 1], [.int .i64 1, .int .i64 0], [.int .i64 0, .int .i64 10]] .no), (4, .int .i64 0)]) hp6_3 = some ([(1, .mp 0 0), (2, .int .i64 0), (3, .is [[.int .i64 10, .int .i64 1], [.int .i64 1, .int .i64 0], [.int .i64 0, .int .i64 10]] .no), (4, .int .i64 0), (5, .is [[.int .i64 2, .int .i64 1], [.int .i64 1, .int .i64 0]] .no), (6, .int .i64 0)], hp6_4) := by kernel_rfl
def hp6_5 : Heap := turn hp6_4 [] []
theorem hd6_4 : reckon tab 1000 103 false f6r4 [1, 2, 3, 4, 5, 6, 7, 8] 0 (ofL [(1, .mp 0 0), (2, .int .i64 0), (3, .is [[.int .i64 10, .int .i64 1], [.int .i64 1, .int .i64 0], [.int .i64 0, .int .i64 10]] .no), (4, .int .i64 0), (5, .is [[.int .i64 2, .int .i64 1], [.int .i64 1, .int .i64 0]] .no), (6, .int .i64 0)]) hp6_4 = some ([(1, .mp 0 0), (2, .int .i64 0), (3, .is [[.int .i64 10, .int .i64 1], [.int .i64 1, .int .i64 0], [.int .i64 0, .int .i64 10]] .no), (4, .int .i64 0), (5, .is [[.int .i64 2, .int .i64 1], [.int .i64 1, .int .i64 0]] .no), (6, .int .i64 0), (7, .is [] .no), (8, .int .i64 0)], hp6_5) := by kernel_rfl
def hp6_6 : Heap := turn hp6_5 [] []
theorem hd6_5 : reckon tab 1000 103 false f6r5 [1, 2, 3, 4, 5, 6, 7, 8, 10] 0 (ofL [(1, .mp 0 0), (2, .int .i64 0), (3, .is [[.int .i64 10, .int .i64 1], [.int .i64 1, .int .i64 0], [.int .i64 0, .int .i64 10]] .no), (4, .int .i64 0), (5, .is [[.int .i64 2, .int .i64 1], [.int .i64 1, .int .i64 0]] .no), (6, .int .i64 0), (7, .is [] .no), (8, .int .i64 0)]) hp6_5 = some ([(1, .mp 0 0), (2, .int .i64 0), (3, .is [[.int .i64 10, .int .i64 1], [.int .i64 1, .int .i64 0], [.int .i64 0, .int .i64 10]] .no), (4, .int .i64 0), (5, .is [[.int .i64 2, .int .i64 1], [.int .i64 1, .int .i64 0]] .no), (6, .int .i64 0), (7, .is [] .no), (8, .int .i64 0), (10, .int .i64 2)], hp6_6) := by kernel_rfl
def hp6_7 : Heap := turn hp6_6 [] [.cells [.is [] .no, .int .i64 0, .int .i64 0, .int .i64 0]]
theorem hd6_6 : reckon tab 1000 103 false f6r6 [1, 2, 3, 4, 5, 6, 7, 8, 10, 12] 1 (ofL [(1, .mp 0 0), (2, .int .i64 0), (3, .is [[.int .i64 10, .int .i64 1], [.int .i64 1, .int .i64 0], [.int .i64 0, .int .i64 10]] .no), (4, .int .i64 0), (5, .is [[.int .i64 2, .int .i64 1], [.int .i64 1, .int .i64 0]] .no), (6, .int .i64 0), (7, .is [] .no), (8, .int .i64 0), (10, .int .i64 2)]) hp6_6 = some ([(1, .mp 0 0), (2, .int .i64 0), (3, .is [[.int .i64 10, .int .i64 1], [.int .i64 1, .int .i64 0], [.int .i64 0, .int .i64 10]] .no), (4, .int .i64 0), (5, .is [[.int .i64 2, .int .i64 1], [.int .i64 1, .int .i64 0]] .no), (6, .int .i64 0), (7, .is [] .no), (8, .int .i64 0), (10, .int .i64 2), (12, .int .i64 250)], hp6_7) := by kernel_rfl
def hp6_8 : Heap := turn hp6_7 [] []
theorem hd6_7 : reckon tab 1000 103 false f6r7 [0] 0 (ofL [(1, .mp 0 0), (2, .int .i64 0), (3, .is [[.int .i64 10, .int .i64 1], [.int .i64 1, .int .i64 0], [.int .i64 0, .int .i64 10]] .no), (4, .int .i64 0), (5, .is [[.int .i64 2, .int .i64 1], [.int .i64 1, .int .i64 0]] .no), (6, .int .i64 0), (7, .is [] .no), (8, .int .i64 0), (10, .int .i64 2), (12, .int .i64 250)]) hp6_7 = some ([(0, .bool true)], hp6_8) := by kernel_rfl
theorem heads_ok (h : Heap) : Ccall tab 6 [] h = some (.bool true, h) := by
  refine Ccall_own rfl rfl rfl rfl ?_
  show bown _ (Brun tab 103 f6c (ofL []) hp6_0) = _
  unfold f6c
  simp only [Brun_seq, Brun_cond, Brun_block, Brun_ret, Brun_exit, Brun_skip, Brun_reckoned hd6_0, Brun_reckoned hd6_1, Brun_reckoned hd6_2, Brun_reckoned hd6_3, Brun_reckoned hd6_4, Brun_reckoned hd6_5, Brun_reckoned hd6_6, Brun_reckoned hd6_7, bthen_normal, bthen_ret, bthen_exit, bblock_normal, bblock_ret, bblock_exit, bcond_bool, ev_t, ev_c, ofL_cons, ofL_nil, if_true, if_false, Bool.false_eq_true, Nat.reduceEqDiff, reduceIte]
  simp [bown_ret, bown_normal, aresults, ares, ofL, Areify_bool]
end Go.Proofs.Ytfhijkapcdmdnaa
