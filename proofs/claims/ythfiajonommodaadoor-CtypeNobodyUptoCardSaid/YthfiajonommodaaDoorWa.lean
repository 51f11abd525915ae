/- Chapter 3: what must come at any rate; a table that no call made refuses all. Both reckoned by the kernel. -/
import Derived.Test.YthfiajonommodaaDoorFns
namespace Go.Proofs.YthfiajonommodaaDoor
open Go.AM
theorem heads_ok (h : Heap) : Ccall tab 6 [] h = some (.bool true, h) := by
  refine Ccall_run (w := []) 1000 ?_
  kernel_rfl
theorem nobody_ok (s : List UInt8) (a : Int) (rows : List (List AV)) (h : Heap) : Ccall tab 3 [.int .i64 a, .str s, .is rows .no] h = some (.bool true, h) := by
  refine Ccall_run (w := []) 1000 ?_
  kernel_rfl
theorem nobody_law : ∀ xs, ArgsL 1048576 f3s xs → ∃ h', Ccall tab 3 xs [] = some (.bool true, h') := by
  intro xs hxs
  unfold f3s at hxs
  simp only [ArgsL, Sh.Arg, Sh.Row] at hxs
  obtain ⟨x, r, rfl, ⟨n, _, hn⟩, y, r2, rfl, ⟨s, _, hs⟩, z, r3, rfl, ⟨rows, hr, _⟩, rfl⟩ := hxs
  cases hn
  cases hs
  cases hr
  exact ⟨_, nobody_ok s n rows []⟩
end Go.Proofs.YthfiajonommodaaDoor
