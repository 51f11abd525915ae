/- Chapter 7: what must come at any rate; a table that no call made is refused by all. Both reckoned by the kernel. -/
import Derived.Test.YtkgpdillhnmpdaaFns
namespace Go.Proofs.Ytkgpdillhnmpdaa
open Go.AM
theorem heads_ok (h : Heap) : Ccall tab 8 [] h = some (.bool true, h) := by
  refine Ccall_run (w := []) 1000 ?_
  kernel_rfl
theorem nobody_ok (s : List UInt8) (a b : Int) (h : Heap) : Ccall tab 5 [.str s, .int .i64 a, .int .i64 b] h = some (.bool true, h) := by
  refine Ccall_run (w := []) 1000 ?_
  kernel_rfl
theorem nobody_law : ∀ xs, ArgsL 1048576 f5s xs → ∃ h', Ccall tab 5 xs [] = some (.bool true, h') := by
  intro xs hxs
  unfold f5s at hxs
  simp only [ArgsL, Sh.Arg, Sh.Row] at hxs
  obtain ⟨x, r, rfl, ⟨s, _, hs⟩, y, r2, rfl, ⟨n, _, hn⟩, z, r3, rfl, ⟨m, _, hm⟩, rfl⟩ := hxs
  cases hs
  cases hn
  cases hm
  exact ⟨_, nobody_ok s n m []⟩
end Go.Proofs.Ytkgpdillhnmpdaa
