/- What is known of the seat's variables, and which functions have no body. Printed by a program. -/
import Derived.Test.YtfhijkapcdmdnaaAmV
import Derived.Test.YtfhijkapcdmdnaaProg
import Derived.KernelRfl
import Derived.Shelf.Vars
namespace Go.Proofs.Ytfhijkapcdmdnaa
open Go.AM
set_option maxRecDepth 100000
def G : GTab := ⟨fun g => match g with
  | _ => none, fun f => match f with
  | _ => none, []⟩

theorem xok : XOK Try.prog G := by
  intro f k h
  cases h
theorem ints_ok {W : World} (_ : W.ShapedOpen Try.prog) : ∀ g ∈ G.ints, ∃ m, W.cell? ⟨g, 0, none⟩ = some (.int .i64 m) := by
  intro g hg
  cases hg
theorem gok {laid : List (String × DataW Unit)} {W : World} (h : laidMet Try.prog laid W) (hi : ∀ g ∈ G.ints, ∃ m, W.cell? ⟨g, 0, none⟩ = some (.int .i64 m)) : GOK G W (fun b _ => b < W.heap.size) := by
  refine ⟨?_, fun g hg => by
    obtain ⟨m, hm⟩ := hi g hg
    refine ⟨?_, m, hm⟩
    unfold World.cell? at hm
    split at hm
    · rename_i h0; exact (Array.getElem?_eq_some_iff.1 h0).1
    · cases hm⟩
  intro g row hg
  · cases hg
end Go.Proofs.Ytfhijkapcdmdnaa
