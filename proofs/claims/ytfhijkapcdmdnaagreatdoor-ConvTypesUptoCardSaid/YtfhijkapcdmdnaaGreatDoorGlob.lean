/- What is known of the seat's variables, and which functions have no body. Printed by a program. -/
import Derived.Test.YtfhijkapcdmdnaaGreatDoorAmV
import Derived.Test.YtfhijkapcdmdnaaGreatDoorProg
import Derived.KernelRfl
import Derived.Shelf.Vars
namespace Go.Proofs.YtfhijkapcdmdnaaGreatDoor
open Go.AM
set_option maxRecDepth 100000
def gl1 : List AV := (dataRow Rows.laid_unicode_utf8_acceptRanges).getD []
def gl0 : List AV := (dataRow Rows.laid_unicode_utf8_first).getD []
def G : GTab := ⟨fun g => match g with
  | 1 => some gl1
  | 0 => some gl0
  | _ => none, fun f => match f with
  | _ => none, [2]⟩

theorem xok : XOK Tryz.prog G := by
  intro f k h
  cases h
theorem ints_ok {W : World} (h : W.ShapedOpen Tryz.prog) : ∀ g ∈ G.ints, ∃ m, W.cell? ⟨g, 0, none⟩ = some (.int .i64 m) := by
  intro g hg
  simp only [G, List.mem_cons, List.not_mem_nil, or_false] at hg
  subst hg
  exact Go.Proofs.cell_of_shapedOpen_int (zero := #[.int .i64 0]) (t := 3) h (of_decide_eq_true (by kernel_rfl)) (by kernel_rfl) rfl (by kernel_rfl) (by kernel_rfl) (by kernel_rfl)
theorem gok {laid : List (String × DataW Unit)} {W : World} (h : laidMet Tryz.prog laid W) (h1 : ("unicode/utf8.acceptRanges", Rows.laid_unicode_utf8_acceptRanges) ∈ laid) (h0 : ("unicode/utf8.first", Rows.laid_unicode_utf8_first) ∈ laid) (hi : ∀ g ∈ G.ints, ∃ m, W.cell? ⟨g, 0, none⟩ = some (.int .i64 m)) : GOK G W (fun b _ => b < W.heap.size) := by
  refine ⟨?_, fun g hg => by
    obtain ⟨m, hm⟩ := hi g hg
    refine ⟨?_, m, hm⟩
    unfold World.cell? at hm
    split at hm
    · rename_i h0; exact (Array.getElem?_eq_some_iff.1 h0).1
    · cases hm⟩
  intro g row hg
  unfold G at hg
  dsimp only at hg
  split at hg
  · cases hg; exact laid_ip h h1 (t := 205) (s := (.arr 16 (.st [(.int .u8), (.int .u8)]))) (by kernel_rfl) (by kernel_rfl) (by kernel_rfl) (by kernel_rfl)
  · cases hg; exact laid_ip h h0 (t := 202) (s := (.arr 256 (.int .u8))) (by kernel_rfl) (by kernel_rfl) (by kernel_rfl) (by kernel_rfl)
  · cases hg
end Go.Proofs.YtfhijkapcdmdnaaGreatDoor
