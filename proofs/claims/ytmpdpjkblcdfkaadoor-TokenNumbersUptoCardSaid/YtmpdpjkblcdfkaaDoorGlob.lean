/- What is known of the seat's variables, and which functions have no body. Printed by a program. -/
import Derived.Test.YtmpdpjkblcdfkaaDoorAmV
import Derived.Test.YtmpdpjkblcdfkaaDoorProg
import Derived.KernelRfl
import Derived.Shelf.Vars
namespace Go.Proofs.YtmpdpjkblcdfkaaDoor
open Go.AM
set_option maxRecDepth 100000
def gl4 : List AV := (dataRow Rows.laid_math_bits_deBruijn32tab).getD []
def gl5 : List AV := (dataRow Rows.laid_math_bits_deBruijn64tab).getD []
def gl1 : List AV := (dataRow Rows.laid_internal_strconv_uint64pow10).getD []
def gl3 : List AV := (dataRow Rows.laid_unicode_utf8_acceptRanges).getD []
def gl2 : List AV := (dataRow Rows.laid_unicode_utf8_first).getD []
def G : GTab := ⟨fun g => match g with
  | 4 => some gl4
  | 5 => some gl5
  | 1 => some gl1
  | 3 => some gl3
  | 2 => some gl2
  | _ => none, fun f => match f with
  | 36 => some .count
  | 73 => some .idxByte
  | _ => none, [0]⟩

theorem xok : XOK Tryd.prog G := by
  intro f k h
  unfold G at h
  dsimp only at h
  split at h
  · cases h; exact ⟨Tryd.f36, Tryd.func36, by kernel_rfl, by kernel_rfl, by kernel_rfl, by kernel_rfl⟩
  · cases h; exact ⟨Tryd.f73, Tryd.func73, by kernel_rfl, by kernel_rfl, by kernel_rfl, by kernel_rfl⟩
  · cases h
theorem ints_ok {W : World} (h : W.ShapedOpen Tryd.prog) : ∀ g ∈ G.ints, ∃ m, W.cell? ⟨g, 0, none⟩ = some (.int .i64 m) := by
  intro g hg
  simp only [G, List.mem_cons, List.not_mem_nil, or_false] at hg
  subst hg
  exact Go.Proofs.cell_of_shapedOpen_int (zero := #[.int .i64 0]) (t := 3) h (of_decide_eq_true (by kernel_rfl)) (by kernel_rfl) rfl (by kernel_rfl) (by kernel_rfl) (by kernel_rfl)
theorem gok {laid : List (String × DataW Unit)} {W : World} (h : laidMet Tryd.prog laid W) (h4 : ("math/bits.deBruijn32tab", Rows.laid_math_bits_deBruijn32tab) ∈ laid) (h5 : ("math/bits.deBruijn64tab", Rows.laid_math_bits_deBruijn64tab) ∈ laid) (h1 : ("internal/strconv.uint64pow10", Rows.laid_internal_strconv_uint64pow10) ∈ laid) (h3 : ("unicode/utf8.acceptRanges", Rows.laid_unicode_utf8_acceptRanges) ∈ laid) (h2 : ("unicode/utf8.first", Rows.laid_unicode_utf8_first) ∈ laid) (hi : ∀ g ∈ G.ints, ∃ m, W.cell? ⟨g, 0, none⟩ = some (.int .i64 m)) : GOK G W (fun b _ => b < W.heap.size) := by
  refine ⟨?_, fun g hg => by
    obtain ⟨m, hm⟩ := hi g hg
    refine ⟨?_, m, hm⟩
    unfold World.cell? at hm
    split at hm
    · rename_i h0; exact (Array.getElem?_eq_some_iff.1 h0).1
    · cases hm⟩
  intro g row hg
  unfold G at hg
  dsimp only at hg
  split at hg
  · cases hg; exact laid_ip h h4 (t := 130) (s := (.arr 32 (.int .u8))) (by kernel_rfl) (by kernel_rfl) (by kernel_rfl) (by kernel_rfl)
  · cases hg; exact laid_ip h h5 (t := 131) (s := (.arr 64 (.int .u8))) (by kernel_rfl) (by kernel_rfl) (by kernel_rfl) (by kernel_rfl)
  · cases hg; exact laid_ip h h1 (t := 120) (s := (.arr 20 (.int .u64))) (by kernel_rfl) (by kernel_rfl) (by kernel_rfl) (by kernel_rfl)
  · cases hg; exact laid_ip h h3 (t := 129) (s := (.arr 16 (.st [(.int .u8), (.int .u8)]))) (by kernel_rfl) (by kernel_rfl) (by kernel_rfl) (by kernel_rfl)
  · cases hg; exact laid_ip h h2 (t := 126) (s := (.arr 256 (.int .u8))) (by kernel_rfl) (by kernel_rfl) (by kernel_rfl) (by kernel_rfl)
  · cases hg
end Go.Proofs.YtmpdpjkblcdfkaaDoor
