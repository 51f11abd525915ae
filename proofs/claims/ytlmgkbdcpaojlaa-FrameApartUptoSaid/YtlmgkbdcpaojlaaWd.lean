/- Chapter 23: where slots lie, in numbers. -/
import Derived.Test.YtlmgkbdcpaojlaaWc
namespace Go.Proofs.Ytlmgkbdcpaojlaa
open Go.AM
theorem upI_spec (n o : Int) (h0 : 0 ≤ n) (h1 : n ≤ 1000000000000) (ho : o = 1 ∨ o = 2 ∨ o = 4 ∨ o = 8) : n ≤ upI n o ∧ upI n o ≤ n + o - 1 ∧ upI n o % o = 0 := by
  have hd : upI n o = (n + o - 1) / o * o := by
    unfold upI
    rw [wrap64 (n + o) (by omega) (by omega), wrap64 (n + o - 1) (by omega) (by omega), Int.tdiv_eq_ediv_of_nonneg (by omega)]
    rcases ho with rfl | rfl | rfl | rfl <;> (rw [wrap64 ((n + _ - 1) / _) (by omega) (by omega), wrap64 _ (by omega) (by omega)])
  rw [hd]
  rcases ho with rfl | rfl | rfl | rfl <;> omega
/-- The words that slots take, each rounded up. -/
def wordsOf : List (Int × Int) → Int
  | [] => 0
  | (s, _) :: r => (s + 3).tdiv 4 + wordsOf r
theorem wordsOf_snoc (s a : Int) : ∀ l : List (Int × Int), wordsOf (l ++ [(s, a)]) = wordsOf l + (s + 3).tdiv 4 := by
  intro l
  induction l with
  | nil => simp [wordsOf]
  | cons p r ih => obtain ⟨s', a'⟩ := p; simp only [List.cons_append, wordsOf, ih]; omega
theorem fits_inv {s a : Int} (h : fitsS s a = true) : 1 ≤ s ∧ s ≤ 16384 ∧ (a = 1 ∨ a = 2 ∨ a = 4) := by
  simp [fitsS] at h
  omega
theorem snoc_ind {α : Type} {Q : List α → Prop} (h0 : Q []) (h1 : ∀ l x, Q l → Q (l ++ [x])) (l : List α) : Q l := by
  have : ∀ l : List α, Q l.reverse := by
    intro l
    induction l with
    | nil => exact h0
    | cons x r ih => rw [List.reverse_cons]; exact h1 _ _ ih
  have := this l.reverse
  rwa [List.reverse_reverse] at this
/-- How far the first slots reach. -/
theorem ofGo_bound : ∀ {l : List (Int × Int)} {x : List Int} {m : Int}, ofGo l 0 = some (x, m) → l.length ≤ 256 → 0 ≤ m ∧ m ≤ 4 * wordsOf l ∧ 0 ≤ wordsOf l ∧ wordsOf l ≤ 4097 * l.length := by
  intro l
  induction l using snoc_ind with
  | h0 => intro x m h _; simp [ofGo] at h; simp [wordsOf, ← h.2]
  | h1 l p ih =>
    obtain ⟨s, a⟩ := p
    intro x m h hl
    rw [ofGo_snoc] at h
    split at h
    · rename_i y n hy
      split at h
      · rename_i hf
        obtain ⟨f1, f2, f3⟩ := fits_inv hf
        have hll : l.length + 1 ≤ 256 := by simpa using hl
        obtain ⟨i1, i2, i3, i4⟩ := ih hy (by omega)
        obtain ⟨u1, u2, u3⟩ := upI_spec n a i1 (by omega) (by omega)
        simp only [Option.some.injEq, Prod.mk.injEq] at h
        obtain ⟨_, rfl⟩ := h
        rw [wrap64 _ (by omega) (by omega), wordsOf_snoc, Int.tdiv_eq_ediv_of_nonneg (by omega)]
        simp only [List.length_append, List.length_cons, List.length_nil]
        rcases f3 with rfl | rfl | rfl <;> omega
      · cases h
    · cases h
end Go.Proofs.Ytlmgkbdcpaojlaa
