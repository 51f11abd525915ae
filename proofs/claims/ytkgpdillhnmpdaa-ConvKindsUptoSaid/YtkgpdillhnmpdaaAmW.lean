/- The abstract machine: what is looked at first. -/
import Derived.Test.YtkgpdillhnmpdaaAmV
namespace Go.AM

theorem andF_cg {α β γ : Type} {r r' : Option (α × β)} (k : α → β → Option γ) (h : r = r') : andF r k = andF r' k := by rw [h]
theorem onF_cg {r r' : Option AV} (hp : Heap) (h : r = r') : onF r hp = onF r' hp := by rw [h]
theorem bthen_cg {r r' : Option (Ex × Env × Heap)} (k : Env → Heap → Option (Ex × Env × Heap)) (h : r = r') : bthen r k = bthen r' k := by rw [h]
theorem bkeep_cg {r r' : Option (Env × Heap)} (k : List Nat) (h : r = r') : bkeep k r = bkeep k r' := by rw [h]
theorem bcond_cg {v v' : AV} (x y : Option (Ex × Env × Heap)) (h : v = v') : bcond v x y = bcond v' x y := by rw [h]
theorem guardV_cg {v v' : AV} (w : Bool) (x : Option (AV × Heap)) (hp : Heap) (h : v = v') : guardV v w x hp = guardV v' w x hp := by rw [h]
theorem ite_cg {α : Type} {c c' : Prop} [Decidable c] [Decidable c'] (x y : α) (h : c = c') : (if c then x else y) = (if c' then x else y) := by subst h; congr
theorem stepsF_cg (nt : Nat) (step : Nat → AOp → Env → Heap → Option (AV × Heap)) (base : Nat) (l : List AOper) (e : Env) {h h' : Heap} (q : h = h') : stepsF nt step base l e h = stepsF nt step base l e h' := by rw [q]

/-- Both ways. -/
theorem ite_both {α : Type} {c : Prop} [Decidable c] {x y r : α} (h1 : c → x = r) (h2 : ¬ c → y = r) : (if c then x else y) = r := by
  by_cases h : c
  · rw [if_pos h]; exact h1 h
  · rw [if_neg h]; exact h2 h
theorem amLt (a b : Int) : a < b ↔ ¬ b ≤ a := Int.not_le.symm
end Go.AM
