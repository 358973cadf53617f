/- Merges of nothing. -/
import Derived.Test.YtgcoodameahkbaaDoorStB
namespace Go.Proofs.YtgcoodameahkbaaDoor.Stable
set_option linter.unusedVariables false
set_option linter.unusedSimpArgs false
open Go.Sort
variable {α : Type} [Inhabited α]
theorem Rot.none_left (d : Array α) (m e : Nat) : Rot d d m m e := ⟨rfl, fun _ _ => rfl, fun k h1 h2 => by rw [show k + (m - m) = k by omega], fun k h1 h2 => by omega⟩
theorem Rot.none_right (d : Array α) (s m : Nat) : Rot d d s m m := ⟨rfl, fun _ _ => rfl, fun k h1 h2 => by omega, fun k h1 h2 => by rw [show k - (m - m) = k by omega]⟩
theorem Two.done_left {I K : α → Int} {a b : Nat} {d : Array α} (T : Two I K a a b d) : Done K a b d d := ⟨permIn_refl d a b, fun i j h1 h2 h3 => T.r i j h1 h2 h3⟩
theorem Two.done_right {I K : α → Int} {a b : Nat} {d : Array α} (T : Two I K a b b d) : Done K a b d d := ⟨permIn_refl d a b, fun i j h1 h2 h3 => T.l i j h1 h2 h3⟩
end Go.Proofs.YtgcoodameahkbaaDoor.Stable
