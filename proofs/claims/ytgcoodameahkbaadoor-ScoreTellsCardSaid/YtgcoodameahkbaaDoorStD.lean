/- Blocks of twenty, each in its order. -/
import Derived.Test.YtgcoodameahkbaaDoorStC
namespace Go.Proofs.YtgcoodameahkbaaDoor.Stable
set_option linter.unusedVariables false
set_option linter.unusedSimpArgs false
open Go.Sort
variable {α : Type} [Inhabited α]

/-- the place, as a whole number -/
def pl (P : α → Nat) (x : α) : Int := (P x : Int)

/-- Insertion sorts by the keys, where the places stand in their order. -/
theorem ins_done (lt : α → α → Bool) (K : α → Int) (d : Array α) (a b : Nat) (hab : a ≤ b) (hb : b ≤ d.size) (h : ∀ k l, a ≤ k → k < l → l < b → (lt d[l]! d[k]! = true ↔ K d[l]! < K d[k]!)) : Done K a b d (insertionSort lt d a b) := by
  have e : insertionSort lt d a b = insertionSort (ltK K) d a b := ins_same lt (ltK K) d a b hb fun k l h1 h2 h3 => by
    rw [Bool.eq_iff_iff, h k l h1 h2 h3, ltK_true]
  rw [e]
  have := insertionSort_holds (lt := ltK K) (ltK_swo K) d a b hab hb
  exact ⟨this.1, fun i j h1 h2 h3 => ltK_false.1 (this.2 i j h1 h2 h3)⟩

/-- Blocks of twenty: the first c are in their order; nothing has left its block; behind them all is as it was. -/
structure Blks (P : α → Nat) (K : α → Int) (n c : Nat) (d dk : Array α) : Prop where
  perm : PermIn 0 n d dk
  ord : ∀ i j, i < j → j < n → j < 20 * c → i / 20 = j / 20 → K dk[i]! ≤ K dk[j]!
  pl : ∀ k, k < n → P dk[k]! / 20 = k / 20
  rest : ∀ k, 20 * c ≤ k → dk[k]! = d[k]!

theorem Blks.zero {P : α → Nat} {K : α → Int} {n : Nat} {d : Array α} (hP : ∀ k, k < n → P d[k]! = k) : Blks P K n 0 d d :=
  ⟨permIn_refl d 0 n, fun i j h1 h2 h3 => by omega, fun k hk => by rw [hP k hk], fun k _ => rfl⟩

theorem Blks.step {P : α → Nat} {K : α → Int} {n c e : Nat} {d dk d' : Array α} (h : Blks P K n c d dk) (hn : n ≤ d.size) (hc : 20 * c ≤ e) (he : e ≤ n) (he2 : e ≤ 20 * c + 20) (hfull : e = 20 * c + 20 ∨ e = n) (D : Done K (20 * c) e dk d') : Blks P K n (c + 1) d d' := by
  have hs : dk.size = d.size := h.perm.1
  refine ⟨permIn_trans _ _ _ 0 n h.perm (permIn_mono _ _ _ _ _ _ (by omega) he (by omega) D.perm), fun i j h1 h2 h3 h4 => ?_, fun k hk => ?_, fun k hk => ?_⟩
  · by_cases c1 : j < 20 * c
    · rw [D.perm.2.1 i (by omega), D.perm.2.1 j (by omega)]
      exact h.ord i j h1 h2 c1 h4
    · exact D.ord i j (by omega) h1 (by omega)
  · by_cases c1 : k < 20 * c
    · rw [D.perm.2.1 k (by omega)]; exact h.pl k hk
    · by_cases c2 : k < e
      · have := permIn_all dk d' (20 * c) e (fun y => P y / 20 = c) (by omega) D.perm (fun q h1 h2 => by
          have := h.pl q (by omega)
          omega) k (by omega) c2
        omega
      · rw [D.perm.2.1 k (by omega)]; exact h.pl k hk
  · by_cases c1 : k < n
    · rw [D.perm.2.1 k (by omega)]; exact h.rest k (by omega)
    · rw [D.perm.2.1 k (by omega)]; exact h.rest k (by omega)

/-- What is told of the first parts' blocks: all is in its blocks. -/
theorem Blks.all {P : α → Nat} {K : α → Int} {n c : Nat} {d dk : Array α} (h : Blks P K n c d dk) (hc : n ≤ 20 * c) (hn : n ≤ 20) : Done K 0 n d dk :=
  ⟨h.perm, fun i j _ h1 h2 => h.ord i j h1 h2 (by omega) (by omega)⟩
theorem Blks.two {P : α → Nat} {K : α → Int} {n c : Nat} {d dk : Array α} (h : Blks P K n c d dk) (hc : n ≤ 20 * c) (hn0 : 20 ≤ n) (hn : n ≤ 40) : Two (Stable.pl P) K 0 20 n dk :=
  ⟨fun i j _ h1 h2 => h.ord i j h1 (by omega) (by omega) (by omega), fun i j h0 h1 h2 => h.ord i j h1 h2 (by omega) (by omega), fun i j _ h1 h2 h3 => by
    have a1 := h.pl i (by omega)
    have a2 := h.pl j (by omega)
    show (P _ : Int) < (P _ : Int)
    omega⟩
end Go.Proofs.YtgcoodameahkbaaDoor.Stable
