/- Two orders of the same places are one; what is left of an order of one more. -/
import Derived.Test.YtgcoodameahkbaaDoorStO7
namespace Go.Proofs.YtgcoodameahkbaaDoor.Stable
set_option linter.unusedVariables false
set_option linter.unusedSimpArgs false
open Go.Proofs.YtgcoodameahkbaaDoor.Fl

/-- Two orders of the same places are one. -/
theorem sorted_unique {α : Type} (lt : α → α → Prop) (irr : ∀ a b, lt a b → lt b a → False) : ∀ (l m : List α), l.Perm m → l.Pairwise lt → m.Pairwise lt → l = m
  | [], m, h, _, _ => by rw [List.nil_perm.1 h]
  | a :: l, m, h, hl, hm => by
    obtain ⟨b, m, rfl⟩ : ∃ b m', m = b :: m' := by
      cases m with
      | nil => exact absurd (List.perm_nil.1 h) (by simp)
      | cons b m => exact ⟨b, m, rfl⟩
    have hab : a = b := by
      have ha : a ∈ b :: m := h.mem_iff.1 (by simp)
      have hb : b ∈ a :: l := h.mem_iff.2 (by simp)
      rcases List.mem_cons.1 ha with e | ha
      · exact e
      · rcases List.mem_cons.1 hb with e | hb
        · exact e.symm
        · exact absurd (irr a b (List.rel_of_pairwise_cons hl hb) (List.rel_of_pairwise_cons hm ha)) id
    subst hab
    rw [sorted_unique lt irr l m (List.Perm.cons_inv h) hl.of_cons hm.of_cons]
theorem IsOrd.pairwise {xs : List Nat} {n : Nat} {os : List Nat} (h : IsOrd xs n os) (hn : n ≤ 64) : os.Pairwise fun i j => keyL xs i < keyL xs j := by
  rw [List.pairwise_iff_getElem]
  intro i j hi hj hij
  have hl := h.len
  have := h.strict hn i j hij (by omega)
  rw [List.getD_eq_getElem?_getD, List.getD_eq_getElem?_getD, List.getElem?_eq_getElem hi, List.getElem?_eq_getElem hj] at this
  exact this
/-- The order is one. -/
theorem IsOrd.unique {xs : List Nat} {n : Nat} {os ps : List Nat} (h : IsOrd xs n os) (g : IsOrd xs n ps) (hn : n ≤ 64) : os = ps :=
  sorted_unique _ (fun a b h1 h2 => by omega) os ps (h.perm.trans g.perm.symm) (h.pairwise hn) (g.pairwise hn)
/-- What is left of an order of one more. -/
theorem IsOrd.rest {xs : List Nat} {b n : Nat} {ps : List Nat} (hl : xs.length = n) (h : IsOrd (xs ++ [b]) (n + 1) ps) (hn : n + 1 ≤ 64) {os : List Nat} (g : IsOrd xs n os) : ps.filter (fun i => i != n) = os := by
  refine sorted_unique (fun i j => keyL xs i < keyL xs j) (fun a b h1 h2 => by omega) _ _ ?_ ?_ (g.pairwise (by omega))
  · refine (h.perm.filter _).trans (List.Perm.trans ?_ g.perm.symm)
    rw [List.range_succ, List.filter_append]
    have e1 : (List.range n).filter (fun i => i != n) = List.range n := List.filter_eq_self.2 fun i hi => by
      have := List.mem_range.1 hi
      simp; omega
    have e2 : ([n] : List Nat).filter (fun i => i != n) = [] := by simp
    rw [e1, e2, List.append_nil]
  · have hp := (h.pairwise hn).filter (fun i => i != n)
    refine hp.imp_of_mem fun {i j} hi hj hij => ?_
    have hi' := (List.mem_filter.1 hi)
    have hj' := (List.mem_filter.1 hj)
    have i1 : i < n := by have := List.mem_range.1 (h.perm.mem_iff.1 hi'.1); have := hi'.2; simp at this; omega
    have j1 : j < n := by have := List.mem_range.1 (h.perm.mem_iff.1 hj'.1); have := hj'.2; simp at this; omega
    unfold keyL at hij ⊢
    rw [getD_append_lt xs b i (by omega), getD_append_lt xs b j (by omega)] at hij
    exact hij
end Go.Proofs.YtgcoodameahkbaaDoor.Stable
