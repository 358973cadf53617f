/- What numbers, Best and Order answer of rows that may be nil. -/
import Derived.Test.YtgcoodameahkbaaDoorStL8b
namespace Go.Proofs.YtgcoodameahkbaaDoor.Fl
set_option linter.unusedVariables false
set_option linter.unusedSimpArgs false
open Go.RowKit Go.Proofs.YtgcoodameahkbaaDoor.Stable

/-- A row of floats, nil or not. -/
def FlAt (w : World) (A : Option Addr) (n : Nat) (xs : List Nat) : Prop :=
  0 < n → ∃ g, A = some ⟨g, 0, none⟩ ∧ g < w.heap.size ∧ ∀ j, j < n → w.cell? ⟨g, j, none⟩ = some (.float .f64 (xs.getD j 0))
theorem FlAt.below {w w' : World} {A : Option Addr} {n : Nat} {xs : List Nat} (h : FlAt w A n xs) (hb : Below w.heap.size w w') : FlAt w' A n xs := fun h0 => by
  obtain ⟨g, hA, hg, hc⟩ := h h0
  exact ⟨g, hA, Nat.lt_of_lt_of_le hg hb.size, fun j hj => (hb.cell (p := ⟨g, j, none⟩) hg).trans (hc j hj)⟩
theorem FlAt.drewN {w : World} {A : Option Addr} {n : Nat} {xs : List Nat} (h : FlAt w A n xs) (k : Nat) : FlAt (w.drewN k) A n xs := h
theorem FlAt.of_own {w : World} {B n : Nat} {A : Option Addr} {c : Nat} {xs : List Nat} (h : w.ownsRow B 24 1 (.slice A n c) n (fl xs n)) : FlAt w A n xs := fun h0 => by
  obtain ⟨g, cap, hv, _, hg, _, _, hc⟩ := own_form h h0
  have : A = some ⟨g, 0, none⟩ := by injection hv
  exact ⟨g, this, hg, fun j hj => (hc j hj).trans (fl_get xs n j hj)⟩
theorem own_slice {w : World} {B E n : Nat} {v : Value} {xs : List Value} (h : w.ownsRow B E 1 v n xs) : ∃ A c, v = .slice A n c := by
  rcases h.2 with ⟨rfl, rfl⟩ | ⟨g, cap, cur, rfl, _⟩
  · exact ⟨none, 0, rfl⟩
  · exact ⟨_, _, rfl⟩

/-- What numbers answers. -/
def NumPost (xs : List Nat) (n : Nat) (w : World) (e : Ending) (w' : World) : Prop :=
  ∃ A c, e = .returned (.slice A n c) ∧ w'.ownsRow w.heap.size 24 1 (.slice A n c) n (fl xs n) ∧ Below w.heap.size w w'
/-- Words in a row that came in. -/
def WordsAt (w : World) (A : Option Addr) (n : Nat) (xs : List Nat) : Prop :=
  0 < n → ∃ b off, A = some ⟨b, off, none⟩ ∧ b < w.heap.size ∧ ∀ k, k < n → w.cell? ⟨b, off + k, none⟩ = some (.int .u64 ((xs.getD k 0 : Nat) : Int))
theorem numbers_any (xs : List Nat) (n : Nat) (A : Option Addr) (c : Nat) (w : World) (hn : n ≤ 1000) (h : WordsAt w A n xs) : Calls Tryd.prog 25 #[.slice A n c] w (NumPost xs n w) := by
  by_cases h0 : 0 < n
  · obtain ⟨b, off, rfl, hb, hc⟩ := h h0
    refine (numbers_some xs n b off c w hn hb hc).mono ?_
    rintro e w' ⟨v, he, ho, hbl⟩
    obtain ⟨A, c, rfl⟩ := own_slice ho
    exact ⟨A, c, he, ho, hbl⟩
  · obtain rfl : n = 0 := by omega
    refine (numbers_none A c w).mono ?_
    rintro e w' ⟨he, rfl⟩
    exact ⟨none, 0, he, World.ownsRow_nil _ _ _ _, Below.refl _ _⟩
theorem best_at (xs : List Nat) (n : Nat) (A : Option Addr) (c : Nat) (w : World) (hn : n ≤ 1000000) (h : FlAt w A n xs) (hx : ∀ k, k < n → xs.getD k 0 < 18446744073709551616) :
    Calls Tryd.prog 27 #[.slice A n c] w fun e w' => e = .returned (.int .i64 (bestTo xs n)) ∧ w = w' := by
  by_cases h0 : 0 < n
  · obtain ⟨g, rfl, _, hc⟩ := h h0
    exact best_any g 0 n c xs w hn hx (fun k hk => by rw [Nat.zero_add]; exact hc k hk)
  · obtain rfl : n = 0 := by omega
    exact best_none A c w
theorem order_at (xs : List Nat) (n : Nat) (A : Option Addr) (c : Nat) (w : World) (hn : n ≤ 40) (h : FlAt w A n xs) (hx : ∀ k, k < n → xs.getD k 0 < 18446744073709551616) :
    Calls Tryd.prog 26 #[.slice A n c] w (OrdPost xs n w) :=
  order_any xs n A c w hn (fun h0 => by
    obtain ⟨g, rfl, hg, hc⟩ := h h0
    exact ⟨g, 0, rfl, hg, fun k hk => by rw [Nat.zero_add]; exact hc k hk⟩) hx
/-- Whole numbers in an own row. -/
theorem ints_of_own {w : World} {B G n c : Nat} {os : List Nat} (h : w.ownsRow B 3 1 (.slice (some ⟨G, 0, none⟩) n c) n (os.map fun i : Nat => Value.int .i64 (i : Int))) (j : Nat) (hj : j < n) :
    w.cell? ⟨G, j, none⟩ = some (.int .i64 ((os.getD j 0 : Nat) : Int)) := by
  have hl : os.length = n := by have := h.1; simpa using this
  rw [h.cellAt j (by omega), List.getElem?_map, List.getElem?_eq_getElem (by omega), List.getD_eq_getElem?_getD, List.getElem?_eq_getElem (by omega)]
  rfl
end Go.Proofs.YtgcoodameahkbaaDoor.Fl
