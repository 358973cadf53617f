/- What Best answers, by the ranks; what an order's last place is. -/
import Derived.Test.YtgcoodameahkbaaDoorStO5
namespace Go.Proofs.YtgcoodameahkbaaDoor.Fl
set_option linter.unusedVariables false
set_option linter.unusedSimpArgs false
open Go.RowKit Go.Proofs.YtgcoodameahkbaaDoor.Stable

theorem numbers_none (A : Option Addr) (c : Nat) (w : World) : Calls Tryd.prog 25 #[.slice A 0 c] w fun e w' => e = .returned (.slice none 0 0) ∧ w = w' := by
  go_enter Tryd.func25, Tryd.ntmps25
  go_wp2
  go_loop [3, 4] (fun v i => v = .slice none 0 0 ∧ i = .int .i64 0) (fun _ _ => 0)
  case atStart => exact ⟨rfl, rfl⟩
  case round =>
    obtain ⟨rfl, rfl⟩ := hrel
    go_wp2
    go_ret
    exact ⟨rfl, rfl⟩
theorem best_none (A : Option Addr) (c : Nat) (w : World) : Calls Tryd.prog 27 #[.slice A 0 c] w fun e w' => e = .returned (.int .i64 (-1)) ∧ w = w' := by
  go_enter Tryd.func27, Tryd.ntmps27
  go_wp2
  go_loop [3, 8] (fun best i => i = .int .i64 0 ∧ best = .int .i64 (-1)) (fun _ _ => 0)
  case atStart => exact ⟨rfl, rfl⟩
  case round =>
    obtain ⟨rfl, rfl⟩ := hrel
    go_wp2
    go_ret
    exact ⟨rfl, rfl⟩

/-! the ranks of words -/
theorem nan_rank {b : Nat} (hb : b < 18446744073709551616) : nanB b = true ↔ rank b = -9223372036854775808 := by
  unfold rank
  cases h : nanB b
  · have g : b % 9223372036854775808 ≤ 9218868437227405312 := by
      have := mt (nan_iff hb).2 (by rw [h]; decide); omega
    simp only [Bool.false_eq_true, if_false, false_iff]
    split <;> omega
  · simp

/-- What Best answers. -/
theorem best_spec (xs : List Nat) (n : Nat) (hx : ∀ k, k < n → xs.getD k 0 < 18446744073709551616) :
    (bestTo xs n = -1 ∧ ∀ j, j < n → nanB (xs.getD j 0) = true) ∨
    ∃ k : Nat, k < n ∧ bestTo xs n = k ∧ nanB (xs.getD k 0) = false ∧ (∀ j, j < n → rank (xs.getD j 0) ≤ rank (xs.getD k 0)) ∧ (∀ j, j < k → rank (xs.getD j 0) < rank (xs.getD k 0)) := by
  induction n with
  | zero => exact .inl ⟨rfl, fun j h => by omega⟩
  | succ n ih =>
    have ih := ih fun k hk => hx k (by omega)
    have hxn := hx n (by omega)
    unfold bestTo
    cases hn : nanB (xs.getD n 0)
    · rcases ih with ⟨h1, h2⟩ | ⟨k, h1, h2, h3, h4, h5⟩
      · refine .inr ⟨n, by omega, ?_, hn, fun j hj => ?_, fun j hj => ?_⟩
        · rw [h1]; simp
        · by_cases e : j = n
          · rw [e]; exact Int.le_refl _
          · have := (nan_rank (hx j (by omega))).1 (h2 j (by omega))
            have := (rank_bd hxn).1
            omega
        · have := (nan_rank (hx j (by omega))).1 (h2 j (by omega))
          have h6 := (rank_bd hxn).1
          have : ¬ rank (xs.getD n 0) = -9223372036854775808 := fun e => by
            rw [(nan_rank hxn).2 e] at hn; cases hn
          omega
      · have hxk := hx k (by omega)
        rw [h2, Int.toNat_natCast]
        have hd : decide ((k : Int) < 0) = false := decide_eq_false (by omega)
        rw [hd]
        cases hl : lessB (xs.getD k 0) (xs.getD n 0)
        · refine .inr ⟨k, by omega, by simp, h3, fun j hj => ?_, h5⟩
          by_cases e : j = n
          · rw [e]; exact (less_rank_false hxk hxn).1 hl
          · exact h4 j (by omega)
        · have hl' := (less_rank hxk hxn).1 hl
          refine .inr ⟨n, by omega, by simp, hn, fun j hj => ?_, fun j hj => ?_⟩
          · by_cases e : j = n
            · rw [e]; exact Int.le_refl _
            · have := h4 j (by omega); omega
          · have := h4 j (by omega); omega
    · simp only [Bool.not_true, Bool.false_and, Bool.false_eq_true, if_false]
      rcases ih with ⟨h1, h2⟩ | ⟨k, h1, h2, h3, h4, h5⟩
      · refine .inl ⟨h1, fun j hj => ?_⟩
        by_cases e : j = n
        · rw [e]; exact hn
        · exact h2 j (by omega)
      · refine .inr ⟨k, by omega, h2, h3, fun j hj => ?_, h5⟩
        by_cases e : j = n
        · rw [e, (nan_rank hxn).1 hn]; exact (rank_bd (hx k (by omega))).1
        · exact h4 j (by omega)
theorem best_congr (xs ys : List Nat) (n : Nat) (h : ∀ k, k < n → xs.getD k 0 = ys.getD k 0) : bestTo xs n = bestTo ys n := by
  induction n with
  | zero => rfl
  | succ n ih =>
    have ih := ih fun k hk => h k (by omega)
    have hb := bestTo_bd ys n
    unfold bestTo
    rw [ih, h n (by omega)]
    by_cases c : bestTo ys n < 0
    · rw [decide_eq_true c]; simp
    · rw [h (bestTo ys n).toNat (by omega)]
theorem getD_append_lt (xs : List Nat) (b k : Nat) (h : k < xs.length) : (xs ++ [b]).getD k 0 = xs.getD k 0 := by
  rw [List.getD_eq_getElem?_getD, List.getD_eq_getElem?_getD, List.getElem?_append_left h]
theorem getD_append_at (xs : List Nat) (b : Nat) : (xs ++ [b]).getD xs.length 0 = b := by
  rw [List.getD_eq_getElem?_getD, List.getElem?_append_right (Nat.le_refl _)]; simp
theorem best_more_nan (xs : List Nat) (b : Nat) (hb : nanB b = true) : bestTo (xs ++ [b]) (xs.length + 1) = bestTo xs xs.length := by
  rw [bestTo, getD_append_at, hb]
  simp only [Bool.not_true, Bool.false_and, Bool.false_eq_true, if_false]
  exact best_congr _ _ _ fun k hk => getD_append_lt xs b k hk
end Go.Proofs.YtgcoodameahkbaaDoor.Fl
namespace Go.Proofs.YtgcoodameahkbaaDoor.Stable
open Go.Proofs.YtgcoodameahkbaaDoor.Fl

/-! orders -/
theorem IsOrd.len {xs : List Nat} {n : Nat} {os : List Nat} (h : IsOrd xs n os) : os.length = n := by have := h.perm.length_eq; simpa using this
theorem IsOrd.lt {xs : List Nat} {n : Nat} {os : List Nat} (h : IsOrd xs n os) (k : Nat) (hk : k < n) : os.getD k 0 < n := by
  have hl := h.len
  have : os.getD k 0 ∈ os := by
    rw [List.getD_eq_getElem?_getD, List.getElem?_eq_getElem (by omega)]
    exact List.getElem_mem _
  have := h.perm.mem_iff.1 this
  simpa using this
theorem IsOrd.place {xs : List Nat} {n : Nat} {os : List Nat} (h : IsOrd xs n os) (j : Nat) (hj : j < n) : ∃ i, i < n ∧ os.getD i 0 = j := by
  have : j ∈ os := h.perm.mem_iff.2 (by simpa using hj)
  obtain ⟨i, hi, he⟩ := List.getElem_of_mem this
  have hl := h.len
  refine ⟨i, by omega, ?_⟩
  rw [List.getD_eq_getElem?_getD, List.getElem?_eq_getElem hi, he]; rfl
theorem key_inj {xs : List Nat} {i j : Nat} (hi : i < 64) (hj : j < 64) (h : keyL xs i = keyL xs j) : i = j := by
  unfold keyL at h
  omega
theorem IsOrd.lastmax {xs : List Nat} {n : Nat} {os : List Nat} (h : IsOrd xs n os) (hn : n ≤ 64) (j : Nat) (hj : j < n) : rank (xs.getD j 0) ≤ rank (xs.getD (os.getD (n - 1) 0) 0) := by
  obtain ⟨i, hi, he⟩ := h.place j hj
  have hl := h.lt (n - 1) (by omega)
  by_cases e : i = n - 1
  · rw [← he, e]; exact Int.le_refl _
  · have := h.ord i (n - 1) (by omega) (by omega)
    rw [he] at this
    unfold keyL at this
    omega
/-- One after the other, and each place once. -/
theorem IsOrd.strict {xs : List Nat} {n : Nat} {os : List Nat} (h : IsOrd xs n os) (hn : n ≤ 64) (i j : Nat) (hij : i < j) (hj : j < n) : keyL xs (os.getD i 0) < keyL xs (os.getD j 0) := by
  have h1 := h.ord i j hij hj
  by_cases e : keyL xs (os.getD i 0) = keyL xs (os.getD j 0)
  · exfalso
    have h2 := key_inj (by have := h.lt i (by omega); omega) (by have := h.lt j hj; omega) e
    have hnd : os.Nodup := h.perm.nodup_iff.2 List.nodup_range
    have hl := h.len
    have g : ∀ k, (hk : k < n) → os.getD k 0 = os[k]'(by omega) := fun k hk => by
      rw [List.getD_eq_getElem?_getD, List.getElem?_eq_getElem (by omega)]; rfl
    rw [g i (by omega), g j hj] at h2
    have := (List.getElem_inj hnd).1 h2
    omega
  · omega
end Go.Proofs.YtgcoodameahkbaaDoor.Stable
