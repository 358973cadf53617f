/- The law ScoreBest returns true, for every list of numbers. -/
import Derived.Test.YtgcoodameahkbaaDoorStL8
namespace Go.Proofs.YtgcoodameahkbaaDoor.Fl
set_option linter.unusedVariables false
set_option linter.unusedSimpArgs false
open Go.RowKit Go.Proofs.YtgcoodameahkbaaDoor.Stable

/-- the first n whole numbers, as words -/
def wordsOf (zs : List Int) (n : Nat) : List Nat := (zs.take n).map Int.toNat
theorem wordsOf_len (zs : List Int) (n : Nat) (h : n ≤ zs.length) : (wordsOf zs n).length = n := by simp [wordsOf]; omega
theorem wordsOf_at (zs : List Int) (n k : Nat) (h : n ≤ zs.length) (hk : k < n) : (wordsOf zs n).getD k 0 = (zs.getD k 0).toNat := by
  unfold wordsOf
  rw [List.getD_eq_getElem?_getD, List.getD_eq_getElem?_getD, List.getElem?_map, List.getElem?_take_of_lt hk, List.getElem?_eq_getElem (by omega)]; rfl
theorem wordsOf_mem (zs : List Int) (n k : Nat) (h : n ≤ zs.length) (hk : k < n) : zs.getD k 0 ∈ zs := by
  rw [List.getD_eq_getElem?_getD, List.getElem?_eq_getElem (by omega)]; exact List.getElem_mem _
theorem wordsOf_get (zs : List Int) (n : Nat) (h : n ≤ zs.length) (hz : ∀ z ∈ zs, 0 ≤ z ∧ z < 18446744073709551616) (k : Nat) (hk : k < n) : (((wordsOf zs n).getD k 0 : Nat) : Int) = zs.getD k 0 := by
  rw [wordsOf_at zs n k h hk]
  have := hz _ (wordsOf_mem zs n k h hk)
  omega
theorem wordsOf_lt (zs : List Int) (n : Nat) (hz : ∀ z ∈ zs, 0 ≤ z ∧ z < 18446744073709551616) (k : Nat) (_ : k < n) : (wordsOf zs n).getD k 0 < 18446744073709551616 := by
  rw [List.getD_eq_getElem?_getD]
  unfold wordsOf
  rw [List.getElem?_map]
  cases h : (zs.take n)[k]? with
  | none => simp
  | some z =>
    have := hz z (List.mem_of_mem_take (List.mem_of_getElem? h))
    simp
    omega

theorem run_append_nils (W : World) (ty : TypeId) : (Builtin.append_ #[34, 34] ty #[.slice none 0 0, .slice none 0 0]).run Tryd.prog W = .ok (.slice none 0 0) W := by
  obtain ⟨i0, hi, hz0, hz1, hz2⟩ := info_parts info24
  simp [Builtin.append_, run_underlying Tryd.underlying34, sizeOf, typeInfo, hi, Builtin.lenOf, Builtin.firstCells]

set_option maxHeartbeats 1000000 in
theorem best_empty (A : Option Addr) (c : Nat) (w : World) :
    Calls Tryd.prog 8 #[.slice A 0 c] w fun e w' => e = .returned (.bool true) ∧ Below w.heap.size w w' := by
  obtain ⟨i0, hi, hz0, hz1, hz2⟩ := info_parts info24
  have hnils := run_append_nils
  have CB : Hid (∀ g c W, W.cell? ⟨g, 0 + 0, none⟩ = some (.float .f64 nanC) → Calls Tryd.prog 27 #[.slice (some ⟨g, 0, none⟩) 1 c] W fun e w' => e = .returned (.int .i64 (-1)) ∧ W = w') := fun g c W hW => by
    have h := best_any g 0 1 c [nanC] W (by omega) (fun k hk => by obtain rfl : k = 0 := by omega
                                                                   decide) (fun k hk => by obtain rfl : k = 0 := by omega
                                                                                           exact hW)
    have e : bestTo [nanC] 1 = -1 := by
      rw [bestTo, show ([nanC] : List Nat).getD 0 0 = nanC from rfl, show nanB nanC = true by kernel_rfl]; simp [bestTo]
    rw [e] at h
    exact h
  go_enter Tryd.func8, Tryd.ntmps8
  go_wp2_with (first | (go_at_call 25; (with_reducible refine (numbers_none _ _ _).mono ?_); rintro e w1 ⟨rfl, rfl⟩) | (go_at_call 27; (with_reducible refine (best_none _ _ _).mono ?_); rintro e w' ⟨rfl, rfl⟩))
  clear hnils
  go_wp2_with (first | (go_at_call 21; (with_reducible refine (nan_any _).mono ?_); rintro e w' ⟨rfl, rfl⟩) | (at_builtin; refine wpList_append_own_at _ rfl (.tmp 16) (.tmp 18) 34 rfl w.heap.size 24 i0 (.float .f64 0) 1 8 Tryd.underlying34 hi hz0 hz1 hz2 rfl (by decide) _ 0 [] rfl (World.ownsRow_nil _ _ _ _) ⟨w.heap.size, 0, none⟩ 1 1 [.float .f64 nanC] rfl rfl (new_cell _ _ _) (by simp [Value.oneCell']) (by unfold maxLen; omega) (by omega) (by simp) ?_; intro v3 w3 ho3 hgr3 _ _))
  obtain ⟨g3, cap3, rfl, _, _, _, _, hc3⟩ := own_form ho3 (by omega)
  have HB3 : Aside (Below w.heap.size w w3) := ((Below.refl _ w).alloc (Nat.le_refl _) _).grown hgr3 (by simp) (fun k hk => by cases hk)
  have CB3 := Lib.hid (CB.out g3 cap3 w3 (by rw [Nat.zero_add, hc3 0 (by omega)]; rfl))
  have CO := Lib.hid (order_none [] none 0 w3)
  clear ho3 hgr3 hc3 CB
  go_wp2_with (first | (go_at_call 27; (with_reducible refine CB3.out.mono ?_); rintro e w' ⟨rfl, rfl⟩))
  with_reducible refine CO.out.mono ?_
  rintro e w4 ⟨G, os, rfl, ho, hown, hbel⟩
  have HB5 : Aside (Below w.heap.size w w4) := below_next HB3.out hbel
  clear ho hown hbel CO CB3 HB3
  go_wp2_with (first | (go_at_call 17; refine (awake_any _).mono ?_; rintro e w5 ⟨rfl, hb5⟩))
  go_ret
  exact ⟨rfl, below_next HB5.out hb5⟩

/-- purlinlaw1.ScoreBest. -/
theorem best_all (zs : List Int) (n c : Nat) (A : Option Addr) (w : World) (hn : n ≤ maxLen) (hl : n ≤ zs.length) (hz : ∀ z ∈ zs, 0 ≤ z ∧ z < 18446744073709551616)
    (hA : 0 < n → ∃ b off, A = some ⟨b, off, none⟩ ∧ b < w.heap.size ∧ ∀ k, k < n → w.cell? ⟨b, off + k, none⟩ = some (.int .u64 (zs.getD k 0))) :
    Calls Tryd.prog 8 #[.slice A n c] w fun e w' => e = .returned (.bool true) ∧ Below w.heap.size w w' := by
  by_cases h30 : 30 < n
  · exact best_long A n c w h30 hn
  · by_cases h0 : 0 < n
    · obtain ⟨b, off, rfl, hb, hc⟩ := hA h0
      exact best_law (wordsOf zs n) n b off c w h0 (by omega) (wordsOf_len zs n hl) hb (wordsOf_lt zs n hz) (fun k hk => by rw [wordsOf_get zs n hl hz k hk]; exact hc k hk)
    · obtain rfl : n = 0 := by omega
      exact best_empty A c w
end Go.Proofs.YtgcoodameahkbaaDoor.Fl
