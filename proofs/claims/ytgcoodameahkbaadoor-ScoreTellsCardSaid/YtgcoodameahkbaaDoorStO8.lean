/- What SameInts answers of two rows alike; a copy of a row of floats. -/
import Derived.Test.YtgcoodameahkbaaDoorStP9
import Derived.Laws.AppendOwnNone
namespace Go.Proofs.YtgcoodameahkbaaDoor.Fl
set_option linter.unusedVariables false
set_option linter.unusedSimpArgs false
open Go.RowKit Go.Proofs.YtgcoodameahkbaaDoor.Stable

theorem own_formE {w : World} {B E n : Nat} {v : Value} {xs : List Value} (h : w.ownsRow B E 1 v n xs) (hn : 0 < n) : ∃ g cap, v = .slice (some ⟨g, 0, none⟩) n cap ∧ B ≤ g ∧ g < w.heap.size := by
  have h2 := h
  obtain ⟨_, ⟨_, h0⟩ | ⟨g, cap, cur, rfl, hg, hcell, hcap, hmax, _, _⟩⟩ := h
  · omega
  · exact ⟨g, cap, rfl, hg, (h2.lt g rfl).2⟩

/-- Whole numbers in a row, nil or not. -/
def IntAt (w : World) (A : Option Addr) (n : Nat) (os : List Nat) : Prop :=
  0 < n → ∃ g, A = some ⟨g, 0, none⟩ ∧ g < w.heap.size ∧ ∀ j, j < n → w.cell? ⟨g, j, none⟩ = some (.int .i64 ((os.getD j 0 : Nat) : Int))
theorem IntAt.below {w w' : World} {A : Option Addr} {n : Nat} {xs : List Nat} (h : IntAt w A n xs) (hb : Below w.heap.size w w') : IntAt w' A n xs := fun h0 => by
  obtain ⟨g, hA, hg, hc⟩ := h h0
  exact ⟨g, hA, Nat.lt_of_lt_of_le hg hb.size, fun j hj => (hb.cell (p := ⟨g, j, none⟩) hg).trans (hc j hj)⟩
theorem IntAt.below' {w w' : World} {B : Nat} {A : Option Addr} {n : Nat} {xs : List Nat} (h : IntAt w A n xs) (hB : ∀ g, A = some ⟨g, 0, none⟩ → g < B) (hb : Below B w w') : IntAt w' A n xs := fun h0 => by
  obtain ⟨g, hA, hg, hc⟩ := h h0
  exact ⟨g, hA, Nat.lt_of_lt_of_le hg hb.size, fun j hj => (hb.cell (p := ⟨g, j, none⟩) (hB g hA)).trans (hc j hj)⟩
def il (os : List Nat) : List Value := os.map fun i : Nat => Value.int .i64 (i : Int)
theorem IntAt.of_own {w : World} {B n c : Nat} {A : Option Addr} {os : List Nat} (h : w.ownsRow B 3 1 (.slice A n c) n (il os)) : IntAt w A n os := fun h0 => by
  obtain ⟨g, cap, hv, _, hlt⟩ := own_formE h h0
  have hA : A = some ⟨g, 0, none⟩ := by injection hv
  subst hA
  exact ⟨g, rfl, hlt, fun j hj => ints_of_own h j hj⟩

set_option maxRecDepth 100000 in
theorem sameInts_true (A1 A2 : Option Addr) (n c1 c2 : Nat) (os : List Nat) (w : World) (hn : n ≤ 1000000) (h1 : IntAt w A1 n os) (h2 : IntAt w A2 n os) :
    Calls Tryd.prog 28 #[.slice A1 n c1, .slice A2 n c2] w fun e w' => e = .returned (.bool true) ∧ ∃ q, w' = w.drewN q := by
  have H1 := Lib.hid h1
  have H2 := Lib.hid h2
  clear h1 h2
  go_enter Tryd.func28, Tryd.ntmps28
  go_wp2
  go_loopg [5] n (fun g1 v wr => ∃ i : Nat, v = .int .i64 i ∧ i ≤ n ∧ n - i ≤ g1 ∧ Aside (∃ q, wr = w.drewN q))
  case atStart => exact ⟨0, by first | rfl | go_num, by omega, by omega, ⟨0, rfl⟩⟩
  case round =>
    obtain ⟨i, rfl, hin, hg1, HQ⟩ := hrel
    by_cases hlt : i < n
    · have hltz : (i : Int) < (n : Int) := by omega
      obtain ⟨g, hA, hgl, hcell⟩ := H1.out (by omega)
      obtain ⟨g2, hA2, hgl2, hcell2⟩ := H2.out (by omega)
      subst hA hA2
      obtain ⟨L, hL⟩ : ∃ L, os.getD i 0 = L := ⟨_, rfl⟩
      have hc1 : wr.cell? ⟨g, i, none⟩ = some (.int .i64 (L : Int)) := by obtain ⟨q, hq⟩ := HQ.out; rw [hq, ← hL]; exact hcell i hlt
      have hc2 : wr.cell? ⟨g2, i, none⟩ = some (.int .i64 (L : Int)) := by obtain ⟨q, hq⟩ := HQ.out; rw [hq, ← hL]; exact hcell2 i hlt
      clear hL hcell hcell2
      go_wp2_with fail
      go_quiet (fail)
      have HQ2 : Aside (∃ q, wr.drewN nq = w.drewN q) := by obtain ⟨q, hq⟩ := HQ.out; exact ⟨q + nq, by rw [hq, World.drewN_drewN]⟩
      clear hc1 hc2 HQ
      generalize wr.drewN nq = w7 at HQ2 ⊢
      go_wp2
      go_roundg (n - (i + 1))
      case measure => omega
      case rel => exact ⟨i + 1, by first | rfl | go_num | (congr 1; omega), by omega, Nat.le_refl _, HQ2⟩
    · have hltz : ¬ (i : Int) < (n : Int) := by omega
      go_wp2
      go_ret
      exact ⟨rfl, HQ.out⟩

/-- append(nil, xs...) of a row of floats of the call's own, nil or not. -/
theorem wpList_copy_fl (w : World) {ops : Array Oper} {rest : List Oper} {o : Oper} {a : Act} {Q : Exit → Act → World → Prop} (hgd : o.guard = none) (x : Operand)
    (ho : o.op = .call { callee := .builtin .append, args := #[.const (.slice none 0 0), x], argTypes := #[34, 34] })
    (B n c : Nat) (A : Option Addr) (xs : List Nat) (hx : a.eval x = .slice A n c) (hown : w.ownsRow B 24 1 (.slice A n c) n (fl xs n)) (hn : n ≤ 1000)
    (h : ∀ v' w', w'.ownsRow w.heap.size 24 1 v' n (fl xs n) → w.grownBy w' none → wpList Tryd.prog ops Q rest (a.put o.dst v') w') :
    wpList Tryd.prog ops Q (o :: rest) a w := by
  obtain ⟨i0, hi, hz0, hz1, hz2⟩ := info_parts info24
  by_cases h0 : 0 < n
  · obtain ⟨g, cap, hv, _, hlt⟩ := own_formE hown h0
    have hA : A = some ⟨g, 0, none⟩ := by injection hv
    subst hA
    refine wpList_append_own_at _ hgd (.const (.slice none 0 0)) x 34 ho w.heap.size 24 i0 (.float .f64 0) 1 8 Tryd.underlying34 hi hz0 hz1 hz2 rfl (by decide) _ 0 [] rfl (World.ownsRow_nil _ _ _ _) ⟨g, 0, none⟩ n c (fl xs n) hx (by simp [fl]) (hown.cells rfl) (fl_one xs n) (by unfold maxLen; omega) (by omega) (Nat.le_refl _) ?_
    intro v' w' h1 h2 _ _
    rw [Nat.zero_add, List.nil_append] at h1
    exact h v' w' h1 h2
  · obtain rfl : n = 0 := by omega
    have hA : Value.slice A 0 c = .slice none 0 0 ∨ ∃ g, A = some ⟨g, 0, none⟩ := by
      rcases hown.2 with ⟨hc, _⟩ | ⟨g, cap, cur, hv, _⟩
      · exact .inl hc
      · exact .inr ⟨g, by injection hv⟩
    rcases hA with hA | ⟨g, rfl⟩
    · rw [hA] at hx
      refine wpList_append_own_none hgd (.const (.slice none 0 0)) x 34 ho w.heap.size 24 i0 1 Tryd.underlying34 hi (.slice none 0 0) 0 [] rfl (World.ownsRow_nil _ _ _ _) hx ?_
      exact h _ w (World.ownsRow_nil _ _ _ _) ⟨rfl, rfl, rfl, Nat.le_refl _, fun _ _ _ => rfl⟩
    · refine wpList_append_own_at _ hgd (.const (.slice none 0 0)) x 34 ho w.heap.size 24 i0 (.float .f64 0) 1 8 Tryd.underlying34 hi hz0 hz1 hz2 rfl (by decide) _ 0 [] rfl (World.ownsRow_nil _ _ _ _) ⟨g, 0, none⟩ 0 c [] hx (by simp) (by simp) (by simp) (by unfold maxLen; omega) (by omega) (Nat.le_refl _) ?_
      intro v' w' h1 h2 _ _
      exact h v' w' h1 h2
end Go.Proofs.YtgcoodameahkbaaDoor.Fl
