/- What the law's numbers answers: a row of its own. -/
import Derived.Test.YtgcoodameahkbaaDoorStO4
import Derived.Test.YtgcoodameahkbaaDoorFl12
namespace Go.Proofs.YtgcoodameahkbaaDoor.Fl
set_option linter.unusedVariables false
set_option linter.unusedSimpArgs false
open Go.RowKit Go.Proofs.YtgcoodameahkbaaDoor.Stable

/-- a row of floats by their bits -/
def fl (xs : List Nat) (k : Nat) : List Value := (List.range k).map fun j => .float .f64 (xs.getD j 0)
theorem fl_succ (xs : List Nat) (k : Nat) : fl xs (k + 1) = fl xs k ++ [.float .f64 (xs.getD k 0)] := by
  unfold fl; rw [List.range_succ, List.map_append]; rfl
theorem fl_get (xs : List Nat) (k j : Nat) (h : j < k) : (fl xs k)[j]? = some (.float .f64 (xs.getD j 0)) := by
  unfold fl; simp [h]
theorem fl_len (xs : List Nat) (k : Nat) : (fl xs k).length = k := by simp [fl]

/-- What numbers answers: a row of its own. -/
def RowPost (E : TypeId) (xs : List Value) (n : Nat) (w : World) (e : Ending) (w' : World) : Prop :=
  ∃ v, e = .returned v ∧ w'.ownsRow w.heap.size E 1 v n xs ∧ Below w.heap.size w w'

def NRel (xs : List Nat) (n : Nat) (w : World) (v i : Value) (wr : World) : Prop :=
  ∃ k : Nat, k ≤ n ∧ i = .int .i64 k ∧ wr.ownsRow w.heap.size 24 1 v k (fl xs k) ∧ Below w.heap.size w wr

set_option maxHeartbeats 1000000 in
theorem numbers_some (xs : List Nat) (n b off c : Nat) (w : World) (hn : n ≤ 1000) (hb : b < w.heap.size)
    (hc : ∀ k, k < n → w.cell? ⟨b, off + k, none⟩ = some (.int .u64 ((xs.getD k 0 : Nat) : Int))) :
    Calls Tryd.prog 25 #[.slice (some ⟨b, off, none⟩) n c] w (RowPost 24 (fl xs n) n w) := by
  obtain ⟨i0, hi, hz0, hz1, hz2⟩ := info_parts info24
  have HC := Lib.hid hc
  clear hc
  go_enter Tryd.func25, Tryd.ntmps25
  go_wp2
  go_loopw [3, 4] (fun v i wr => NRel xs n w v i wr) (fun _ i _ => n - (intOf i).toNat)
  case atStart => exact ⟨0, by omega, rfl, World.ownsRow_nil _ _ _ _, Below.refl _ _⟩
  case round =>
    obtain ⟨k, hk, rfl, hx, hbel⟩ := hrel
    by_cases hlt : k < n
    · have hck : wr.cell? ⟨b, off + k, none⟩ = some (.int .u64 ((xs.getD k 0 : Nat) : Int)) := (hbel.cell (p := ⟨b, off + k, none⟩) hb).trans (HC.out k hlt)
      obtain ⟨x, hx0⟩ : ∃ x, xs.getD k 0 = x := ⟨_, rfl⟩
      rw [hx0] at hck
      have HX := Lib.hid (show fl xs (k + 1) = fl xs k ++ [.float .f64 x] by rw [fl_succ, hx0])
      have HXR := Lib.hid hx
      have HB := Lib.hid hbel
      have hsz := hbel.size
      clear hx hbel hx0
      go_wp2_with fail
      rw [run_frombitsN, Oper.upon_value]
      go_wp2_with (at_builtin; refine wpList_append_own_at _ rfl (.tmp 11) (.tmp 17) 34 rfl w.heap.size 24 i0 (.float .f64 0) 1 8 Tryd.underlying34 hi hz0 hz1 hz2 rfl (by decide) _ k (fl xs k) rfl (HXR.out.alloc _) ⟨wr.heap.size, 0, none⟩ 1 1 [.float .f64 x] rfl rfl (new_cell _ _ _) (by simp [Value.oneCell']) (by unfold maxLen; omega) (by omega) (by simp; omega) ?_; intro vx' w1 hx1 hg1 _ ho1; have P1 := Lib.hid ((HB.out.alloc hsz (.cells #[.float .f64 x] 24)).grown hg1 (by simp; omega) (fun j h => (HXR.out.lt j h).1)); have HX1 := Lib.hid hx1; clear hx1 hg1 ho1)
      exact ⟨⟨k + 1, by omega, by go_num, by rw [HX.out]; exact HX1.out, P1.out⟩, by simp [intOf]; omega⟩
    · obtain rfl : k = n := by omega
      have HE : Aside (RowPost 24 (fl xs k) k w (.returned u3) wr) := ⟨u3, rfl, hx, hbel⟩
      clear hx hbel
      go_wp2
      go_ret
      exact HE.out
end Go.Proofs.YtgcoodameahkbaaDoor.Fl
