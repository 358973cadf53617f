/- Rows of bytes that may bear the mark of what []byte(s) made: what stands in place of Kd.R in the printed walks. -/
import Derived.Test.YtibjgmhhecbhbaaDoorWWords
import Derived.Test.YtibjgmhhecbhbaaDoorWMore
import Derived.Test.YtibjgmhhecbhbaaDoorWApart
import Derived.Test.YtibjgmhhecbhbaaDoorWKept
namespace Go.Proofs.YtibjgmhhecbhbaaDoorW.PrintWords
open Go.RowKit
namespace Mk
/-- A row of one's own whose block may bear a conversion's mark (behind its cells): scalars alone. -/
def N {α : Type} (d : Kd α) (e : Nat) (w : World) (base : Nat) (ok : Nat → Prop) (v : Value) (xs : List α) : Prop :=
  (∀ k, v.ownBlock = some k → ok k) ∧ ∃ enc h1, d = Kd.scalar enc h1 ∧ ∃ g cap cur fr, v = .slice (some ⟨g, 0, none⟩) xs.length cap ∧ base ≤ g ∧ w.heap[g]? = some (.cells cur e fr) ∧
    xs.length ≤ cap ∧ cap ≤ maxLen ∧ cap ≤ cur.size ∧ cur.size ≤ fr.1 ∧ cur.toList.take xs.length = xs.map enc
def R {α : Type} (d : Kd α) (e : Nat) (w : World) (base : Nat) (ok : Nat → Prop) (v : Value) (xs : List α) : Prop := d.R e w base ok v xs ∨ N d e w base ok v xs
section
variable {α : Type} {d : Kd α} {e : Nat} {w w1 W W2 : World} {base : Nat} {ok ok' : Nat → Prop} {u v : Value} {xs : List α}
theorem of_R (h : d.R e w base ok v xs) : R d e w base ok v xs := .inl h
theorem R_nil (d : Kd α) (e : Nat) (w : World) (base : Nat) (ok : Nat → Prop) : R d e w base ok (.slice none 0 0) [] := .inl (Kd.R_nil _ _ _ _ _)
theorem R_ok (h : R d e w base ok v xs) : ∀ k, v.ownBlock = some k → ok k := h.elim (·.1) (·.1)
theorem R_mono (h : R d e w base ok v xs) (hok : ∀ k, ok k → ok' k) : R d e w base ok' v xs := by
  rcases h with h | ⟨h0, h⟩
  · exact .inl (Kd.R_mono h hok)
  · exact .inr ⟨fun k hk => hok k (h0 k hk), h⟩
theorem R_lower {base' : Nat} (h : R d e w base ok v xs) (hb : base' ≤ base) : R d e w base' ok v xs := by
  rcases h with h | ⟨h0, enc, h1, hd, g, cap, cur, fr, hv, hg, r⟩
  · exact .inl (Kd.R_lower h hb)
  · exact .inr ⟨h0, enc, h1, hd, g, cap, cur, fr, hv, Nat.le_trans hb hg, r⟩
theorem R_base (h : R d e w base ok v xs) : ∀ k, v.ownBlock = some k → base ≤ k := by
  rcases h with h | ⟨h0, enc, h1, hd, g, cap, cur, fr, rfl, hg, r⟩
  · exact Kd.R_base h
  · intro k hk
    obtain rfl : g = k := by simpa [Value.ownBlock] using hk
    exact hg
theorem R_lt (h : R d e w base ok v xs) : ∀ k, v.ownBlock = some k → k < w.heap.size := by
  rcases h with h | ⟨h0, enc, h1, hd, g, cap, cur, fr, rfl, hg, hh, r⟩
  · exact Kd.R_lt h
  · intro k hk
    obtain rfl : g = k := by simpa [Value.ownBlock] using hk
    exact blk_lt hh
theorem R_step (h : R d e w base ok v xs) (hm : ∀ k, ok k → k < w.heap.size → w1.heap[k]? = w.heap[k]?) : R d e w1 base ok v xs := by
  rcases h with h | ⟨h0, enc, h1, hd, g, cap, cur, fr, rfl, hg, hh, r⟩
  · exact .inl (Kd.R_step h hm)
  · exact .inr ⟨h0, enc, h1, hd, g, cap, cur, fr, rfl, hg, (hm g (h0 g (by simp [Value.ownBlock])) (blk_lt hh)).trans hh, r⟩
theorem R_below (h : R d e w base ok v xs) (hb : Below w.heap.size w w1) : R d e w1 base ok v xs := R_step h (fun k _ hk => hb.block k hk)
theorem R_alloc (h : R d e w base ok v xs) (o : Obj) : R d e (w.alloc o) base ok v xs := R_below h (below_alloc (Below.refl _ _) o)
theorem R_drew (h : R d e w base ok v xs) : R d e w.drew base ok v xs := R_below h (below_drew (Below.refl _ _))
theorem R_drewN (h : R d e w base ok v xs) (m : Nat) : R d e (w.drewN m) base ok v xs := R_below h (pw_below_drewN (Below.refl _ _) m)
theorem R_far (h : R d e w base ok v xs) {p : Addr} (hok : ∀ k, ok k → k ≠ p.block) (u : Value) : R d e (w.setCell p u) base ok v xs := R_step h (fun k ho _ => Below.heap_setCell w p u k (hok k ho))
theorem R_ownok (h : R d e w base ok v xs) (hE : d.E = []) (hok : ∀ k, v.ownBlock = some k → ok' k) : R d e w base ok' v xs := by
  rcases h with h | ⟨h0, h⟩
  · exact .inl (Kd.R_reok hE h hok)
  · exact .inr ⟨hok, h⟩
theorem R_bound (h : R d e w base ok v xs) : R d e w base (fun k => ok k ∧ base ≤ k ∧ k < w.heap.size ∧ ∃ q, q ∈ e :: d.E ∧ ∃ cells fr, w.heap[k]? = some (.cells cells q fr)) v xs := by
  rcases h with h | h
  · exact .inl (Kd.R_mono (Kd.R_bound h) (fun k hk => by
      obtain ⟨h1, h2, h3, q, hq, c, hc⟩ := hk
      exact ⟨h1, h2, h3, q, hq, c, _, hc⟩))
  · have hb := R_base (.inr h); have hl := R_lt (.inr h)
    obtain ⟨h0, enc, h1, hd, g, cap, cur, fr, rfl, hg, hh, r⟩ := h
    refine .inr ⟨fun k hk => ⟨h0 k hk, hb k hk, hl k hk, e, List.mem_cons_self, cur, fr, ?_⟩, enc, h1, hd, g, cap, cur, fr, rfl, hg, hh, r⟩
    obtain rfl : g = k := by simpa [Value.ownBlock] using hk
    exact hh
theorem R_types (h : R d e w base ok v xs) {g t : Nat} {cells : Array Value} (hb : w.heap[g]? = some (.cells cells t (0, 0))) (ht : ∀ q, q ∈ e :: d.E → q ≠ t) : R d e w base (fun k => ok k ∧ k ≠ g) v xs :=
  R_mono (R_bound h) (fun k hk => ⟨hk.1, by
    obtain ⟨_, _, _, q, hq, cells', fr', hc⟩ := hk
    rintro rfl
    rw [hc] at hb
    injection hb with hb
    injection hb with _ hb
    exact ht q hq hb⟩)
theorem R_elder' (hu : R d e W base ok u xs) (hbase : ∀ k, v.ownBlock = some k → W.heap.size ≤ k) (hb : Below W.heap.size W w1) : R d e w1 base (fun k => ok k ∧ some k ≠ v.ownBlock) u xs :=
  R_mono (R_step (R_bound hu) (fun k hk _ => hb.block k hk.2.2.1)) (fun k hk => ⟨hk.1, fun he => by have := hbase k he.symm; have := hk.2.2.1; omega⟩)
theorem R_new' (h : R d e w1 W.heap.size ok v xs) (hlt : ∀ k, u.ownBlock = some k → k < W.heap.size) : R d e w1 W.heap.size (fun k => ok k ∧ some k ≠ u.ownBlock) v xs :=
  R_mono (R_bound h) (fun k hk => ⟨hk.1, fun he => by have := hlt k he.symm; have := hk.2.1; omega⟩)
theorem R_tight (hE : d.E = []) (h : R d e w base ok v xs) : R d e w base (fun k => some k = v.ownBlock) v xs := R_ownok h hE (fun _ hk => hk.symm)
theorem R_ne (h : R d e w base ok v xs) {g t : Nat} {cells : Array Value} (hb : w.heap[g]? = some (.cells cells t (0, 0))) (ht : e ≠ t) : some g ≠ v.ownBlock := by
  rcases h with h | ⟨h0, enc, h1, hd, g', cap, cur, fr, rfl, hg, hh, r⟩
  · exact Kd.R_ne h hb ht
  · intro he
    obtain rfl : g = g' := by simpa [Value.ownBlock] using he
    rw [hh] at hb
    injection hb with hb
    injection hb with _ hb
    exact ht hb
theorem R_keptB {S : Nat → Prop} (h : R d e W base ok v xs) (hk : Kept W W2 S) (hne : ∀ k, ok k → ¬ S k) : R d e W2 base (fun k => ok k ∧ (¬ S k ∧ k < W.heap.size)) v xs :=
  R_mono (R_step (R_mono (R_bound h) (ok' := fun k => (ok k ∧ ¬ S k) ∧ k < W.heap.size) (fun k hk => ⟨⟨hk.1, hne k hk.1⟩, hk.2.2.1⟩)) (fun k hk' hl => hk.2 k hl hk'.1.2)) (fun _ hk => ⟨hk.1.1, hk.1.2, hk.2⟩)
theorem R_reads (h : R d e w base ok v xs) : ∃ A c, v = .slice A xs.length c ∧ xs.length ≤ c ∧ d.C w A xs.length xs := by
  rcases h with h | ⟨h0, enc, h1, rfl, g, cap, cur, fr, rfl, hg, hh, hl, hm, hc, hf, ht⟩
  · exact Kd.R_reads h
  · refine ⟨_, _, rfl, hl, ?_⟩
    cases xs with
    | nil => exact ⟨rfl, by simp, fun h => absurd h (by simp)⟩
    | cons x xs =>
      refine Kd.C_of_reads (d := x) ⟨rfl, Nat.le_trans hl hm, fun _ => ⟨_, rfl, fun j hj => ?_⟩⟩
      rw [add_plain]
      have e1 : w.cell? ⟨g, j, none⟩ = cur[j]? := by simp [World.cell?, hh]
      rw [e1]
      have e2 : (cur.toList.take (x :: xs).length)[j]? = ((x :: xs).map enc)[j]? := by rw [ht]
      rw [List.getElem?_take_of_lt hj, List.getElem?_map, Array.getElem?_toList] at e2
      rw [e2, List.getD_eq_getElem?_getD, List.getElem?_eq_getElem hj]
      rfl
theorem R_slice (h : R d e w base ok v xs) : ∃ A c, v = .slice A xs.length c := by
  obtain ⟨A, c, he, _⟩ := R_reads h
  exact ⟨A, c, he⟩
theorem R_reads' {A : Option Addr} {n c : Nat} (h : R d e w base ok (.slice A n c) xs) : n = xs.length ∧ n ≤ c ∧ d.C w A xs.length xs := by
  obtain ⟨A', c', he, hl, hr⟩ := R_reads h
  injection he with h1 h2 h3
  subst h1; subst h2; subst h3
  exact ⟨rfl, hl, hr⟩
/-- What []byte(s) hands back. -/
theorem R_bytes (W : World) (base e : Nat) (s : ByteArray) (hb : base ≤ W.heap.size) (hs : s.size ≤ 140737488351232) : R (Kd.int .u8) e (Lib.bytesWorld W e s) base (fun k => W.heap.size ≤ k) (.slice (some ⟨W.heap.size, 0, none⟩) s.size (grownCap W s.size 0 e)) (bytesOf s) := by
  have hge := grownCap_ge W s.size 0 e
  have hcm : grownCap W s.size 0 e ≤ maxLen := grownCap_le_maxLen W s.size 0 e (by unfold maxLen; omega)
  refine .inr ⟨fun k hk => ?_, Value.int .u8, fun _ => rfl, rfl, W.heap.size, grownCap W s.size 0 e, Lib.bytesCells W e s, _, ?_, hb, Lib.bytesWorld_at_new W e s, ?_, hcm, ?_, Nat.le_refl _, ?_⟩
  · obtain rfl : W.heap.size = k := by simpa [Value.ownBlock] using hk
    exact Nat.le_refl _
  · rw [bytesOf_length]
  · rw [bytesOf_length]; exact hge
  · simp only [Lib.bytesCells, Array.size_append, Array.size_map, Array.size_replicate]
    have : s.data.size = s.size := rfl
    omega
  · rw [bytesOf_length]
    simp only [Lib.bytesCells, Array.toList_append, Array.toList_map, bytesOf, List.map_map]
    rw [List.take_left' (by rw [List.length_map, data_length])]
    rfl
end
end Mk
end Go.Proofs.YtibjgmhhecbhbaaDoorW.PrintWords
