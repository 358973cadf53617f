/- What OverBytes answers on rows that may bear the mark. -/
import Derived.Test.YtibjgmhhecbhbaaDoorMarkMore
import Derived.Test.YtibjgmhhecbhbaaDoorReadOf
namespace Go.Proofs.YtibjgmhhecbhbaaDoor.Hand
open Go.RowKit Go.Proofs.YtibjgmhhecbhbaaDoorW.PrintWords Go.Proofs.YtibjgmhhecbhbaaDoorW.PrintLast Go.Proofs.YtibjgmhhecbhbaaDoorW.PrintMore
set_option linter.unusedVariables false
set_option linter.unusedSimpArgs false
theorem mark_set {w : World} {g t : Nat} {cs : Array Value} {fr : Nat × Nat} (h : w.heap[g]? = some (.cells cs t fr)) (i : Nat) (u : Value) : (w.setCell ⟨g, i, none⟩ u).heap[g]? = some (.cells (cs.setIfInBounds i u) t fr) := by
  unfold World.setCell
  simp [Array.getElem?_modify, h]
theorem mark_frozen {w : World} {g t : Nat} {cs : Array Value} {fr : Nat × Nat} (h : w.heap[g]? = some (.cells cs t fr)) (i : Nat) (hi : i < fr.1) : w.frozen? ⟨g, i, none⟩ = false := by
  obtain ⟨lo, hi'⟩ := fr
  simp only [World.frozen?, h]
  simp only at hi
  simp
  omega
theorem over_append {ops : Array Oper} {rest : List Oper} {o : Oper} {a : Act} {Q : Exit → Act → World → Prop} (w0 w W : World) (g k cap : Nat) (cs : Array Value) (fr : Nat × Nat) (hgd : o.guard = none) (s x : Operand)
    (ho : o.op = .call { callee := .builtin .append, args := #[s, x], argTypes := #[22, 22] }) (hs : a.eval s = .slice (some ⟨g, 0, none⟩) k cap) (hx : a.eval x = .slice (some ⟨W.heap.size, 0, none⟩) 1 1)
    (HC : W.heap[g]? = some (.cells cs 5 fr)) (hk : k ≤ cap) (hm : cap ≤ maxLen) (hc : cap ≤ cs.size) (hf : cs.size ≤ fr.1) (hnb : k < 140737488355328) (hg0 : w0.heap.size ≤ g) (HB : Below w0.heap.size w0 W) (HK : Kept w W (fun k => k = g)) (hg : g < w.heap.size)
    (h : ∀ v1 w1, Below w0.heap.size w0 w1 → Kept w w1 (fun k => k = g) → wpList Tryd.prog ops Q rest (a.put o.dst v1) w1) : wpList Tryd.prog ops Q (o :: rest) a (W.alloc (.cells #[.int .u8 238] 5)) := by
  obtain ⟨i0, hi, hz⟩ := Option.map_eq_some_iff.1 info5h
  simp only [Prod.mk.injEq] at hz
  have hb := below_alloc (Below.refl _ W) (.cells #[.int .u8 238] 5)
  have HC2 : (W.alloc (.cells #[.int .u8 238] 5)).heap[g]? = some (.cells cs 5 fr) := (hb.block g (blk_lt HC)).trans HC
  have HN : (W.alloc (.cells #[.int .u8 238] 5)).heap[W.heap.size]? = some (.cells #[.int .u8 238] 5 (0, 0)) := one_last _ _
  have HB2 := below_step HB hb
  have HK2 := HK.below hb
  generalize W.alloc (.cells #[.int .u8 238] 5) = W2 at *
  refine wpList_append_arg W2 hgd s x 22 ho 5 i0 (.int .u8 0) 1 1 Tryd.underlying22 hi hz.1 hz.2.1 hz.2.2 rfl (by decide) g 0 k cap (cs.toList.take k) hs ?_ ?_ ⟨W.heap.size, 0, none⟩ 1 1 [.int .u8 238] hx rfl ?_ ?_ ?_ (by unfold maxLen; omega) (by omega) ?_ ?_
  · rw [List.length_take, Array.length_toList]; omega
  · intro j u hj
    rw [cell_of_row W2 g (0 + j) cs 5 fr HC2, Nat.zero_add]
    obtain ⟨h1, h2⟩ := List.getElem?_eq_some_iff.1 hj
    rw [List.length_take, Array.length_toList] at h1
    rw [List.getElem?_take_of_lt (by omega), Array.getElem?_toList] at hj
    exact hj
  · intro j u hj
    rw [add_plain, blk_cell HN]
    cases j with
    | zero => simpa using hj
    | succ j => simp at hj
  · intro u hu; simp at hu; subst hu; rfl
  · intro hr j hj
    simp only [List.length_cons, List.length_nil] at hj
    obtain rfl : j = 0 := by omega
    refine ⟨?_, mark_frozen HC2 _ (by omega)⟩
    rw [cell_of_row W2 g _ cs 5 fr HC2]
    simp
    omega
  · intro hr
    refine h _ _ ?_ ?_
    · simp only [World.setCells]
      exact below_set HB2 hg0
    · simp only [World.setCells]
      exact HK2.setCell (p := ⟨g, 0 + k * 1, none⟩) (.inl rfl) _
  · intro hr v1 w1 _ hgr
    refine h _ _ ?_ ?_
    · exact HB2.grown hgr HB2.size (fun k hk => by cases hk)
    · exact Kept.of_grown hgr HK2 (fun k hk => by cases hk)
set_option maxHeartbeats 4000000 in
set_option maxRecDepth 100000 in
theorem over_marked (w0 w : World) (g n cap : Nat) (cur : Array Value) (fr : Nat × Nat) (hB : Below w0.heap.size w0 w) (hg0 : w0.heap.size ≤ g) (hh : w.heap[g]? = some (.cells cur 5 fr)) (hn : n ≤ cap) (hm : cap ≤ maxLen) (hc : cap ≤ cur.size) (hf : cur.size ≤ fr.1) (hnb : n < 140737488355328) :
    Calls Tryd.prog 13 #[.slice (some ⟨g, 0, none⟩) n cap] w fun e w' => e = .returned (.tuple #[]) ∧ Below w0.heap.size w0 w' ∧ Kept w w' (fun k => k = g) := by
  have HB := Aside0.mk hB
  have HH := Aside0.mk hh
  have HM := Aside0.mk hm
  clear hB hh hm
  have HG := Aside0.mk (blk_lt HH.out)
  go_enter Tryd.func13, Tryd.ntmps13
  go_wp2
  go_loopg [2] n (fun gg v2 wx => ∃ (k : Nat) (cs : Array Value), k + gg = n ∧ v2 = .int .i64 k ∧ Aside0 (wx.heap[g]? = some (.cells cs 5 fr)) ∧ cs.size = cur.size ∧ Aside0 (Below w0.heap.size w0 wx) ∧ Aside0 (Kept w wx (fun k => k = g)))
  case atStart => exact ⟨0, cur, by omega, rfl, HH, rfl, HB, ⟨Kept.refl _ _⟩⟩
  case round =>
    obtain ⟨k, cs, hk, rfl, HC, hcs, HB2, HK⟩ := hrel
    have HS := Aside0.mk hcs; clear hcs
    by_cases hlt : k < n
    · obtain ⟨gg, rfl⟩ : ∃ q, gk = q + 1 := ⟨gk - 1, by omega⟩
      have q113 : (k : Int) < (n : Int) := by omega
      have hk2 : k < cs.size := by have := HS.out; omega
      have hcell : wr.cell? ⟨g, k, none⟩ = some cs[k] := by rw [cell_of_row wr g k cs 5 fr HC.out]; simp [hk2]
      have hfr := mark_frozen HC.out k (by have := HS.out; omega)
      have HC2 := Aside0.mk (mark_set HC.out k (.int .u8 238))
      have HB3 := Aside0.mk (below_set (j := k) (v := .int .u8 238) HB2.out hg0)
      have HK3 := Aside0.mk (HK.out.setCell (p := ⟨g, k, none⟩) (.inl rfl) (.int .u8 238))
      generalize cs[k] = cv at hcell
      go_wp2
      go_roundg gg
      case rel => exact ⟨k + 1, cs.setIfInBounds k (.int .u8 238), by omega, by go_num, HC2, by rw [Array.size_setIfInBounds]; exact HS.out, HB3, HK3⟩
      case measure => simp
    · obtain rfl : k = n := by omega
      have q : ¬ ((k : Int) < (k : Int)) := by omega
      go_wp2_with (((with_reducible refine gate_builtin (b := .append) (xs := #[.tmp 12, .tmp 13]) rfl ?_); at_builtin; refine over_append w0 w wr g k cap cs fr rfl (.tmp 12) (.tmp 13) rfl rfl rfl HC.out hn HM.out ?aC ?aF hnb hg0 HB2.out HK.out HG.out ?_; (case aC => have := HS.out; omega); (case aF => have := HS.out; omega); intro v1 w1 hb1 hk1; have HB4 := Aside0.mk hb1; have HK4 := Aside0.mk hk1; clear hb1 hk1))
      go_end0
      exact ⟨rfl, HB4.out, HK4.out⟩
/-- What is handed back by a conversion, or made, is written over. -/
theorem over_any (P0 : Nat → Prop) (v : Value) (l : List Int) (w0 w : World) (hB : Below w0.heap.size w0 w) (ho : Mk.N (Kd.int .u8) 5 w w0.heap.size P0 v l) (hl : l.length < 140737488355328) :
    Calls Tryd.prog 13 #[v] w fun e w' => e = .returned (.tuple #[]) ∧ Below w0.heap.size w0 w' ∧ Kept w w' (fun k => P0 k) := by
  obtain ⟨h0, enc, h1, hd, g, cap, cur, fr, rfl, hg, hh, hl1, hm, hc, hf, ht⟩ := ho
  refine (over_marked w0 w g l.length cap cur fr hB hg hh hl1 hm hc hf hl).mono ?_
  rintro e w' ⟨he, hb, hk⟩
  exact ⟨he, hb, hk.mono (fun k hk => by subst hk; exact h0 k (by simp [Value.ownBlock]))⟩
end Go.Proofs.YtibjgmhhecbhbaaDoor.Hand
