/- slices.SortStableFunc at score.Order's call. -/
import Derived.Test.YtgcoodameahkbaaDoorStO1
import Derived.OwnWalk
namespace Go.Proofs.YtgcoodameahkbaaDoor.Stable
set_option linter.unusedVariables false
set_option linter.unusedSimpArgs false
open Go.Shelf Go.RowKit Go.Lib Go.Sort
open Go.Proofs.YtgcoodameahkbaaDoor.Fl (lessB less_any rank less_rank rank_bd less_rank_false)

/-- A world of the sort's: of w0's blocks the row alone has turned. -/
theorem SW_grownBy {α : Type} [Inhabited α] {enc : α → Value} {w0 W : World} {blk off : Nat} {d : Array α} (h : SW enc w0 blk off d W) (hb : blk < w0.heap.size) : w0.grownBy W (some blk) := by
  obtain ⟨n, os, rfl⟩ := h
  refine ⟨rfl, rfl, rfl, ?_, fun k hk hne => ?_⟩
  · unfold sortWorld; rw [size_grow, size_putRow]; show w0.heap.size ≤ w0.heap.size + _; omega
  · unfold sortWorld
    have : k < (putRow enc (Sort.ahead w0 n) blk off d).heap.size := by rw [size_putRow]; exact hk
    rw [heap_grow_old _ _ this]
    unfold putRow mapBlock
    simp only [Array.getElem?_modify]
    rw [if_neg (by intro e; exact hne (by rw [e]))]
    rfl
theorem SW_owns {α : Type} [Inhabited α] {enc : α → Value} {w0 W : World} {base g n cap : Nat} {e : TypeId} {d0 d : Array α} {xs : List Value} (h : SW enc w0 g 0 d W) (hg : g < w0.heap.size) (h0 : Holds enc w0 g 0 d0) (hs : d.size = d0.size) (hn : d.size = n)
    (ho : w0.ownsRow base e 1 (.slice (some ⟨g, 0, none⟩) n cap) n xs) : W.ownsRow base e 1 (.slice (some ⟨g, 0, none⟩) n cap) n (d.toList.map enc) := by
  have hH := h.holds hg h0 hs
  refine ⟨by simp [hn], ?_⟩
  rcases ho.2 with ⟨hc, _⟩ | ⟨g', cap', cur, hv, hb, hcell, h1, h2, h3, h4⟩
  · cases hc
  · simp only [Value.slice.injEq, Option.some.injEq, Addr.mk.injEq, and_true, true_and] at hv
    obtain ⟨rfl, rfl⟩ := hv
    obtain ⟨q, os, rfl⟩ := h
    have hcell2 : (sortWorld enc w0 g 0 q d os).heap[g]? = some (.cells (putCells enc 0 d cur) e (0, 0)) := by
      unfold sortWorld
      rw [heap_grow_old _ _ (by rw [size_putRow]; exact hg)]
      unfold putRow mapBlock
      simp only [Array.getElem?_modify, if_true]
      show Option.map _ w0.heap[g]? = _
      rw [hcell]; rfl
    have hsz : (putCells enc 0 d cur).size = cap * 1 := by rw [← h3]; exact Array.size_mapIdx
    refine .inr ⟨g, cap, putCells enc 0 d cur, rfl, hb, hcell2, h1, h2, hsz, ?_⟩
    apply List.ext_getElem?
    intro k
    by_cases hk : k < n
    · have c := (hH k (by omega)).1
      rw [Nat.zero_add] at c
      have : (sortWorld enc w0 g 0 q d os).cell? ⟨g, k, none⟩ = (putCells enc 0 d cur)[k]? := by
        simp [World.cell?, hcell2]
      rw [this] at c
      rw [List.getElem?_take_of_lt (by omega), Array.getElem?_toList, c, List.getElem?_map, Array.getElem?_toList, Array.getElem?_eq_getElem (by omega)]
      rw [getElem!_pos d k (by omega)]; rfl
    · rw [List.getElem?_eq_none (by simp; omega), List.getElem?_eq_none (by simp; omega)]

/-- The key of a place: its number's rank, then the place. -/
def keyL (xs : List Nat) (i : Nat) : Int := rank (xs.getD i 0) * 64 + i
/-- These are all places below n, by their keys. -/
structure IsOrd (xs : List Nat) (n : Nat) (os : List Nat) : Prop where
  perm : os.Perm (List.range n)
  ord : ∀ i j, i < j → j < n → keyL xs (os.getD i 0) ≤ keyL xs (os.getD j 0)

theorem sortStable_c {α : Type} [Inhabited α] (enc : α → Value) (cf : α → α → Int) (P : α → Nat) (K : α → Int) (hJ : Judges cf (pl P) K) (g : Nat) (cb : Array Value) (blk off cap z : Nat) (d0 d : Array α) (w0 w : World)
    (eg : ∀ args w, (callFunc g args).run Tryd.prog w = .ok (.enter g args) w) (hcmp : CmpLays1 Tryd.prog g cb enc cf blk off d0.size w0)
    (R : Row1 enc w0 blk off d0) (hz : d.size = z) (h0 : d0.size = z) (S : SW enc w0 blk off d w) (hP : ∀ k, k < z → P d[k]! = k) (h40 : z ≤ 40) :
    Calls Tryd.prog 46 #[.slice (some ⟨blk, off, none⟩) z cap, .func (.func g) #[] cb] w fun e w' => e = .returned (.tuple #[]) ∧ ∃ d', SW enc w0 blk off d' w' ∧ Done K 0 z d d' := by
  have C := stable_c enc cf P K hJ g cb blk off cap z d0 d w0 w eg hcmp R hz h0 S h40 hP
  clear hcmp R S hJ hP hz h0 eg
  have HC := Lib.hid C
  clear C
  go_enter Tryd.func46, Tryd.ntmps46
  go_wp2_with fail
  with_reducible refine HC.out.mono ?_
  rintro e w1 ⟨rfl, d1, S2, D1⟩
  have H1 : Aside (∃ d', SW enc w0 blk off d' w1 ∧ Done K 0 z d d') := ⟨d1, S2, D1⟩
  clear S2 D1 HC
  go_wp2
  go_end0
  exact ⟨rfl, H1.out⟩

theorem eg47 : ∀ args w, (callFunc 47 args).run Tryd.prog w = .ok (.enter 47 args) w := enters_of Tryd.func47 (by kernel_rfl) rfl

end Go.Proofs.YtgcoodameahkbaaDoor.Stable
