/- What score.Order answers, where there are some: all places, by their keys. -/
import Derived.Test.YtgcoodameahkbaaDoorStO2
namespace Go.Proofs.YtgcoodameahkbaaDoor.Stable
set_option linter.unusedVariables false
set_option linter.unusedSimpArgs false
open Go.Shelf Go.RowKit Go.Lib Go.Sort
open Go.Proofs.YtgcoodameahkbaaDoor.Fl (lessB less_any rank less_rank rank_bd less_rank_false)

theorem info3 : (Tryd.prog.info? 3).map (fun i => (i.zero, i.size, i.bytes)) = some (some (.int .i64 0), 1, 8) := by kernel_rfl

/-- The row behind k rounds. -/
def fillL (n k : Nat) : List Value := (List.range n).map fun j => .int .i64 (if j < k then (j : Int) else 0)
theorem fill_set (n k : Nat) (hk : k < n) : (fillL n k).set k (.int .i64 k) = fillL n (k + 1) := by
  apply List.ext_getElem?
  intro j
  unfold fillL
  rw [List.getElem?_set]
  by_cases e : k = j
  · subst e
    rw [if_pos rfl, if_pos (by simpa using hk)]
    simp [hk]
  · rw [if_neg e]
    by_cases hj : j < n
    · simp only [List.getElem?_map, List.getElem?_range hj, Option.map_some]
      congr 2
      by_cases c : j < k
      · rw [if_pos c, if_pos (by omega)]
      · rw [if_neg c, if_neg (by omega)]
    · rw [List.getElem?_eq_none (by simp; omega), List.getElem?_eq_none (by simp; omega)]
theorem fill_zero (n : Nat) : fillL n 0 = (madeCells (Value.int .i64 0).cells (n * 1)).toList := by
  unfold fillL madeCells
  rw [Nat.mul_one, Array.toList_map, Array.toList_range]
  apply List.map_congr_left
  intro j hj
  rw [if_neg (by omega)]
  show _ = (#[Value.int .i64 0] : Array Value)[j % 1]!
  rw [Nat.mod_one]; rfl
theorem fill_get (n k j : Nat) (hj : j < n) : (fillL n k)[j]? = some (.int .i64 (if j < k then (j : Int) else 0)) := by
  unfold fillL; simp [hj]

/-- What score.Order answers. -/
def OrdPost (xs : List Nat) (n : Nat) (w : World) (e : Ending) (w' : World) : Prop :=
  ∃ (g : Nat) (os : List Nat), e = .returned (.slice (some ⟨g, 0, none⟩) n n) ∧ IsOrd xs n os ∧ w'.ownsRow w.heap.size 3 1 (.slice (some ⟨g, 0, none⟩) n n) n (os.map fun i : Nat => Value.int .i64 (i : Int)) ∧ Below w.heap.size w w'


theorem ext_all {α : Type} (d : Array α) (n : Nat) (h : d.size = n) : d.extract 0 n = d := by subst h; simp
theorem Row1_of (n : Nat) (hn0 : 0 < n) {W : World} {base G cap : Nat} {e : TypeId} (ho : W.ownsRow base e 1 (.slice (some ⟨G, 0, none⟩) n cap) n (fillL n n)) :
    letI : Inhabited (Fin n) := ⟨⟨0, hn0⟩⟩
    Row1 (fun x : Fin n => Value.int .i64 (x.val : Int)) W G 0 (Array.ofFn fun x : Fin n => x) := by
  letI : Inhabited (Fin n) := ⟨⟨0, hn0⟩⟩
  refine ⟨?_, ?_, (ho.lt G rfl).2⟩
  · intro x; rfl
  · intro j hj
    have hj' : j < n := by simpa using hj
    refine ⟨?_, by rw [Nat.zero_add]; exact ho.frozenAt j⟩
    rw [Nat.zero_add, ho.cellAt j (by omega), fill_get n n j hj', if_pos hj', getElem!_pos _ j hj]
    simp

/-- The sort, where score.Order calls it. -/
theorem sort_at (xs : List Nat) (n b off c p G base : Nat) (W : World) (hn0 : 0 < n) (hn : n ≤ 40) (hx : ∀ k, k < n → xs.getD k 0 < 18446744073709551616)
    (hp : W.cell? ⟨p, 0, none⟩ = some (.slice (some ⟨b, off, none⟩) n c)) (hpG : p ≠ G) (hbG : b ≠ G)
    (hc : ∀ k, k < n → W.cell? ⟨b, off + k, none⟩ = some (.float .f64 (xs.getD k 0)))
    (ho : W.ownsRow base 3 1 (.slice (some ⟨G, 0, none⟩) n n) n (fillL n n)) :
    Calls Tryd.prog 46 #[.slice (some ⟨G, 0, none⟩) n n, .func (.func 47) #[] #[.pointer (some ⟨p, 0, none⟩)]] W fun e w' => e = .returned (.tuple #[]) ∧
      ∃ os : List Nat, IsOrd xs n os ∧ w'.ownsRow base 3 1 (.slice (some ⟨G, 0, none⟩) n n) n (os.map fun i : Nat => Value.int .i64 (i : Int)) ∧ W.grownBy w' (some G) := by
  letI : Inhabited (Fin n) := ⟨⟨0, hn0⟩⟩
  have R := Row1_of n hn0 ho
  have hsz : (Array.ofFn fun x : Fin n => x).size = n := by simp
  have hget : ∀ k, k < n → ((Array.ofFn fun x : Fin n => x)[k]!).val = k := fun k hk => by
    rw [getElem!_pos _ k (by rw [hsz]; exact hk)]; simp
  have hG : G < W.heap.size := (ho.lt G rfl).2
  have hJ : Judges (fun x y : Fin n => cfL xs x.val y.val) (pl Fin.val) (fun x : Fin n => keyL xs x.val) := fun x y hxy => by
    have h1 : x.val < y.val := by
      have : ((x.val : Nat) : Int) < ((y.val : Nat) : Int) := hxy
      omega
    have hyn := y.isLt
    have L := less_rank (hx y.val y.isLt) (hx x.val x.isLt)
    show cfL xs y.val x.val < 0 ↔ keyL xs y.val < keyL xs x.val
    unfold keyL cfL
    by_cases c1 : lessB (xs.getD y.val 0) (xs.getD x.val 0) = true
    · rw [if_pos c1]
      have := L.1 c1
      exact ⟨fun _ => by omega, fun _ => by decide⟩
    · rw [if_neg c1]
      have := mt L.2 c1
      refine ⟨fun h => ?_, fun h => by omega⟩
      split at h <;> exact absurd h (by decide)
  have hcmp : CmpLays1 Tryd.prog 47 #[.pointer (some ⟨p, 0, none⟩)] (fun x : Fin n => Value.int .i64 (x.val : Int)) (fun x y : Fin n => cfL xs x.val y.val) G 0 (Array.ofFn fun x : Fin n => x).size W := fun m os dk hdk x y => by
    have hSW : SW (fun x : Fin n => Value.int .i64 (x.val : Int)) W G 0 dk (sortWorld (fun x : Fin n => Value.int .i64 (x.val : Int)) W G 0 m dk os) := ⟨m, os, rfl⟩
    have hgr := SW_grownBy hSW hG
    refine (order1 xs n b off c x.val y.val p _ x.isLt y.isLt hx (hgr.cell hp (by intro e; exact hpG (by simpa using e))) (fun k hk => hgr.cell (hc k hk) (by intro e; exact hbG (by simpa using e)))).mono ?_
    rintro e w' ⟨he, q, hq⟩
    exact ⟨he, q, #[], by rw [hq, grow_empty]⟩
  refine (sortStable_c (fun x : Fin n => Value.int .i64 (x.val : Int)) (fun x y : Fin n => cfL xs x.val y.val) Fin.val (fun x : Fin n => keyL xs x.val) hJ 47 #[.pointer (some ⟨p, 0, none⟩)] G 0 n n _ _ W W eg47 hcmp R hsz hsz (SW.start R.hH) hget hn).mono ?_
  rintro e w' ⟨he, d', hS, D⟩
  refine ⟨he, d'.toList.map Fin.val, ⟨?_, fun i j h1 h2 => ?_⟩, ?_, SW_grownBy hS hG⟩
  · have hp := D.perm.2.2
    have hs' : d'.size = n := D.perm.1.trans hsz
    rw [ext_all d' n hs', ext_all _ n hsz] at hp
    refine (hp.map Fin.val).trans ?_
    have : (Array.ofFn fun x : Fin n => x).toList.map Fin.val = List.range n := by
      apply List.ext_getElem?
      intro k
      by_cases hk : k < n
      · rw [List.getElem?_map, Array.getElem?_toList, Array.getElem?_eq_getElem (by rw [hsz]; exact hk), List.getElem?_range hk]; simp
      · rw [List.getElem?_eq_none (by simp; omega), List.getElem?_eq_none (by simp; omega)]
    rw [this]
  · have hs' : d'.size = n := D.perm.1.trans hsz
    have := D.ord i j (Nat.zero_le _) h1 h2
    have g : ∀ k, k < n → (d'.toList.map Fin.val).getD k 0 = (d'[k]!).val := fun k hk => by
      rw [getElem!_pos d' k (by omega), List.getD_eq_getElem?_getD, List.getElem?_map, Array.getElem?_toList, Array.getElem?_eq_getElem (by omega)]; rfl
    rw [g i (by omega), g j h2]
    exact this
  · have := SW_owns hS hG R.hH (D.perm.1.trans rfl) (D.perm.1.trans hsz) ho
    rw [List.map_map]
    exact this
set_option maxHeartbeats 1000000 in
set_option maxRecDepth 100000 in
theorem order_some (xs : List Nat) (n b off c : Nat) (w : World) (hn0 : 0 < n) (hn : n ≤ 40) (hb : b < w.heap.size) (hx : ∀ k, k < n → xs.getD k 0 < 18446744073709551616)
    (hc : ∀ k, k < n → w.cell? ⟨b, off + k, none⟩ = some (.float .f64 (xs.getD k 0))) :
    Calls Tryd.prog 26 #[.slice (some ⟨b, off, none⟩) n c] w (OrdPost xs n w) := by
  obtain ⟨i0, hi, hz0, hz1, hz2⟩ := info_parts info3
  have HX := Lib.hid hx
  have HC := Lib.hid hc
  clear hx hc
  go_enter Tryd.func26, Tryd.ntmps26
  go_wp2_with (at_make; refine wpList_make_full _ rfl _ _ 33 rfl w.heap.size 3 i0 (.int .i64 0) 1 Tryd.underlying33 hi hz0 hz1 .i64 .i64 _ _ n rfl rfl rfl rfl (by rw [hz2]; omega) (by unfold maxLen; omega) (by simp) ?_; intro w0 hown0 hgrow0)
  have HO : Aside (w0.ownsRow w.heap.size 3 1 (.slice (some ⟨w.heap.size + 1, 0, none⟩) n n) n (fillL n 0)) := by rw [fill_zero]; have h := hown0; rw [show (w.alloc (Obj.cells #[Value.slice (some ⟨b, off, none⟩) n c] 34)).heap.size = w.heap.size + 1 by simp] at h; exact h
  have HB : Aside (Below w.heap.size w w0) := ((Below.refl _ w).alloc (Nat.le_refl _) _).grown hgrow0 (by simp) (by simp)
  have HP : Aside (w0.cell? ⟨w.heap.size, 0, none⟩ = some (.slice (some ⟨b, off, none⟩) n c)) := hgrow0.cell (World.cell?_alloc_at _ _ _ _ rfl) (by simp)
  clear hown0 hgrow0 hi hz0 hz1 hz2
  go_loopg [4, 10] n (fun g1 v4 v10 wr => ∃ k : Nat, v10 = .int .i64 k ∧ k ≤ n ∧ n - k ≤ g1 ∧ Aside (wr.ownsRow w.heap.size 3 1 (.slice (some ⟨w.heap.size + 1, 0, none⟩) n n) n (fillL n k)) ∧ Aside (Below w.heap.size w wr) ∧ Aside (wr.cell? ⟨w.heap.size, 0, none⟩ = some (.slice (some ⟨b, off, none⟩) n c)))
  case atStart => exact ⟨0, by first | rfl | go_num, by omega, by omega, HO, HB, HP⟩
  case round =>
    clear HO HB HP
    obtain ⟨k, rfl, hk, hg1, HO, HB, HP⟩ := hrel
    by_cases hlt : k < n
    · have hltz : (k : Int) < (n : Int) := by omega
      have hc1 : wr.cell? ⟨w.heap.size + 1, k, none⟩ = some (.int .i64 0) := by rw [HO.out.cellAt k (by omega), fill_get n k k hlt, if_neg (by omega)]
      have hf1 : wr.frozen? ⟨w.heap.size + 1, k, none⟩ = false := HO.out.frozenAt k
      have HO1 : Aside ((wr.setCell ⟨w.heap.size + 1, k, none⟩ (.int .i64 k)).ownsRow w.heap.size 3 1 (.slice (some ⟨w.heap.size + 1, 0, none⟩) n n) n (fillL n (k + 1))) := by rw [← fill_set n k hlt]; exact (HO.out.stored k _).1
      have HB1 : Aside (Below w.heap.size w (wr.setCell ⟨w.heap.size + 1, k, none⟩ (.int .i64 k))) := HB.out.setCell (by simp) _
      have HP1 : Aside ((wr.setCell ⟨w.heap.size + 1, k, none⟩ (.int .i64 k)).cell? ⟨w.heap.size, 0, none⟩ = some (.slice (some ⟨b, off, none⟩) n c)) := by
        show _ = _
        rw [World.cell?_setCell_other _ _ _ _ (by simp)]; exact HP.out
      clear HO HB HP
      go_wp2
      clear hc1 hf1
      generalize wr.setCell ⟨w.heap.size + 1, k, none⟩ (.int .i64 k) = w1 at HO1 HB1 HP1 ⊢
      go_roundg (n - (k + 1))
      case measure => omega
      case rel => exact ⟨k + 1, by first | rfl | go_num | (congr 1; omega), by omega, Nat.le_refl _, HO1, HB1, HP1⟩
    · have hltz : ¬ (k : Int) < (n : Int) := by omega
      obtain rfl : k = n := by omega
      have hlt2 := (HO.out.lt _ rfl).2
      have C := Lib.hid (sort_at xs k b off c w.heap.size (w.heap.size + 1) w.heap.size wr hn0 hn HX.out HP.out (by omega) (by omega) (fun j hj => (HB.out.cell (p := ⟨b, off + j, none⟩) hb).trans (HC.out j hj)) HO.out)
      go_wp2_with fail
      with_reducible refine C.out.mono ?_
      rintro e w1 ⟨rfl, os, h1, h2, h3⟩
      have HE : Aside (OrdPost xs k w (.returned (.slice (some ⟨w.heap.size + 1, 0, none⟩) k k)) w1) := ⟨w.heap.size + 1, os, rfl, h1, h2, HB.out.grown h3 HB.out.size (by simp)⟩
      clear h1 h2 h3 C HO HB HP
      go_wp2
      go_ret
      exact HE.out
end Go.Proofs.YtgcoodameahkbaaDoor.Stable
