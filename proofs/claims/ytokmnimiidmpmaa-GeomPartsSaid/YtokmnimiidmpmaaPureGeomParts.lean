/- For every input: each sector of a disk of any geometry that may be is one thing alone, and all of them are as many as there are (the plain statement of the law GeomParts, over the numbers and lists that the print gives). Conditions: none but that each argument is a 64-bit number. -/
import Derived.Test.YtokmnimiidmpmaaPGeomPartsx2
namespace Go.Proofs.Ytokmnimiidmpmaa.Pure
open Go.RowKit Go.Proofs.Ytokmnimiidmpmaa.PGeomParts Go.Proofs.YtokmnimiidmpmaaW.PrintWords Go.Proofs.YtokmnimiidmpmaaW.PrintLast

theorem w64 {n : Int} (h1 : -9223372036854775808 ≤ n) (h2 : n ≤ 9223372036854775807) : wrap64 n = n := by
  unfold wrap64; omega

theorem low_some (x n : Int) (h1 : 1 ≤ n) (h2 : n ≤ 1000000000) : ∃ y, purlinlaw0_Low.f x n = some y ∧ 0 ≤ y ∧ y < n := by
  have hn : IntKind.u64.wrap n = n := by simp [IntKind.wrap, IntKind.signed, IntKind.bits]; omega
  have hx : 0 ≤ IntKind.u64.wrap x := by simp [IntKind.wrap, IntKind.signed, IntKind.bits]; omega
  refine ⟨IntKind.u64.wrap x % n, ?_, Int.emod_nonneg _ (by omega), Int.emod_lt_of_pos _ (by omega)⟩
  unfold purlinlaw0_Low.f
  rw [hn, if_neg (by omega), Int.tmod_eq_emod_of_nonneg hx]
  have h3 := Int.emod_nonneg (IntKind.u64.wrap x) (b := n) (by omega)
  have h4 := Int.emod_lt_of_pos (IntKind.u64.wrap x) (b := n) (by omega)
  rw [w64 (by omega) (by omega)]

/-- a geometry that may be: g groups, 4a inodes, b blocks -/
structure V (g a b : Int) : Prop where
  g1 : 1 ≤ g
  g8 : g ≤ 8
  a1 : 1 ≤ a
  a8 : a ≤ 8
  b1 : 16 ≤ b
  b2 : b ≤ 96

theorem between_eq (a b c : Int) : geom_between.f a b c = some (decide (b ≤ a ∧ a ≤ c)) := by
  unfold geom_between.f
  by_cases h : a ≥ b
  · rw [if_pos h]; simp [h]
  · rw [if_neg h]; simp [h]

theorem mul_bd {x y m n : Int} (hx : 0 ≤ x) (hm : x ≤ m) (hy : 0 ≤ y) (hn : y ≤ n) : 0 ≤ x * y ∧ x * y ≤ m * n :=
  ⟨Int.mul_nonneg hx hy, Int.mul_le_mul hm hn hy (by omega)⟩

variable {g a b : Int} (hv : V g a b)
include hv

theorem may_eq : geom_May.f g (4 * a) b = some true := by
  obtain ⟨_, _, _, _, _, _⟩ := hv
  unfold geom_May.f
  simp only [between_eq, Option.bind_some]
  rw [decide_eq_true (by omega), if_pos rfl, decide_eq_true (by omega), if_pos rfl, if_pos (by rw [Int.tmod_eq_emod_of_nonneg (by omega)]; omega), decide_eq_true (by omega)]

theorem long_eq : geom_long.f g (4 * a) b = some (1 + a + b) := by
  obtain ⟨_, _, _, _, _, _⟩ := hv
  unfold geom_long.f
  rw [Int.tdiv_eq_ediv_of_nonneg (by omega), show 4 * a / 4 = a by omega, w64 (n := a) (by omega) (by omega), w64 (n := 1 + a) (by omega) (by omega), w64 (by omega) (by omega)]

theorem inodes_eq : geom_Inodes.f g (4 * a) b = some (g * (4 * a)) := by
  have h := mul_bd (x := g) (y := 4 * a) (m := 8) (n := 32)
  obtain ⟨_, _, _, _, _, _⟩ := hv
  unfold geom_Inodes.f
  rw [may_eq ⟨by omega, by omega, by omega, by omega, by omega, by omega⟩]
  simp only [Option.bind_some, if_true]
  have := h (by omega) (by omega) (by omega) (by omega)
  rw [w64 (by omega) (by omega)]

theorem blocks_eq : geom_Blocks.f g (4 * a) b = some (g * b) := by
  have h := mul_bd (x := g) (y := b) (m := 8) (n := 96)
  obtain ⟨_, _, _, _, _, _⟩ := hv
  unfold geom_Blocks.f
  rw [may_eq ⟨by omega, by omega, by omega, by omega, by omega, by omega⟩]
  simp only [Option.bind_some, if_true]
  have := h (by omega) (by omega) (by omega) (by omega)
  rw [w64 (by omega) (by omega)]

theorem sectors_eq : geom_Sectors.f g (4 * a) b = some (2 + g * (1 + a + b)) := by
  have h := mul_bd (x := g) (y := 1 + a + b) (m := 8) (n := 105)
  have hl := long_eq hv
  have hm := may_eq hv
  obtain ⟨_, _, _, _, _, _⟩ := hv
  unfold geom_Sectors.f
  rw [hm, hl]
  simp only [Option.bind_some, if_true]
  have := h (by omega) (by omega) (by omega) (by omega)
  rw [w64 (n := g * _) (by omega) (by omega), w64 (by omega) (by omega)]

theorem group_eq {k : Int} (h0 : 0 ≤ k) (h1 : k < g) : geom_Group.f g (4 * a) b k = some (2 + k * (1 + a + b)) := by
  have h := mul_bd (x := k) (y := 1 + a + b) (m := 8) (n := 105)
  have hl := long_eq hv
  have hm := may_eq hv
  obtain ⟨_, _, _, _, _, _⟩ := hv
  unfold geom_Group.f
  rw [hm, hl]
  simp only [Option.bind_some, if_true, between_eq]
  have := h (by omega) (by omega) (by omega) (by omega)
  rw [w64 (n := g - 1) (by omega) (by omega), decide_eq_true (by omega), if_pos rfl, w64 (n := k * _) (by omega) (by omega), w64 (by omega) (by omega)]

theorem first_eq {k : Int} (h0 : 0 ≤ k) (h1 : k < g) : geom_First.f g (4 * a) b k = some (2 + k * (1 + a + b) + 1 + a) := by
  have h := mul_bd (x := k) (y := 1 + a + b) (m := 8) (n := 105)
  have hl := group_eq hv h0 h1
  obtain ⟨_, _, _, _, _, _⟩ := hv
  unfold geom_First.f
  rw [hl]
  simp only [Option.bind_some]
  have := h (by omega) (by omega) (by omega) (by omega)
  rw [if_neg (by omega), Int.tdiv_eq_ediv_of_nonneg (by omega), show 4 * a / 4 = a by omega, w64 (n := a) (by omega) (by omega), w64 (n := _ + 1) (by omega) (by omega), w64 (by omega) (by omega)]

theorem ofInode_eq {n : Int} (h0 : 1 ≤ n) (h1 : n ≤ g * (4 * a)) : geom_OfInode.f g (4 * a) b n = some ((n - 1) / (4 * a), (n - 1) % (4 * a)) := by
  have h := mul_bd (x := g) (y := 4 * a) (m := 8) (n := 32)
  have hi := inodes_eq hv
  obtain ⟨_, _, _, _, _, _⟩ := hv
  have := h (by omega) (by omega) (by omega) (by omega)
  unfold geom_OfInode.f
  rw [hi]
  simp only [Option.bind_some, between_eq]
  have hq := Int.ediv_nonneg (a := n - 1) (b := 4 * a) (by omega) (by omega)
  have hq2 := Int.ediv_le_self (4 * a) (a := n - 1) (by omega)
  rw [decide_eq_true (by omega), if_pos rfl, if_neg (by omega), w64 (n := n - 1) (by omega) (by omega), Int.tdiv_eq_ediv_of_nonneg (by omega), Int.tmod_eq_emod_of_nonneg (by omega), w64 (by omega) (by omega)]

theorem inode_eq {n : Int} (h0 : 1 ≤ n) (h1 : n ≤ g * (4 * a)) : geom_Inode.f g (4 * a) b n = some (2 + (n - 1) / (4 * a) * (1 + a + b) + 1 + (n - 1) % (4 * a) / 4, (n - 1) % (4 * a) % 4) := by
  have ho := ofInode_eq hv h0 h1
  have hv' := hv
  obtain ⟨_, _, _, _, _, _⟩ := hv
  have hq := Int.ediv_nonneg (a := n - 1) (b := 4 * a) (by omega) (by omega)
  have hr := Int.emod_nonneg (n - 1) (b := 4 * a) (by omega)
  have hr2 := Int.emod_lt_of_pos (n - 1) (b := 4 * a) (by omega)
  have hq2 : (n - 1) / (4 * a) < g := Int.ediv_lt_of_lt_mul (by omega) (by omega)
  have hg := group_eq hv' hq hq2
  have h := mul_bd (x := (n - 1) / (4 * a)) (y := 1 + a + b) (m := 8) (n := 105) (by omega) (by omega) (by omega) (by omega)
  unfold geom_Inode.f
  rw [ho]
  simp only [Option.bind_some]
  rw [if_neg (by omega), hg]
  simp only [Option.bind_some]
  rw [Int.tdiv_eq_ediv_of_nonneg hr, Int.tmod_eq_emod_of_nonneg hr, w64 (n := _ / 4) (by omega) (by omega), w64 (n := _ + 1) (by omega) (by omega), w64 (by omega) (by omega)]

/-- what a sector's number is made of -/
theorem key {s q r : Int} (h0 : 0 ≤ r) (h1 : r < 1 + a + b) : s = 2 + q * (1 + a + b) + r ↔ (s - 2) / (1 + a + b) = q ∧ (s - 2) % (1 + a + b) = r := by
  obtain ⟨_, _, _, _, _, _⟩ := hv
  have hd := Int.mul_ediv_add_emod (s - 2) (1 + a + b)
  constructor
  · intro h
    have e : s - 2 = r + q * (1 + a + b) := by omega
    rw [e, Int.add_mul_ediv_right _ _ (by omega), Int.ediv_eq_zero_of_lt h0 h1, Int.add_mul_emod_self_right, Int.emod_eq_of_lt h0 h1]
    omega
  · rintro ⟨rfl, rfl⟩
    rw [Int.mul_comm] at hd
    omega

theorem key4 {s q r : Int} (h0 : 0 ≤ r) (h1 : r < 4 * a) : s = q * (4 * a) + r ↔ s / (4 * a) = q ∧ s % (4 * a) = r := by
  obtain ⟨_, _, _, _, _, _⟩ := hv
  have hd := Int.mul_ediv_add_emod s (4 * a)
  constructor
  · intro h
    have e : s = r + q * (4 * a) := by omega
    rw [e, Int.add_mul_ediv_right _ _ (by omega), Int.ediv_eq_zero_of_lt h0 h1, Int.add_mul_emod_self_right, Int.emod_eq_of_lt h0 h1]
    omega
  · rintro ⟨rfl, rfl⟩
    rw [Int.mul_comm] at hd
    omega

theorem ofBlock_eq {s : Int} (h0 : 2 ≤ s) (h1 : s < 2 + g * (1 + a + b)) : geom_OfBlock.f g (4 * a) b s =
    some (if (s - 2) % (1 + a + b) < 1 + a then (-1, -1) else ((s - 2) / (1 + a + b), (s - 2) % (1 + a + b) - 1 - a)) := by
  have hs := sectors_eq hv
  have hl := long_eq hv
  have hv' := hv
  obtain ⟨_, _, _, _, _, _⟩ := hv
  have hb := mul_bd (x := g) (y := 1 + a + b) (m := 8) (n := 105) (by omega) (by omega) (by omega) (by omega)
  have hq := Int.ediv_nonneg (a := s - 2) (b := 1 + a + b) (by omega) (by omega)
  have hr := Int.emod_nonneg (s - 2) (b := 1 + a + b) (by omega)
  have hr2 := Int.emod_lt_of_pos (s - 2) (b := 1 + a + b) (by omega)
  have hq2 : (s - 2) / (1 + a + b) < g := Int.ediv_lt_of_lt_mul (by omega) (by omega)
  have hf := first_eq hv' hq hq2
  have e := (key hv' (s := s) hr hr2).mpr ⟨rfl, rfl⟩
  unfold geom_OfBlock.f
  rw [hs]
  simp only [Option.bind_some, between_eq]
  rw [w64 (n := 2 + _ - 1) (by omega) (by omega), decide_eq_true (by omega), if_pos rfl, hl]
  simp only [Option.bind_some]
  rw [if_neg (by omega), w64 (n := s - 2) (by omega) (by omega), Int.tdiv_eq_ediv_of_nonneg (by omega), w64 (n := (s - 2) / _) (by omega) (by omega), hf]
  simp only [Option.bind_some]
  rw [w64 (n := s - _) (by omega) (by omega)]
  by_cases c : (s - 2) % (1 + a + b) < 1 + a
  · rw [if_pos (by omega), if_pos c]
  · rw [if_neg (by omega), if_neg c]
    congr 2; omega

theorem ofBlock_low {s : Int} (h0 : 0 ≤ s) (h1 : s < 2) : geom_OfBlock.f g (4 * a) b s = some (-1, -1) := by
  have hs := sectors_eq hv
  unfold geom_OfBlock.f
  rw [hs]
  simp only [Option.bind_some, between_eq]
  rw [decide_eq_false (by omega), if_neg (by simp)]
omit hv

theorem awake_eq : purlinlaw5_awake.f = some true := by decide +kernel


/-- a list, by its places -/
def tab (n : Nat) (f : Int → Int) : List Int := (List.range n).map fun j : Nat => f (j : Int)

theorem tab_len (n : Nat) (f : Int → Int) : (tab n f).length = n := by simp [tab]

theorem tab_rd {n : Nat} {f : Int → Int} {i : Int} (h0 : 0 ≤ i) (h1 : i < n) : rd (tab n f) i = f i := by
  have e : ((i.toNat : Nat) : Int) = i := by omega
  unfold rd tab
  rw [List.getD_eq_getElem?_getD, List.getElem?_map, List.getElem?_range (by omega)]
  simp [e]

theorem tab_congr {n : Nat} {f f' : Int → Int} (h : ∀ j : Int, 0 ≤ j → j < n → f j = f' j) : tab n f = tab n f' := by
  unfold tab
  refine List.map_congr_left fun j hj => ?_
  exact h j (by omega) (by have := List.mem_range.mp hj; omega)

theorem tab_set {n : Nat} {f f' : Int → Int} {i v : Int} (h0 : 0 ≤ i) (hv : f' i = v) (hn : ∀ j : Int, 0 ≤ j → j < n → j ≠ i → f' j = f j) :
    (tab n f).set i.toNat v = tab n f' := by
  apply List.ext_getElem
  · simp [tab]
  · intro j h1 h2
    rw [List.getElem_set]
    have hj : j < n := by simpa [tab] using h2
    by_cases e : i.toNat = j
    · rw [if_pos e]; simp only [tab, List.getElem_map, List.getElem_range]
      rw [← hv]; congr 1; omega
    · rw [if_neg e]; simp only [tab, List.getElem_map, List.getElem_range]
      exact (hn j (by omega) (by omega) (by omega)).symm

theorem tab_ones (n : Nat) : List.replicate n (0 : Int) = tab n fun _ => 0 := by
  apply List.ext_getElem
  · simp [tab]
  · intro j h1 h2; simp [tab]

/-- what each sector is counted as, behind so many groups, inodes, blocks -/
def cnt (a b j i m : Int) (s : Int) : Int :=
  if s < 2 then 1 else
    (if (s - 2) % (1 + a + b) = 0 ∧ (s - 2) / (1 + a + b) < j then 1 else 0) +
    (if 1 ≤ (s - 2) % (1 + a + b) ∧ (s - 2) % (1 + a + b) ≤ a ∧ (s - 2) / (1 + a + b) * (4 * a) + 4 * ((s - 2) % (1 + a + b) - 1) + 1 < i then 1 else 0) +
    (if a < (s - 2) % (1 + a + b) ∧ s < m then 1 else 0)

include hv

theorem sum_bd : 0 ≤ g * (1 + a + b) ∧ g * (1 + a + b) ≤ 840 ∧ 18 ≤ g * (1 + a + b) := by
  obtain ⟨_, _, _, _, _, _⟩ := hv
  have h := mul_bd (x := g) (y := 1 + a + b) (m := 8) (n := 105) (by omega) (by omega) (by omega) (by omega)
  have h2 : 1 * 18 ≤ g * (1 + a + b) := Int.mul_le_mul (by omega) (by omega) (by omega) (by omega)
  omega

theorem in_sum {q r : Int} (h0 : 0 ≤ q) (h1 : q < g) (h3 : r < 1 + a + b) : 0 ≤ q * (1 + a + b) ∧ q * (1 + a + b) + r < g * (1 + a + b) := by
  obtain ⟨_, _, _, _, _, _⟩ := hv
  have h := Int.mul_nonneg h0 (show 0 ≤ 1 + a + b by omega)
  have h4 : (q + 1) * (1 + a + b) ≤ g * (1 + a + b) := Int.mul_le_mul_of_nonneg_right (by omega) (by omega)
  rw [Int.add_mul] at h4
  omega

theorem in_sum4 {q r : Int} (h0 : 0 ≤ q) (h1 : q < g) (h3 : r < 4 * a) : 0 ≤ q * (4 * a) ∧ q * (4 * a) + r < g * (4 * a) := by
  obtain ⟨_, _, _, _, _, _⟩ := hv
  have h := Int.mul_nonneg h0 (show 0 ≤ 4 * a by omega)
  have h4 : (q + 1) * (4 * a) ≤ g * (4 * a) := Int.mul_le_mul_of_nonneg_right (by omega) (by omega)
  rw [Int.add_mul] at h4
  omega

/-- of a sector: its group and its place there -/
theorem split {s : Int} (h0 : 2 ≤ s) (h1 : s < 2 + g * (1 + a + b)) : 0 ≤ (s - 2) % (1 + a + b) ∧ (s - 2) % (1 + a + b) < 1 + a + b ∧ 0 ≤ (s - 2) / (1 + a + b) ∧ (s - 2) / (1 + a + b) < g := by
  obtain ⟨_, _, _, _, _, _⟩ := hv
  exact ⟨Int.emod_nonneg _ (by omega), Int.emod_lt_of_pos _ (by omega), Int.ediv_nonneg (by omega) (by omega), Int.ediv_lt_of_lt_mul (by omega) (by omega)⟩

/-- the last loop: each is one -/
theorem l3_true {n : Nat} (hn : (n : Int) = 2 + g * (1 + a + b)) (d : Nat) : ∀ (k : Nat) (s : Int), 0 ≤ s → s ≤ n → (n : Int) - s = d → d < k →
    purlinlaw5_GeomParts.l3 k n (tab n (cnt a b g (g * (4 * a) + 1) n)) (g * b) s g (4 * a) b = some true := by
  induction d with
  | zero =>
    intro k s h0 h1 hd hk
    obtain ⟨k, rfl⟩ : ∃ m, k = m + 1 := ⟨k - 1, by omega⟩
    simp only [purlinlaw5_GeomParts.l3]
    rw [if_neg (by omega), blocks_eq hv]
    simp [awake_eq]
  | succ d ih =>
    intro k s h0 h1 hd hk
    obtain ⟨k, rfl⟩ : ∃ m, k = m + 1 := ⟨k - 1, by omega⟩
    have hlt : s < (n : Int) := by omega
    have hsum := sum_bd hv
    have hone : cnt a b g (g * (4 * a) + 1) n s = 1 := by
      unfold cnt
      by_cases h2 : s < 2
      · rw [if_pos h2]
      · obtain ⟨r0, r1, q0, q1⟩ := split hv (s := s) (by omega) (by omega)
        rw [if_neg h2]
        by_cases c0 : (s - 2) % (1 + a + b) = 0
        · rw [if_pos ⟨c0, q1⟩, if_neg (by omega), if_neg (by have := hv.a1; omega)]; rfl
        · by_cases c1 : (s - 2) % (1 + a + b) ≤ a
          · have := in_sum4 hv q0 q1 (r := 4 * ((s - 2) % (1 + a + b) - 1)) (by omega)
            rw [if_neg (by omega), if_pos ⟨by omega, c1, by omega⟩, if_neg (by omega)]; rfl
          · rw [if_neg (by omega), if_neg (by omega), if_pos ⟨by omega, hlt⟩]; rfl
    simp only [purlinlaw5_GeomParts.l3, tab_len]
    rw [if_pos hlt, if_pos h0, if_pos hlt, tab_rd h0 hlt, hone, if_pos rfl, w64 (by omega) (by omega)]
    exact ih k (s + 1) (by omega) (by omega) (by omega) (by omega)

/-- how many blocks stand ahead of a sector -/
def ahead (a b s : Int) : Int := if s < 2 then 0 else (s - 2) / (1 + a + b) * b + (if a < (s - 2) % (1 + a + b) then (s - 2) % (1 + a + b) - 1 - a else 0)

omit hv in
theorem ahead_succ (hv : V g a b) {s : Int} (h0 : 2 ≤ s) (h1 : s < 2 + g * (1 + a + b)) :
    ahead a b (s + 1) = ahead a b s + (if a < (s - 2) % (1 + a + b) then 1 else 0) := by
  obtain ⟨r0, r1, q0, q1⟩ := split hv h0 h1
  have e := (key hv (s := s) r0 r1).mpr ⟨rfl, rfl⟩
  have ha := hv.a1
  have hb := hv.b1
  unfold ahead
  rw [if_neg (c := s + 1 < 2) (by omega), if_neg (c := s < 2) (by omega)]
  by_cases c : (s - 2) % (1 + a + b) + 1 < 1 + a + b
  · obtain ⟨e1, e2⟩ := (key hv (s := s + 1) (q := (s - 2) / (1 + a + b)) (r := (s - 2) % (1 + a + b) + 1) (by omega) c).mp (by omega)
    rw [e1, e2]
    by_cases c1 : a < (s - 2) % (1 + a + b)
    · rw [if_pos (by omega), if_pos c1, if_pos c1]; omega
    · rw [if_neg c1, if_neg c1]
      by_cases c2 : a < (s - 2) % (1 + a + b) + 1
      · rw [if_pos c2]; omega
      · rw [if_neg c2]; omega
  · obtain ⟨e1, e2⟩ := (key hv (s := s + 1) (q := (s - 2) / (1 + a + b) + 1) (r := 0) (by omega) (by omega)).mp (by rw [Int.add_mul]; omega)
    rw [e1, e2, if_neg (by omega), if_pos (by omega), if_pos (by omega), Int.add_mul]
    omega

theorem ahead_bd {s : Int} (h1 : s ≤ 2 + g * (1 + a + b)) : 0 ≤ ahead a b s ∧ ahead a b s ≤ 1000 := by
  have hsum := sum_bd hv
  have ha := hv.a1
  have hb := hv.b1
  have hb2 := hv.b2
  have hg := hv.g8
  unfold ahead
  by_cases h2 : s < 2
  · rw [if_pos h2]; omega
  · rw [if_neg h2]
    have r0 := Int.emod_nonneg (s - 2) (b := 1 + a + b) (by omega)
    have r1 := Int.emod_lt_of_pos (s - 2) (b := 1 + a + b) (by omega)
    have q0 := Int.ediv_nonneg (a := s - 2) (b := 1 + a + b) (by omega) (by omega)
    have q1 : (s - 2) / (1 + a + b) < g + 1 := Int.ediv_lt_of_lt_mul (by omega) (by rw [Int.add_mul]; omega)
    have := mul_bd (x := (s - 2) / (1 + a + b)) (y := b) (m := 8) (n := 96) q0 (by omega) (by omega) (by omega)
    split <;> omega

theorem ahead_end : ahead a b (2 + g * (1 + a + b)) = g * b := by
  have hsum := sum_bd hv
  have ha := hv.a1
  have hb := hv.b1
  obtain ⟨e1, e2⟩ := (key hv (s := 2 + g * (1 + a + b)) (q := g) (r := 0) (by omega) (by omega)).mp (by omega)
  unfold ahead
  rw [if_neg (by omega), e1, e2, if_neg (by omega)]; omega

theorem l2_true {n : Nat} (hn : (n : Int) = 2 + g * (1 + a + b)) (d : Nat) : ∀ (k : Nat) (s : Int), 0 ≤ s → s ≤ n → (n : Int) - s = d → d + n + 1 < k →
    purlinlaw5_GeomParts.l2 k n (tab n (cnt a b g (g * (4 * a) + 1) s)) (ahead a b s) s g (4 * a) b = some true := by
  induction d with
  | zero =>
    intro k s h0 h1 hd hk
    obtain ⟨k, rfl⟩ : ∃ m, k = m + 1 := ⟨k - 1, by omega⟩
    obtain rfl : s = n := by omega
    simp only [purlinlaw5_GeomParts.l2]
    rw [if_neg (by omega)]
    have := l3_true hv hn n k 0 (by omega) (by omega) (by omega) (by omega)
    rw [show ahead a b (n : Int) = g * b by rw [hn]; exact ahead_end hv]
    exact this
  | succ d ih =>
    intro k s h0 h1 hd hk
    obtain ⟨k, rfl⟩ : ∃ m, k = m + 1 := ⟨k - 1, by omega⟩
    have hlt : s < (n : Int) := by omega
    have hsum := sum_bd hv
    have hab := ahead_bd hv (s := s) (by omega)
    have hi := ih k (s + 1) (by omega) (by omega) (by omega) (by omega)
    simp only [purlinlaw5_GeomParts.l2, tab_len]
    rw [if_pos hlt]
    by_cases h2 : s < 2
    · rw [ofBlock_low hv h0 h2]
      simp only [Option.bind_some]
      rw [if_neg (by omega), w64 (by omega) (by omega)]
      have e1 : tab n (cnt a b g (g * (4 * a) + 1) (s + 1)) = tab n (cnt a b g (g * (4 * a) + 1) s) := by
        refine tab_congr fun j _ _ => ?_
        unfold cnt
        by_cases hj : j < 2
        · rw [if_pos hj, if_pos hj]
        · rw [if_neg hj, if_neg hj]
          rw [if_neg (c := a < _ ∧ j < s + 1) (by omega), if_neg (c := a < _ ∧ j < s) (by omega)]
      have e2 : ahead a b (s + 1) = ahead a b s := by
        have ha := hv.a1
        have hb := hv.b1
        unfold ahead
        rw [if_pos (c := s < 2) h2]
        by_cases h3 : s + 1 < 2
        · rw [if_pos h3]
        · rw [if_neg h3, show s + 1 - 2 = 0 by omega, Int.zero_ediv, Int.zero_emod, if_neg (by omega)]; omega
      rw [e1, e2] at hi
      exact hi
    · have hs := ahead_succ hv (s := s) (by omega) (by omega)
      obtain ⟨r0, r1, q0, q1⟩ := split hv (s := s) (by omega) (by omega)
      have ek := (key hv (s := s) r0 r1).mpr ⟨rfl, rfl⟩
      rw [ofBlock_eq hv (s := s) (by omega) (by omega)]
      simp only [Option.bind_some]
      by_cases c : (s - 2) % (1 + a + b) < 1 + a
      · rw [if_pos c]
        simp only []
        rw [if_neg (by omega), w64 (by omega) (by omega)]
        rw [if_neg (by omega)] at hs
        have e1 : tab n (cnt a b g (g * (4 * a) + 1) (s + 1)) = tab n (cnt a b g (g * (4 * a) + 1) s) := by
          refine tab_congr fun j _ _ => ?_
          unfold cnt
          by_cases hj : j < 2
          · rw [if_pos hj, if_pos hj]
          · rw [if_neg hj, if_neg hj]
            congr 1
            by_cases e : j = s
            · rw [e, if_neg (by omega), if_neg (by omega)]
            · by_cases cc : a < (j - 2) % (1 + a + b) ∧ j < s
              · rw [if_pos (by omega), if_pos cc]
              · rw [if_neg (by omega), if_neg cc]
        rw [e1, hs, Int.add_zero] at hi
        exact hi
      · rw [if_neg c]
        simp only []
        rw [if_pos (by omega), if_pos h0, if_pos hlt, first_eq hv q0 q1]
        simp only [Option.bind_some]
        have hq := in_sum hv q0 q1 r1
        rw [w64 (n := _ + (_ - 1 - a)) (by omega) (by omega), if_pos (by omega), tab_rd h0 hlt]
        rw [if_pos (by omega)] at hs
        have hz : cnt a b g (g * (4 * a) + 1) s s = 0 := by
          unfold cnt
          rw [if_neg h2, if_neg (by have := hv.a1; omega), if_neg (by omega), if_neg (by omega)]; rfl
        rw [hz, w64 (n := 0 + 1) (by omega) (by omega), w64 (n := ahead a b s + 1) (by omega) (by omega), w64 (n := s + 1) (by omega) (by omega), ← hs]
        rw [tab_set (f' := cnt a b g (g * (4 * a) + 1) (s + 1)) h0]
        · exact hi
        · unfold cnt
          rw [if_neg h2, if_neg (by have := hv.a1; omega), if_neg (by omega), if_pos (by omega)]; rfl
        · intro j _ _ hj
          unfold cnt
          by_cases hj2 : j < 2
          · rw [if_pos hj2, if_pos hj2]
          · rw [if_neg hj2, if_neg hj2]
            congr 1
            by_cases cc : a < (j - 2) % (1 + a + b) ∧ j < s
            · rw [if_pos (by omega), if_pos cc]
            · rw [if_neg (by omega), if_neg cc]

theorem l1_true {n : Nat} (hn : (n : Int) = 2 + g * (1 + a + b)) (d : Nat) : ∀ (k : Nat) (i : Int), 1 ≤ i → i ≤ g * (4 * a) + 1 → g * (4 * a) + 1 - i = d → 2 * d + 2 * n + 4 < k →
    purlinlaw5_GeomParts.l1 k n (tab n (cnt a b g i 0)) i g (4 * a) b = some true := by
  have hg4 := mul_bd (x := g) (y := 4 * a) (m := 8) (n := 32) (by have := hv.g1; omega) hv.g8 (by have := hv.a1; omega) (by have := hv.a8; omega)
  induction d with
  | zero =>
    intro k i h0 h1 hd hk
    obtain ⟨k, rfl⟩ : ∃ m, k = m + 1 := ⟨k - 1, by omega⟩
    obtain rfl : i = g * (4 * a) + 1 := by omega
    simp only [purlinlaw5_GeomParts.l1]
    rw [inodes_eq hv]
    simp only [Option.bind_some]
    rw [if_neg (by omega)]
    exact l2_true hv hn n k 0 (by omega) (by omega) (by omega) (by omega)
  | succ d ih =>
    intro k i h0 h1 hd hk
    obtain ⟨k, rfl⟩ : ∃ m, k = m + 2 := ⟨k - 2, by omega⟩
    have hi := ih k (i + 1) (by omega) (by omega) (by omega) (by omega)
    have hsum := sum_bd hv
    have ha := hv.a1
    have ha8 := hv.a8
    have hb := hv.b1
    have hb2 := hv.b2
    have hg8 := hv.g8
    have hin : i ≤ g * (4 * a) := by omega
    have r0 := Int.emod_nonneg (i - 1) (b := 4 * a) (by omega)
    have r1 := Int.emod_lt_of_pos (i - 1) (b := 4 * a) (by omega)
    have q0 := Int.ediv_nonneg (a := i - 1) (b := 4 * a) (by omega) (by omega)
    have q1 : (i - 1) / (4 * a) < g := Int.ediv_lt_of_lt_mul (by omega) (by omega)
    have e4 := (key4 hv (s := i - 1) r0 r1).mpr ⟨rfl, rfl⟩
    have hs := in_sum hv q0 q1 (r := 1 + (i - 1) % (4 * a) / 4) (by omega)
    simp only [purlinlaw5_GeomParts.l1]
    rw [inodes_eq hv]
    simp only [Option.bind_some]
    rw [if_pos hin, inode_eq hv h0 hin, ofInode_eq hv h0 hin]
    simp only [Option.bind_some]
    rw [if_neg (by omega), if_neg (by omega), if_neg (by omega), if_neg (by omega), if_neg (by omega), if_neg (by omega)]
    have hmul : (i - 1) / (4 * a) * (4 * a) ≤ i - 1 ∧ 0 ≤ (i - 1) / (4 * a) * (4 * a) := ⟨by omega, Int.mul_nonneg q0 (by omega)⟩
    rw [w64 (n := (i - 1) / (4 * a) * (4 * a)) (by omega) (by omega), w64 (n := _ + (i - 1) % (4 * a)) (by omega) (by omega), w64 (n := i - 1) (by omega) (by omega)]
    simp only [purlinlaw5_GeomParts.j3, tab_len]
    rw [if_neg (by simp; omega)]
    have hset : ∀ j : Int, 0 ≤ j → j < n → ¬ (j = 2 + (i - 1) / (4 * a) * (1 + a + b) + (1 + (i - 1) % (4 * a) / 4) ∧ (i - 1) % (4 * a) % 4 = 0) → cnt a b g (i + 1) 0 j = cnt a b g i 0 j := by
      intro j hj0 hjn hne
      unfold cnt
      by_cases hj2 : j < 2
      · rw [if_pos hj2, if_pos hj2]
      · rw [if_neg hj2, if_neg hj2]
        congr 2
        obtain ⟨s0, s1, p0, p1⟩ := split hv (s := j) (by omega) (by omega)
        by_cases cc : 1 ≤ (j - 2) % (1 + a + b) ∧ (j - 2) % (1 + a + b) ≤ a ∧ (j - 2) / (1 + a + b) * (4 * a) + 4 * ((j - 2) % (1 + a + b) - 1) + 1 < i
        · rw [if_pos cc, if_pos (by omega)]
        · rw [if_neg cc]
          refine if_neg fun c2 => ?_
          obtain ⟨f1, f2⟩ := (key4 hv (s := i - 1) (q := (j - 2) / (1 + a + b)) (r := 4 * ((j - 2) % (1 + a + b) - 1)) (by omega) (by omega)).mp (by omega)
          refine hne ⟨?_, by omega⟩
          rw [f1, f2]
          have := (key hv (s := j) s0 s1).mpr ⟨rfl, rfl⟩
          omega
    by_cases hat : (i - 1) % (4 * a) % 4 = 0
    · rw [if_pos hat, if_pos (by omega), if_pos (by omega), tab_rd (by omega) (by omega)]
      obtain ⟨k1, k2⟩ := (key hv (s := 2 + (i - 1) / (4 * a) * (1 + a + b) + 1 + (i - 1) % (4 * a) / 4) (q := (i - 1) / (4 * a)) (r := 1 + (i - 1) % (4 * a) / 4) (by omega) (by omega)).mp (by omega)
      have hz : cnt a b g i 0 (2 + (i - 1) / (4 * a) * (1 + a + b) + 1 + (i - 1) % (4 * a) / 4) = 0 := by
        unfold cnt
        rw [if_neg (by omega), k1, k2, if_neg (by omega), if_neg (by omega), if_neg (by omega)]; rfl
      rw [hz, w64 (n := 0 + 1) (by omega) (by omega), w64 (n := i + 1) (by omega) (by omega)]
      rw [tab_set (f' := cnt a b g (i + 1) 0) (by omega)]
      · exact hi
      · unfold cnt
        rw [if_neg (by omega), k1, k2, if_neg (by omega), if_pos (by omega), if_neg (by omega)]; rfl
      · intro j hj0 hjn hne
        exact hset j hj0 hjn (by omega)
    · rw [if_neg hat, w64 (n := i + 1) (by omega) (by omega)]
      rw [tab_congr (f' := cnt a b g (i + 1) 0)]
      · exact hi
      · intro j hj0 hjn
        exact (hset j hj0 hjn (by omega)).symm

theorem l0_true {n : Nat} (hn : (n : Int) = 2 + g * (1 + a + b)) (d : Nat) : ∀ (k : Nat) (i : Int), 0 ≤ i → i ≤ g → g - i = d → d + 2 * n + 2 * 257 + 5 < k →
    purlinlaw5_GeomParts.l0 k n (tab n (cnt a b i 1 0)) i g (4 * a) b = some true := by
  have hg4 := mul_bd (x := g) (y := 4 * a) (m := 8) (n := 32) (by have := hv.g1; omega) hv.g8 (by have := hv.a1; omega) (by have := hv.a8; omega)
  induction d with
  | zero =>
    intro k i h0 h1 hd hk
    obtain ⟨k, rfl⟩ : ∃ m, k = m + 1 := ⟨k - 1, by omega⟩
    obtain rfl : i = g := by omega
    simp only [purlinlaw5_GeomParts.l0]
    rw [if_neg (by omega)]
    exact l1_true hv hn (i * (4 * a)).toNat k 1 (by omega) (by omega) (by omega) (by omega)
  | succ d ih =>
    intro k i h0 h1 hd hk
    obtain ⟨k, rfl⟩ : ∃ m, k = m + 1 := ⟨k - 1, by omega⟩
    have hi := ih k (i + 1) (by omega) (by omega) (by omega) (by omega)
    have hsum := sum_bd hv
    have ha := hv.a1
    have hb := hv.b1
    have hg8 := hv.g8
    have hs := in_sum hv h0 (show i < g by omega) (r := 0) (by omega)
    simp only [purlinlaw5_GeomParts.l0, tab_len]
    rw [if_pos (by omega), group_eq hv h0 (by omega)]
    simp only [Option.bind_some]
    rw [if_neg (by omega), if_neg (by omega), if_pos (by omega), if_pos (by omega), tab_rd (by omega) (by omega), w64 (n := i + 1) (by omega) (by omega)]
    obtain ⟨k1, k2⟩ := (key hv (s := 2 + i * (1 + a + b)) (q := i) (r := 0) (by omega) (by omega)).mp (by omega)
    have hz : cnt a b i 1 0 (2 + i * (1 + a + b)) = 0 := by
      unfold cnt
      rw [if_neg (by omega), k1, k2, if_neg (by omega), if_neg (by omega), if_neg (by omega)]; rfl
    rw [hz, w64 (n := 0 + 1) (by omega) (by omega)]
    rw [tab_set (f' := cnt a b (i + 1) 1 0) (by omega)]
    · exact hi
    · unfold cnt
      rw [if_neg (by omega), k1, k2, if_pos (by omega), if_neg (by omega), if_neg (by omega)]; rfl
    · intro j hj0 hjn hne
      unfold cnt
      by_cases hj2 : j < 2
      · rw [if_pos hj2, if_pos hj2]
      · rw [if_neg hj2, if_neg hj2]
        congr 2
        obtain ⟨s0, s1, p0, p1⟩ := split hv (s := j) (by omega) (by omega)
        by_cases cc : (j - 2) % (1 + a + b) = 0 ∧ (j - 2) / (1 + a + b) < i
        · rw [if_pos cc, if_pos (by omega)]
        · rw [if_neg cc]
          refine if_neg fun c2 => hne ?_
          have e := (key hv (s := j) s0 s1).mpr ⟨rfl, rfl⟩
          obtain e2 : (j - 2) / (1 + a + b) = i := by omega
          rw [e2] at e
          omega
omit hv

theorem GeomParts : purlinlaw5_GeomParts.Pure := by
  intro x y z _ _ _
  obtain ⟨u, hu, u0, u1⟩ := low_some x 8 (by omega) (by omega)
  obtain ⟨v, hv', v0, v1⟩ := low_some y 8 (by omega) (by omega)
  obtain ⟨t, ht, t0, t1⟩ := low_some z 81 (by omega) (by omega)
  have hv : V (1 + u) (v + 1) (16 + t) := ⟨by omega, by omega, by omega, by omega, by omega, by omega⟩
  have hsum := sum_bd hv
  obtain ⟨n, hn⟩ : ∃ n : Nat, (n : Int) = 2 + (1 + u) * (1 + (v + 1) + (16 + t)) := ⟨(2 + (1 + u) * (1 + (v + 1) + (16 + t))).toNat, by omega⟩
  refine ⟨10000, ?_⟩
  unfold purlinlaw5_GeomParts.f
  rw [hu, hv', ht]
  simp only [Option.bind_some]
  rw [w64 (n := 1 + u) (by omega) (by omega), w64 (n := 16 + t) (by omega) (by omega), w64 (n := 4 * v) (by omega) (by omega), w64 (n := 4 + 4 * v) (by omega) (by omega), show 4 + 4 * v = 4 * (v + 1) by omega, sectors_eq hv, ← hn]
  simp only [Option.bind_some]
  rw [if_neg (by omega), decide_eq_false (by omega)]
  simp only [purlinlaw5_GeomParts.j0]
  rw [if_neg (by simp), if_pos (by omega), if_pos (by omega), Int.toNat_natCast, tab_ones, Option.bind_some, tab_len, if_pos (by omega), if_pos (by omega)]
  have e : ((tab n fun _ => 0).set (0 : Int).toNat 1).set (1 : Int).toNat 1 = tab n (cnt (v + 1) (16 + t) 0 1 0) := by
    rw [tab_set (v := 1) (f' := fun j => if j = 0 then 1 else 0) (by omega) rfl (fun j _ _ h => if_neg h)]
    refine tab_set (by omega) rfl fun j h0 h1 h2 => ?_
    unfold cnt
    by_cases hj : j < 2
    · rw [if_pos hj, if_pos (by omega)]
    · obtain ⟨s0, s1, p0, p1⟩ := split hv (s := j) (by omega) (by omega)
      have : 0 ≤ (j - 2) / (1 + (v + 1) + (16 + t)) * (4 * (v + 1)) := Int.mul_nonneg p0 (by omega)
      rw [if_neg hj, if_neg (by omega), if_neg (by omega), if_neg (by omega), if_neg (by omega)]; rfl
  rw [e]
  exact l0_true hv hn (1 + u).toNat 9999 0 (by omega) (by omega) (by omega) (by omega)

end Go.Proofs.Ytokmnimiidmpmaa.Pure
