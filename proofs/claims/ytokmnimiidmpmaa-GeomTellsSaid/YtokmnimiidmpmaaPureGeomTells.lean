/- For every input: where anything stands in any geometry is the document's (the plain statement of the law GeomTells over the print's functions). Conditions: none. -/
import Derived.Test.YtokmnimiidmpmaaGeomTellsDefs
namespace Go.Proofs.Ytokmnimiidmpmaa.Pure
open Go.RowKit Go.Proofs.Ytokmnimiidmpmaa.PGeomTells Go.Proofs.YtokmnimiidmpmaaW.PrintWords Go.Proofs.YtokmnimiidmpmaaW.PrintLast

theorem w64 {n : Int} (h1 : -9223372036854775808 ≤ n) (h2 : n ≤ 9223372036854775807) : wrap64 n = n := by
  unfold wrap64; omega

/-- a geometry that may be: g groups, 4a inodes, b blocks -/
structure V (g a b : Int) : Prop where
  g1 : 1 ≤ g
  g8 : g ≤ 8
  a1 : 1 ≤ a
  a8 : a ≤ 8
  b1 : 16 ≤ b
  b2 : b ≤ 96

theorem between_eq (a b c : Int) : geom_between.f a b c = some (decide (b ≤ a ∧ a ≤ c)) := by
  unfold geom_between.f
  by_cases h : a ≥ b
  · rw [if_pos h]; simp [h]
  · rw [if_neg h]; simp [h]

theorem mul_bd {x y m n : Int} (hx : 0 ≤ x) (hm : x ≤ m) (hy : 0 ≤ y) (hn : y ≤ n) : 0 ≤ x * y ∧ x * y ≤ m * n :=
  ⟨Int.mul_nonneg hx hy, Int.mul_le_mul hm hn hy (by omega)⟩

variable {g a b : Int} (hv : V g a b)
include hv

theorem may_eq : geom_May.f g (4 * a) b = some true := by
  obtain ⟨_, _, _, _, _, _⟩ := hv
  unfold geom_May.f
  simp only [between_eq, Option.bind_some]
  rw [decide_eq_true (by omega), if_pos rfl, decide_eq_true (by omega), if_pos rfl, if_pos (by rw [Int.tmod_eq_emod_of_nonneg (by omega)]; omega), decide_eq_true (by omega)]

theorem long_eq : geom_long.f g (4 * a) b = some (1 + a + b) := by
  obtain ⟨_, _, _, _, _, _⟩ := hv
  unfold geom_long.f
  rw [Int.tdiv_eq_ediv_of_nonneg (by omega), show 4 * a / 4 = a by omega, w64 (n := a) (by omega) (by omega), w64 (n := 1 + a) (by omega) (by omega), w64 (by omega) (by omega)]

theorem inodes_eq : geom_Inodes.f g (4 * a) b = some (g * (4 * a)) := by
  have h := mul_bd (x := g) (y := 4 * a) (m := 8) (n := 32)
  obtain ⟨_, _, _, _, _, _⟩ := hv
  unfold geom_Inodes.f
  rw [may_eq ⟨by omega, by omega, by omega, by omega, by omega, by omega⟩]
  simp only [Option.bind_some, if_true]
  have := h (by omega) (by omega) (by omega) (by omega)
  rw [w64 (by omega) (by omega)]

theorem blocks_eq : geom_Blocks.f g (4 * a) b = some (g * b) := by
  have h := mul_bd (x := g) (y := b) (m := 8) (n := 96)
  obtain ⟨_, _, _, _, _, _⟩ := hv
  unfold geom_Blocks.f
  rw [may_eq ⟨by omega, by omega, by omega, by omega, by omega, by omega⟩]
  simp only [Option.bind_some, if_true]
  have := h (by omega) (by omega) (by omega) (by omega)
  rw [w64 (by omega) (by omega)]

theorem sectors_eq : geom_Sectors.f g (4 * a) b = some (2 + g * (1 + a + b)) := by
  have h := mul_bd (x := g) (y := 1 + a + b) (m := 8) (n := 105)
  have hl := long_eq hv
  have hm := may_eq hv
  obtain ⟨_, _, _, _, _, _⟩ := hv
  unfold geom_Sectors.f
  rw [hm, hl]
  simp only [Option.bind_some, if_true]
  have := h (by omega) (by omega) (by omega) (by omega)
  rw [w64 (n := g * _) (by omega) (by omega), w64 (by omega) (by omega)]

theorem group_eq {k : Int} (h0 : 0 ≤ k) (h1 : k < g) : geom_Group.f g (4 * a) b k = some (2 + k * (1 + a + b)) := by
  have h := mul_bd (x := k) (y := 1 + a + b) (m := 8) (n := 105)
  have hl := long_eq hv
  have hm := may_eq hv
  obtain ⟨_, _, _, _, _, _⟩ := hv
  unfold geom_Group.f
  rw [hm, hl]
  simp only [Option.bind_some, if_true, between_eq]
  have := h (by omega) (by omega) (by omega) (by omega)
  rw [w64 (n := g - 1) (by omega) (by omega), decide_eq_true (by omega), if_pos rfl, w64 (n := k * _) (by omega) (by omega), w64 (by omega) (by omega)]

theorem first_eq {k : Int} (h0 : 0 ≤ k) (h1 : k < g) : geom_First.f g (4 * a) b k = some (2 + k * (1 + a + b) + 1 + a) := by
  have h := mul_bd (x := k) (y := 1 + a + b) (m := 8) (n := 105)
  have hl := group_eq hv h0 h1
  obtain ⟨_, _, _, _, _, _⟩ := hv
  unfold geom_First.f
  rw [hl]
  simp only [Option.bind_some]
  have := h (by omega) (by omega) (by omega) (by omega)
  rw [if_neg (by omega), Int.tdiv_eq_ediv_of_nonneg (by omega), show 4 * a / 4 = a by omega, w64 (n := a) (by omega) (by omega), w64 (n := _ + 1) (by omega) (by omega), w64 (by omega) (by omega)]

theorem ofInode_eq {n : Int} (h0 : 1 ≤ n) (h1 : n ≤ g * (4 * a)) : geom_OfInode.f g (4 * a) b n = some ((n - 1) / (4 * a), (n - 1) % (4 * a)) := by
  have h := mul_bd (x := g) (y := 4 * a) (m := 8) (n := 32)
  have hi := inodes_eq hv
  obtain ⟨_, _, _, _, _, _⟩ := hv
  have := h (by omega) (by omega) (by omega) (by omega)
  unfold geom_OfInode.f
  rw [hi]
  simp only [Option.bind_some, between_eq]
  have hq := Int.ediv_nonneg (a := n - 1) (b := 4 * a) (by omega) (by omega)
  have hq2 := Int.ediv_le_self (4 * a) (a := n - 1) (by omega)
  rw [decide_eq_true (by omega), if_pos rfl, if_neg (by omega), w64 (n := n - 1) (by omega) (by omega), Int.tdiv_eq_ediv_of_nonneg (by omega), Int.tmod_eq_emod_of_nonneg (by omega), w64 (by omega) (by omega)]

theorem inode_eq {n : Int} (h0 : 1 ≤ n) (h1 : n ≤ g * (4 * a)) : geom_Inode.f g (4 * a) b n = some (2 + (n - 1) / (4 * a) * (1 + a + b) + 1 + (n - 1) % (4 * a) / 4, (n - 1) % (4 * a) % 4) := by
  have ho := ofInode_eq hv h0 h1
  have hv' := hv
  obtain ⟨_, _, _, _, _, _⟩ := hv
  have hq := Int.ediv_nonneg (a := n - 1) (b := 4 * a) (by omega) (by omega)
  have hr := Int.emod_nonneg (n - 1) (b := 4 * a) (by omega)
  have hr2 := Int.emod_lt_of_pos (n - 1) (b := 4 * a) (by omega)
  have hq2 : (n - 1) / (4 * a) < g := Int.ediv_lt_of_lt_mul (by omega) (by omega)
  have hg := group_eq hv' hq hq2
  have h := mul_bd (x := (n - 1) / (4 * a)) (y := 1 + a + b) (m := 8) (n := 105) (by omega) (by omega) (by omega) (by omega)
  unfold geom_Inode.f
  rw [ho]
  simp only [Option.bind_some]
  rw [if_neg (by omega), hg]
  simp only [Option.bind_some]
  rw [Int.tdiv_eq_ediv_of_nonneg hr, Int.tmod_eq_emod_of_nonneg hr, w64 (n := _ / 4) (by omega) (by omega), w64 (n := _ + 1) (by omega) (by omega), w64 (by omega) (by omega)]

/-- what a sector's number is made of -/
theorem key {s q r : Int} (h0 : 0 ≤ r) (h1 : r < 1 + a + b) : s = 2 + q * (1 + a + b) + r ↔ (s - 2) / (1 + a + b) = q ∧ (s - 2) % (1 + a + b) = r := by
  obtain ⟨_, _, _, _, _, _⟩ := hv
  have hd := Int.mul_ediv_add_emod (s - 2) (1 + a + b)
  constructor
  · intro h
    have e : s - 2 = r + q * (1 + a + b) := by omega
    rw [e, Int.add_mul_ediv_right _ _ (by omega), Int.ediv_eq_zero_of_lt h0 h1, Int.add_mul_emod_self_right, Int.emod_eq_of_lt h0 h1]
    omega
  · rintro ⟨rfl, rfl⟩
    rw [Int.mul_comm] at hd
    omega

theorem key4 {s q r : Int} (h0 : 0 ≤ r) (h1 : r < 4 * a) : s = q * (4 * a) + r ↔ s / (4 * a) = q ∧ s % (4 * a) = r := by
  obtain ⟨_, _, _, _, _, _⟩ := hv
  have hd := Int.mul_ediv_add_emod s (4 * a)
  constructor
  · intro h
    have e : s = r + q * (4 * a) := by omega
    rw [e, Int.add_mul_ediv_right _ _ (by omega), Int.ediv_eq_zero_of_lt h0 h1, Int.add_mul_emod_self_right, Int.emod_eq_of_lt h0 h1]
    omega
  · rintro ⟨rfl, rfl⟩
    rw [Int.mul_comm] at hd
    omega

theorem ofBlock_eq {s : Int} (h0 : 2 ≤ s) (h1 : s < 2 + g * (1 + a + b)) : geom_OfBlock.f g (4 * a) b s =
    some (if (s - 2) % (1 + a + b) < 1 + a then (-1, -1) else ((s - 2) / (1 + a + b), (s - 2) % (1 + a + b) - 1 - a)) := by
  have hs := sectors_eq hv
  have hl := long_eq hv
  have hv' := hv
  obtain ⟨_, _, _, _, _, _⟩ := hv
  have hb := mul_bd (x := g) (y := 1 + a + b) (m := 8) (n := 105) (by omega) (by omega) (by omega) (by omega)
  have hq := Int.ediv_nonneg (a := s - 2) (b := 1 + a + b) (by omega) (by omega)
  have hr := Int.emod_nonneg (s - 2) (b := 1 + a + b) (by omega)
  have hr2 := Int.emod_lt_of_pos (s - 2) (b := 1 + a + b) (by omega)
  have hq2 : (s - 2) / (1 + a + b) < g := Int.ediv_lt_of_lt_mul (by omega) (by omega)
  have hf := first_eq hv' hq hq2
  have e := (key hv' (s := s) hr hr2).mpr ⟨rfl, rfl⟩
  unfold geom_OfBlock.f
  rw [hs]
  simp only [Option.bind_some, between_eq]
  rw [w64 (n := 2 + _ - 1) (by omega) (by omega), decide_eq_true (by omega), if_pos rfl, hl]
  simp only [Option.bind_some]
  rw [if_neg (by omega), w64 (n := s - 2) (by omega) (by omega), Int.tdiv_eq_ediv_of_nonneg (by omega), w64 (n := (s - 2) / _) (by omega) (by omega), hf]
  simp only [Option.bind_some]
  rw [w64 (n := s - _) (by omega) (by omega)]
  by_cases c : (s - 2) % (1 + a + b) < 1 + a
  · rw [if_pos (by omega), if_pos c]
  · rw [if_neg (by omega), if_neg c]
    congr 2; omega

theorem ofBlock_low {s : Int} (h0 : 0 ≤ s) (h1 : s < 2) : geom_OfBlock.f g (4 * a) b s = some (-1, -1) := by
  have hs := sectors_eq hv
  unfold geom_OfBlock.f
  rw [hs]
  simp only [Option.bind_some, between_eq]
  rw [decide_eq_false (by omega), if_neg (by simp)]
omit hv

theorem awake_eq : purlinlaw5_awake.f = some true := by decide +kernel

/-- may a geometry be: the document's words -/
abbrev MayP (g i b : Int) : Prop := 1 ≤ g ∧ g ≤ 8 ∧ 4 ≤ i ∧ i ≤ 32 ∧ i % 4 = 0 ∧ 16 ≤ b ∧ b ≤ 96

theorem may_no {g i b : Int} (h : ¬ MayP g i b) : geom_May.f g i b = some false := by
  unfold geom_May.f
  simp only [between_eq, Option.bind_some]
  by_cases h1 : 1 ≤ g ∧ g ≤ 8
  · rw [decide_eq_true h1, if_pos rfl]
    by_cases h2 : 4 ≤ i ∧ i ≤ 32
    · rw [decide_eq_true h2, if_pos rfl, Int.tmod_eq_emod_of_nonneg (by omega)]
      by_cases h3 : i % 4 = 0
      · rw [if_pos h3, decide_eq_false (by omega)]
      · rw [if_neg h3]
    · rw [decide_eq_false h2, if_neg (by simp)]
  · rw [decide_eq_false h1, if_neg (by simp)]

theorem may_ref (g i b : Int) : purlinref5_May.f g i b = some (decide (MayP g i b)) := by
  unfold purlinref5_May.f
  by_cases h1 : 1 ≤ g
  · rw [if_pos h1]
    by_cases h2 : g ≤ 8
    · rw [if_pos h2]
      by_cases h3 : 4 ≤ i
      · rw [if_pos h3]
        by_cases h4 : i ≤ 32
        · rw [if_pos h4, Int.tmod_eq_emod_of_nonneg (by omega)]
          by_cases h5 : i % 4 = 0
          · rw [if_pos h5]
            by_cases h6 : b ≥ 16
            · rw [if_pos h6]; simp [h1, h2, h3, h4, h5, h6]
            · rw [if_neg h6, decide_eq_false (by omega)]
          · rw [if_neg h5, decide_eq_false (by omega)]
        · rw [if_neg h4, decide_eq_false (by omega)]
      · rw [if_neg h3, decide_eq_false (by omega)]
    · rw [if_neg h2, decide_eq_false (by omega)]
  · rw [if_neg h1, decide_eq_false (by omega)]

theorem loop_no {g i b : Int} (h : ¬ MayP g i b) (k : Nat) (s : Int) : purlinref5_OfBlock.f (k + 2) g i b s = some (-1, -1) := by
  unfold purlinref5_OfBlock.f
  simp only [purlinref5_OfBlock.l0, may_ref, decide_eq_false h, Option.bind_some, purlinref5_OfBlock.j1]
  simp

section
include hv

theorem may_yes : MayP g (4 * a) b := by
  obtain ⟨_, _, _, _, _, _⟩ := hv
  omega

theorem ref_may : purlinref5_May.f g (4 * a) b = geom_May.f g (4 * a) b := by rw [may_ref, decide_eq_true (may_yes hv), may_eq hv]
omit hv in
theorem ref_long : purlinref5_long.f g (4 * a) b = geom_long.f g (4 * a) b := rfl
theorem ref_sectors : purlinref5_Sectors.f g (4 * a) b = geom_Sectors.f g (4 * a) b := by
  unfold purlinref5_Sectors.f geom_Sectors.f; rw [ref_may hv, ref_long]
theorem ref_inodes : purlinref5_Inodes.f g (4 * a) b = geom_Inodes.f g (4 * a) b := by
  unfold purlinref5_Inodes.f geom_Inodes.f; rw [ref_may hv]
theorem ref_blocks : purlinref5_Blocks.f g (4 * a) b = geom_Blocks.f g (4 * a) b := by
  unfold purlinref5_Blocks.f geom_Blocks.f; rw [ref_may hv]

theorem ref_group (k : Int) : purlinref5_Group.f g (4 * a) b k = geom_Group.f g (4 * a) b k := by
  unfold purlinref5_Group.f geom_Group.f
  rw [ref_may hv, may_eq hv, ref_long]
  obtain ⟨_, _, _, _, _, _⟩ := hv
  simp only [Option.bind_some, if_true, between_eq]
  rw [w64 (n := g - 1) (by omega) (by omega)]
  by_cases h0 : k < 0
  · rw [if_pos h0, decide_eq_false (by omega), if_neg (by simp)]
  · by_cases h1 : k ≥ g
    · rw [if_neg h0, if_pos h1, decide_eq_false (by omega), if_neg (by simp)]
    · rw [if_neg h0, if_neg h1, decide_eq_true (by omega), if_pos rfl]

theorem group_out {k : Int} (h : k < 0 ∨ g ≤ k) : geom_Group.f g (4 * a) b k = some (-1) := by
  unfold geom_Group.f
  rw [may_eq hv]
  obtain ⟨_, _, _, _, _, _⟩ := hv
  simp only [Option.bind_some, if_true, between_eq]
  rw [w64 (n := g - 1) (by omega) (by omega), decide_eq_false (by omega), if_neg (by simp)]

theorem ref_first (k : Int) : purlinref5_First.f g (4 * a) b k = geom_First.f g (4 * a) b k := by
  unfold purlinref5_First.f geom_First.f
  rw [ref_group hv]

theorem first_out {k : Int} (h : k < 0 ∨ g ≤ k) : geom_First.f g (4 * a) b k = some (-1) := by
  unfold geom_First.f
  rw [group_out hv h]; rfl

theorem ref_ofInode (n : Int) : purlinref5_OfInode.f g (4 * a) b n = geom_OfInode.f g (4 * a) b n := by
  unfold purlinref5_OfInode.f geom_OfInode.f
  rw [ref_inodes hv, inodes_eq hv]
  simp only [Option.bind_some, between_eq]
  by_cases h0 : n < 1
  · rw [if_pos h0, decide_eq_false (by omega), if_neg (by simp)]
  · by_cases h1 : n > g * (4 * a)
    · rw [if_neg h0, if_pos h1, decide_eq_false (by omega), if_neg (by simp)]
    · rw [if_neg h0, if_neg h1, decide_eq_true (by omega), if_pos rfl]

theorem ofInode_out {n : Int} (h : n < 1 ∨ g * (4 * a) < n) : geom_OfInode.f g (4 * a) b n = some (-1, -1) := by
  unfold geom_OfInode.f
  rw [inodes_eq hv]
  simp only [Option.bind_some, between_eq]
  rw [decide_eq_false (by omega), if_neg (by simp)]

theorem ref_inode (n : Int) : purlinref5_Inode.f g (4 * a) b n = geom_Inode.f g (4 * a) b n := by
  unfold purlinref5_Inode.f geom_Inode.f
  rw [ref_ofInode hv]
  simp only [ref_group hv]

theorem inode_out {n : Int} (h : n < 1 ∨ g * (4 * a) < n) : geom_Inode.f g (4 * a) b n = some (-1, -1) := by
  unfold geom_Inode.f
  rw [ofInode_out hv h]; rfl

theorem ofBlock_out {s : Int} (h : s < 2 ∨ 2 + g * (1 + a + b) ≤ s) : geom_OfBlock.f g (4 * a) b s = some (-1, -1) := by
  have hs := sectors_eq hv
  unfold geom_OfBlock.f
  rw [hs]
  obtain ⟨_, _, _, _, _, _⟩ := hv
  have hb := mul_bd (x := g) (y := 1 + a + b) (m := 8) (n := 105) (by omega) (by omega) (by omega) (by omega)
  simp only [Option.bind_some, between_eq]
  rw [w64 (n := 2 + _ - 1) (by omega) (by omega), decide_eq_false (by omega), if_neg (by simp)]

/-- what the document's loop comes to -/
theorem loop_yes {s q n : Int} (hr : geom_OfBlock.f g (4 * a) b s = some (q, n)) (d : Nat) : ∀ (k : Nat) (x : Int), 0 ≤ x → x ≤ g → g - x = d → 2 * d + 1 < k → (0 ≤ q → x ≤ q) →
    purlinref5_OfBlock.l0 k s x g (4 * a) b = some (q, n) := by
  have hin : 0 ≤ q → 2 ≤ s ∧ s < 2 + g * (1 + a + b) ∧ ¬ (s - 2) % (1 + a + b) < 1 + a ∧ q = (s - 2) / (1 + a + b) ∧ n = (s - 2) % (1 + a + b) - 1 - a := by
    intro h
    by_cases h1 : 2 ≤ s ∧ s < 2 + g * (1 + a + b)
    · rw [ofBlock_eq hv h1.1 h1.2] at hr
      by_cases c : (s - 2) % (1 + a + b) < 1 + a
      · rw [if_pos c] at hr; simp only [Option.some.injEq, Prod.mk.injEq] at hr; omega
      · rw [if_neg c] at hr; simp only [Option.some.injEq, Prod.mk.injEq] at hr; exact ⟨h1.1, h1.2, c, hr.1.symm, hr.2.symm⟩
    · rw [ofBlock_out hv (by omega)] at hr; simp only [Option.some.injEq, Prod.mk.injEq] at hr; omega
  have hout : q < 0 → q = -1 ∧ n = -1 := by
    intro h
    by_cases h1 : 2 ≤ s ∧ s < 2 + g * (1 + a + b)
    · rw [ofBlock_eq hv h1.1 h1.2] at hr
      by_cases c : (s - 2) % (1 + a + b) < 1 + a
      · rw [if_pos c] at hr; simp only [Option.some.injEq, Prod.mk.injEq] at hr; omega
      · rw [if_neg c] at hr; simp only [Option.some.injEq, Prod.mk.injEq] at hr
        have := Int.ediv_nonneg (a := s - 2) (b := 1 + a + b) (by omega) (by have := hv.a1; have := hv.b1; omega)
        omega
    · rw [ofBlock_out hv (by omega)] at hr; simp only [Option.some.injEq, Prod.mk.injEq] at hr; omega
  have hqg : 0 ≤ q → q < g := by
    intro h
    obtain ⟨_, h2, _, h4, _⟩ := hin h
    rw [h4]
    exact Int.ediv_lt_of_lt_mul (by have := hv.a1; have := hv.b1; omega) (by omega)
  induction d with
  | zero =>
    intro k x h0 h1 hd hk hx
    obtain ⟨k, rfl⟩ : ∃ m, k = m + 2 := ⟨k - 2, by omega⟩
    have hq : q < 0 := by omega
    obtain ⟨rfl, rfl⟩ := hout hq
    simp only [purlinref5_OfBlock.l0]
    rw [ref_may hv, may_eq hv]
    simp only [Option.bind_some, if_true, purlinref5_OfBlock.j1]
    rw [decide_eq_false (by omega), if_neg (by simp)]
  | succ d ih =>
    intro k x h0 h1 hd hk hx
    obtain ⟨k, rfl⟩ : ∃ m, k = m + 2 := ⟨k - 2, by omega⟩
    have ha := hv.a1
    have ha8 := hv.a8
    have hb := hv.b1
    have hb2 := hv.b2
    have hg8 := hv.g8
    have hi := ih k (x + 1) (by omega) (by omega) (by omega) (by omega)
    have hm := mul_bd (x := x) (y := 1 + a + b) (m := 8) (n := 105) (by omega) (by omega) (by omega) (by omega)
    simp only [purlinref5_OfBlock.l0]
    rw [ref_may hv, may_eq hv]
    simp only [Option.bind_some, if_true, purlinref5_OfBlock.j1]
    rw [decide_eq_true (by omega), if_pos rfl, ref_first hv, first_eq hv h0 (by omega)]
    simp only [Option.bind_some]
    rw [w64 (n := _ + b) (by omega) (by omega), w64 (n := x + 1) (by omega) (by omega)]
    by_cases c : 2 + x * (1 + a + b) + 1 + a ≤ s ∧ s < 2 + x * (1 + a + b) + 1 + a + b
    · rw [if_pos (by omega), if_pos (by omega)]
      obtain ⟨e1, e2⟩ := (key hv (s := s) (q := x) (r := s - 2 - x * (1 + a + b)) (by omega) (by omega)).mp (by omega)
      have hlt : s < 2 + g * (1 + a + b) := by
        have h4 : (x + 1) * (1 + a + b) ≤ g * (1 + a + b) := Int.mul_le_mul_of_nonneg_right (by omega) (by omega)
        rw [Int.add_mul] at h4
        omega
      rw [ofBlock_eq hv (by omega) hlt, if_neg (by omega), e1, e2] at hr
      rw [w64 (by omega) (by omega), ← hr]
      congr 2; omega
    · have hn := hi (fun hq => by
        have := hx hq
        obtain ⟨g1, g2, g3, g4, g5⟩ := hin hq
        have r0 := Int.emod_nonneg (s - 2) (b := 1 + a + b) (by omega)
        have r1 := Int.emod_lt_of_pos (s - 2) (b := 1 + a + b) (by omega)
        have e := (key hv (s := s) r0 r1).mpr ⟨rfl, rfl⟩
        by_cases e3 : q = x
        · rw [← g4, e3] at e; omega
        · omega)
      by_cases c1 : s ≥ 2 + x * (1 + a + b) + 1 + a
      · rw [if_pos c1, if_neg (by omega)]; exact hn
      · rw [if_neg c1]; exact hn
end

theorem GeomTells (g i b k n s : Int) : ∃ m, purlinlaw5_GeomTells.f m g i b k n s = some true := by
  refine ⟨20, ?_⟩
  by_cases h : MayP g i b
  · obtain ⟨a, rfl⟩ : ∃ a, i = 4 * a := ⟨i / 4, by omega⟩
    have hv : V g a b := by exact ⟨by omega, by omega, by omega, by omega, by omega, by omega⟩
    obtain ⟨p1, hp⟩ : ∃ p, geom_Inode.f g (4 * a) b n = some p := by
      by_cases c : n < 1 ∨ g * (4 * a) < n
      · exact ⟨_, inode_out hv c⟩
      · exact ⟨_, inode_eq hv (by omega) (by omega)⟩
    obtain ⟨p2, hq⟩ : ∃ p, geom_OfInode.f g (4 * a) b n = some p := by
      by_cases c : n < 1 ∨ g * (4 * a) < n
      · exact ⟨_, ofInode_out hv c⟩
      · exact ⟨_, ofInode_eq hv (by omega) (by omega)⟩
    obtain ⟨⟨u, v⟩, hr⟩ : ∃ p, geom_OfBlock.f g (4 * a) b s = some p := by
      by_cases c : s < 2 ∨ 2 + g * (1 + a + b) ≤ s
      · exact ⟨_, ofBlock_out hv c⟩
      · exact ⟨_, ofBlock_eq hv (by omega) (by omega)⟩
    obtain ⟨p4, hs⟩ : ∃ p, geom_Group.f g (4 * a) b k = some p := by
      by_cases c : k < 0 ∨ g ≤ k
      · exact ⟨_, group_out hv c⟩
      · exact ⟨_, group_eq hv (by omega) (by omega)⟩
    obtain ⟨p5, ht⟩ : ∃ p, geom_First.f g (4 * a) b k = some p := by
      by_cases c : k < 0 ∨ g ≤ k
      · exact ⟨_, first_out hv c⟩
      · exact ⟨_, first_eq hv (by omega) (by omega)⟩
    have hl : purlinref5_OfBlock.f 20 g (4 * a) b s = some (u, v) := loop_yes hv hr g.toNat 20 0 (by omega) (by have := hv.g1; omega) (by have := hv.g1; omega) (by have := hv.g8; omega) (fun h => h)
    unfold purlinlaw5_GeomTells.f
    rw [ref_inode hv, ref_ofInode hv, ref_may hv, ref_sectors hv, ref_inodes hv, ref_blocks hv, ref_group hv, ref_first hv, hp, hq, hr, hs, ht, hl, may_eq hv, sectors_eq hv, inodes_eq hv, blocks_eq hv, awake_eq]
    simp
  · have hm := may_no h
    have hi : geom_Inodes.f g i b = some 0 := by unfold geom_Inodes.f; rw [hm]; rfl
    have hb : geom_Blocks.f g i b = some 0 := by unfold geom_Blocks.f; rw [hm]; rfl
    have hs : geom_Sectors.f g i b = some 0 := by unfold geom_Sectors.f; rw [hm]; rfl
    have hg : geom_Group.f g i b k = some (-1) := by unfold geom_Group.f; rw [hm]; rfl
    have hf : geom_First.f g i b k = some (-1) := by unfold geom_First.f; rw [hg]; rfl
    have ho : geom_OfInode.f g i b n = some (-1, -1) := by
      unfold geom_OfInode.f; rw [hi]; simp only [Option.bind_some, between_eq]; rw [decide_eq_false (by omega)]; rfl
    have hn : geom_Inode.f g i b n = some (-1, -1) := by unfold geom_Inode.f; rw [ho]; rfl
    have hk : geom_OfBlock.f g i b s = some (-1, -1) := by
      unfold geom_OfBlock.f; rw [hs]; simp only [Option.bind_some, between_eq]; rw [w64 (by omega) (by omega), decide_eq_false (by omega)]; rfl
    have rm : purlinref5_May.f g i b = some false := by rw [may_ref, decide_eq_false h]
    have ri : purlinref5_Inodes.f g i b = some 0 := by unfold purlinref5_Inodes.f; rw [rm]; rfl
    have rb : purlinref5_Blocks.f g i b = some 0 := by unfold purlinref5_Blocks.f; rw [rm]; rfl
    have rs : purlinref5_Sectors.f g i b = some 0 := by unfold purlinref5_Sectors.f; rw [rm]; rfl
    have rg : purlinref5_Group.f g i b k = some (-1) := by unfold purlinref5_Group.f; rw [rm]; rfl
    have rf : purlinref5_First.f g i b k = some (-1) := by unfold purlinref5_First.f; rw [rg]; rfl
    have ro : purlinref5_OfInode.f g i b n = some (-1, -1) := by
      unfold purlinref5_OfInode.f; rw [ri]
      by_cases c : n < 1
      · rw [if_pos c]
      · rw [if_neg c, Option.bind_some, if_pos (by omega)]
    have rn : purlinref5_Inode.f g i b n = some (-1, -1) := by unfold purlinref5_Inode.f; rw [ro]; rfl
    unfold purlinlaw5_GeomTells.f
    rw [hn, rn, ho, ro, hk, loop_no h, hm, rm, hs, rs, hi, ri, hb, rb, hg, rg, hf, rf, awake_eq]
    simp

end Go.Proofs.Ytokmnimiidmpmaa.Pure
