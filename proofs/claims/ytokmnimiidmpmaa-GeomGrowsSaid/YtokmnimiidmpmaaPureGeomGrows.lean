/- For every input: a block more in each group is as many sectors more as there are groups, four inodes more likewise, a group more is one group's sectors, and what stands ahead stays (the plain statement of the law GeomGrows over the print's functions). Conditions: none but that each argument is a 64-bit number. -/
import Derived.Test.YtokmnimiidmpmaaGeomGrowsDefs
namespace Go.Proofs.Ytokmnimiidmpmaa.Pure
open Go.RowKit Go.Proofs.Ytokmnimiidmpmaa.PGeomGrows Go.Proofs.YtokmnimiidmpmaaW.PrintWords Go.Proofs.YtokmnimiidmpmaaW.PrintLast

theorem w64 {n : Int} (h1 : -9223372036854775808 ≤ n) (h2 : n ≤ 9223372036854775807) : wrap64 n = n := by
  unfold wrap64; omega

theorem low_some (x n : Int) (h1 : 1 ≤ n) (h2 : n ≤ 1000000000) : ∃ y, purlinlaw0_Low.f x n = some y ∧ 0 ≤ y ∧ y < n := by
  have hn : IntKind.u64.wrap n = n := by simp [IntKind.wrap, IntKind.signed, IntKind.bits]; omega
  have hx : 0 ≤ IntKind.u64.wrap x := by simp [IntKind.wrap, IntKind.signed, IntKind.bits]; omega
  refine ⟨IntKind.u64.wrap x % n, ?_, Int.emod_nonneg _ (by omega), Int.emod_lt_of_pos _ (by omega)⟩
  unfold purlinlaw0_Low.f
  rw [hn, if_neg (by omega), Int.tmod_eq_emod_of_nonneg hx]
  have h3 := Int.emod_nonneg (IntKind.u64.wrap x) (b := n) (by omega)
  have h4 := Int.emod_lt_of_pos (IntKind.u64.wrap x) (b := n) (by omega)
  rw [w64 (by omega) (by omega)]

/-- a geometry that may be: g groups, 4a inodes, b blocks -/
structure V (g a b : Int) : Prop where
  g1 : 1 ≤ g
  g8 : g ≤ 8
  a1 : 1 ≤ a
  a8 : a ≤ 8
  b1 : 16 ≤ b
  b2 : b ≤ 96

theorem between_eq (a b c : Int) : geom_between.f a b c = some (decide (b ≤ a ∧ a ≤ c)) := by
  unfold geom_between.f
  by_cases h : a ≥ b
  · rw [if_pos h]; simp [h]
  · rw [if_neg h]; simp [h]

theorem mul_bd {x y m n : Int} (hx : 0 ≤ x) (hm : x ≤ m) (hy : 0 ≤ y) (hn : y ≤ n) : 0 ≤ x * y ∧ x * y ≤ m * n :=
  ⟨Int.mul_nonneg hx hy, Int.mul_le_mul hm hn hy (by omega)⟩

variable {g a b : Int} (hv : V g a b)
include hv

theorem may_eq : geom_May.f g (4 * a) b = some true := by
  obtain ⟨_, _, _, _, _, _⟩ := hv
  unfold geom_May.f
  simp only [between_eq, Option.bind_some]
  rw [decide_eq_true (by omega), if_pos rfl, decide_eq_true (by omega), if_pos rfl, if_pos (by rw [Int.tmod_eq_emod_of_nonneg (by omega)]; omega), decide_eq_true (by omega)]

theorem long_eq : geom_long.f g (4 * a) b = some (1 + a + b) := by
  obtain ⟨_, _, _, _, _, _⟩ := hv
  unfold geom_long.f
  rw [Int.tdiv_eq_ediv_of_nonneg (by omega), show 4 * a / 4 = a by omega, w64 (n := a) (by omega) (by omega), w64 (n := 1 + a) (by omega) (by omega), w64 (by omega) (by omega)]

theorem inodes_eq : geom_Inodes.f g (4 * a) b = some (g * (4 * a)) := by
  have h := mul_bd (x := g) (y := 4 * a) (m := 8) (n := 32)
  obtain ⟨_, _, _, _, _, _⟩ := hv
  unfold geom_Inodes.f
  rw [may_eq ⟨by omega, by omega, by omega, by omega, by omega, by omega⟩]
  simp only [Option.bind_some, if_true]
  have := h (by omega) (by omega) (by omega) (by omega)
  rw [w64 (by omega) (by omega)]

theorem blocks_eq : geom_Blocks.f g (4 * a) b = some (g * b) := by
  have h := mul_bd (x := g) (y := b) (m := 8) (n := 96)
  obtain ⟨_, _, _, _, _, _⟩ := hv
  unfold geom_Blocks.f
  rw [may_eq ⟨by omega, by omega, by omega, by omega, by omega, by omega⟩]
  simp only [Option.bind_some, if_true]
  have := h (by omega) (by omega) (by omega) (by omega)
  rw [w64 (by omega) (by omega)]

theorem sectors_eq : geom_Sectors.f g (4 * a) b = some (2 + g * (1 + a + b)) := by
  have h := mul_bd (x := g) (y := 1 + a + b) (m := 8) (n := 105)
  have hl := long_eq hv
  have hm := may_eq hv
  obtain ⟨_, _, _, _, _, _⟩ := hv
  unfold geom_Sectors.f
  rw [hm, hl]
  simp only [Option.bind_some, if_true]
  have := h (by omega) (by omega) (by omega) (by omega)
  rw [w64 (n := g * _) (by omega) (by omega), w64 (by omega) (by omega)]

theorem group_eq {k : Int} (h0 : 0 ≤ k) (h1 : k < g) : geom_Group.f g (4 * a) b k = some (2 + k * (1 + a + b)) := by
  have h := mul_bd (x := k) (y := 1 + a + b) (m := 8) (n := 105)
  have hl := long_eq hv
  have hm := may_eq hv
  obtain ⟨_, _, _, _, _, _⟩ := hv
  unfold geom_Group.f
  rw [hm, hl]
  simp only [Option.bind_some, if_true, between_eq]
  have := h (by omega) (by omega) (by omega) (by omega)
  rw [w64 (n := g - 1) (by omega) (by omega), decide_eq_true (by omega), if_pos rfl, w64 (n := k * _) (by omega) (by omega), w64 (by omega) (by omega)]

theorem first_eq {k : Int} (h0 : 0 ≤ k) (h1 : k < g) : geom_First.f g (4 * a) b k = some (2 + k * (1 + a + b) + 1 + a) := by
  have h := mul_bd (x := k) (y := 1 + a + b) (m := 8) (n := 105)
  have hl := group_eq hv h0 h1
  obtain ⟨_, _, _, _, _, _⟩ := hv
  unfold geom_First.f
  rw [hl]
  simp only [Option.bind_some]
  have := h (by omega) (by omega) (by omega) (by omega)
  rw [if_neg (by omega), Int.tdiv_eq_ediv_of_nonneg (by omega), show 4 * a / 4 = a by omega, w64 (n := a) (by omega) (by omega), w64 (n := _ + 1) (by omega) (by omega), w64 (by omega) (by omega)]

theorem ofInode_eq {n : Int} (h0 : 1 ≤ n) (h1 : n ≤ g * (4 * a)) : geom_OfInode.f g (4 * a) b n = some ((n - 1) / (4 * a), (n - 1) % (4 * a)) := by
  have h := mul_bd (x := g) (y := 4 * a) (m := 8) (n := 32)
  have hi := inodes_eq hv
  obtain ⟨_, _, _, _, _, _⟩ := hv
  have := h (by omega) (by omega) (by omega) (by omega)
  unfold geom_OfInode.f
  rw [hi]
  simp only [Option.bind_some, between_eq]
  have hq := Int.ediv_nonneg (a := n - 1) (b := 4 * a) (by omega) (by omega)
  have hq2 := Int.ediv_le_self (4 * a) (a := n - 1) (by omega)
  rw [decide_eq_true (by omega), if_pos rfl, if_neg (by omega), w64 (n := n - 1) (by omega) (by omega), Int.tdiv_eq_ediv_of_nonneg (by omega), Int.tmod_eq_emod_of_nonneg (by omega), w64 (by omega) (by omega)]

theorem inode_eq {n : Int} (h0 : 1 ≤ n) (h1 : n ≤ g * (4 * a)) : geom_Inode.f g (4 * a) b n = some (2 + (n - 1) / (4 * a) * (1 + a + b) + 1 + (n - 1) % (4 * a) / 4, (n - 1) % (4 * a) % 4) := by
  have ho := ofInode_eq hv h0 h1
  have hv' := hv
  obtain ⟨_, _, _, _, _, _⟩ := hv
  have hq := Int.ediv_nonneg (a := n - 1) (b := 4 * a) (by omega) (by omega)
  have hr := Int.emod_nonneg (n - 1) (b := 4 * a) (by omega)
  have hr2 := Int.emod_lt_of_pos (n - 1) (b := 4 * a) (by omega)
  have hq2 : (n - 1) / (4 * a) < g := Int.ediv_lt_of_lt_mul (by omega) (by omega)
  have hg := group_eq hv' hq hq2
  have h := mul_bd (x := (n - 1) / (4 * a)) (y := 1 + a + b) (m := 8) (n := 105) (by omega) (by omega) (by omega) (by omega)
  unfold geom_Inode.f
  rw [ho]
  simp only [Option.bind_some]
  rw [if_neg (by omega), hg]
  simp only [Option.bind_some]
  rw [Int.tdiv_eq_ediv_of_nonneg hr, Int.tmod_eq_emod_of_nonneg hr, w64 (n := _ / 4) (by omega) (by omega), w64 (n := _ + 1) (by omega) (by omega), w64 (by omega) (by omega)]

omit hv

theorem awake_eq : purlinlaw5_awake.f = some true := by decide +kernel

theorem GeomGrows : purlinlaw5_GeomGrows.Pure := by
  intro x y z n _ _ _ _
  obtain ⟨u, hu, u0, u1⟩ := low_some x 7 (by omega) (by omega)
  obtain ⟨v, hv, v0, v1⟩ := low_some y 7 (by omega) (by omega)
  obtain ⟨t, ht, t0, t1⟩ := low_some z 80 (by omega) (by omega)
  obtain ⟨m, hm, m0, m1⟩ := low_some n (4 * (v + 1)) (by omega) (by omega)
  have V0 : V (1 + u) (v + 1) (16 + t) := ⟨by omega, by omega, by omega, by omega, by omega, by omega⟩
  have V1 : V (1 + u + 1) (v + 1) (16 + t) := ⟨by omega, by omega, by omega, by omega, by omega, by omega⟩
  have V2 : V (1 + u) (v + 1) (16 + t + 1) := ⟨by omega, by omega, by omega, by omega, by omega, by omega⟩
  have V3 : V (1 + u) (v + 1 + 1) (16 + t) := ⟨by omega, by omega, by omega, by omega, by omega, by omega⟩
  have hi : 4 * (v + 1) ≤ (1 + u) * (4 * (v + 1)) := by
    have := Int.mul_le_mul_of_nonneg_right (a := 1) (b := 1 + u) (c := 4 * (v + 1)) (by omega) (by omega)
    omega
  have hs := mul_bd (x := 1 + u) (y := 1 + (v + 1) + (16 + t)) (m := 8) (n := 105) (by omega) (by omega) (by omega) (by omega)
  have hn := mul_bd (x := 1 + u) (y := 4 * (v + 1)) (m := 8) (n := 32) (by omega) (by omega) (by omega) (by omega)
  have hb := mul_bd (x := 1 + u) (y := 16 + t) (m := 8) (n := 105) (by omega) (by omega) (by omega) (by omega)
  have I0 := inode_eq V0 (n := 1 + m) (by omega) (by omega)
  have I1 := inode_eq V1 (n := 1 + m) (by omega) (by rw [Int.add_mul]; omega)
  have I2 := inode_eq V2 (n := 1 + m) (by omega) (by omega)
  have q0 : (1 + m - 1) / (4 * (v + 1)) = 0 := Int.ediv_eq_zero_of_lt (by omega) (by omega)
  rw [q0, Int.zero_mul] at I0 I1 I2
  unfold purlinlaw5_GeomGrows.f
  rw [hu, hv, ht]
  simp only [Option.bind_some]
  rw [w64 (n := 1 + u) (by omega) (by omega), w64 (n := 16 + t) (by omega) (by omega), w64 (n := 4 * v) (by omega) (by omega), w64 (n := 4 + 4 * v) (by omega) (by omega), w64 (n := 1 + u + 1) (by omega) (by omega), w64 (n := 16 + t + 1) (by omega) (by omega), w64 (n := 4 + 4 * v + 4) (by omega) (by omega), show 4 + 4 * v + 4 = 4 * (v + 1 + 1) by omega, show 4 + 4 * v = 4 * (v + 1) by omega, hm]
  simp only [Option.bind_some]
  rw [w64 (n := 1 + m) (by omega) (by omega), I0, I1, I2, sectors_eq V0, sectors_eq V1, sectors_eq V2, sectors_eq V3, first_eq V0 (k := 0) (by omega) (by omega), group_eq V1 (k := 1 + u) (by omega) (by omega), inodes_eq V0, inodes_eq V1, blocks_eq V0, blocks_eq V2, awake_eq]
  have es : (1 + u) * (1 + (v + 1) + (16 + t + 1)) = (1 + u) * (1 + (v + 1) + (16 + t)) + (1 + u) := by
    rw [show 1 + (v + 1) + (16 + t + 1) = 1 + (v + 1) + (16 + t) + 1 by omega, Int.mul_add (1 + u) (1 + (v + 1) + (16 + t)) 1, Int.mul_one]
  have et : (1 + u) * (1 + (v + 1 + 1) + (16 + t)) = (1 + u) * (1 + (v + 1) + (16 + t)) + (1 + u) := by
    rw [show 1 + (v + 1 + 1) + (16 + t) = 1 + (v + 1) + (16 + t) + 1 by omega, Int.mul_add (1 + u) (1 + (v + 1) + (16 + t)) 1, Int.mul_one]
  have eu : (1 + u + 1) * (1 + (v + 1) + (16 + t)) = (1 + u) * (1 + (v + 1) + (16 + t)) + (1 + (v + 1) + (16 + t)) := by
    rw [Int.add_mul, Int.one_mul]
  have ei : (1 + u + 1) * (4 * (v + 1)) = (1 + u) * (4 * (v + 1)) + 4 * (v + 1) := by
    rw [Int.add_mul, Int.one_mul]
  have eb : (1 + u) * (16 + t + 1) = (1 + u) * (16 + t) + (1 + u) := by
    rw [Int.mul_add, Int.mul_one]
  simp only [Option.bind_some]
  rw [es, et, eu, ei, eb, Int.zero_mul]
  rw [w64 (n := 2 + (1 + u) * (1 + (v + 1) + (16 + t)) + (1 + u)) (by omega) (by omega), if_pos (by omega), if_pos (by omega)]
  rw [w64 (n := 2 + ((1 + u) * (1 + (v + 1) + (16 + t)) + (1 + (v + 1) + (16 + t))) - (2 + (1 + u) * (1 + (v + 1) + (16 + t)))) (by omega) (by omega), w64 (n := _ - 2) (by omega) (by omega), w64 (n := _ + (16 + t)) (by omega) (by omega), if_pos (by omega)]
  rw [w64 (n := _ + 4 * (v + 1)) (by omega) (by omega), w64 (n := _ + (1 + u)) (by omega) (by omega)]
  simp only [if_true]

end Go.Proofs.Ytokmnimiidmpmaa.Pure
