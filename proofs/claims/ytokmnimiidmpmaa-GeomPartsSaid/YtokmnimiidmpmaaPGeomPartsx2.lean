-- PRINTED BY print.sh 35421559b90ae4d0a3588c463048766b98c2df88dd9212a6774a882060cdf62d: not written by this session
import Derived.Test.YtokmnimiidmpmaaPGeomPartsx0
import Derived.Test.YtokmnimiidmpmaaPGeomPartsx1
namespace Go.Proofs.Ytokmnimiidmpmaa.PGeomParts
open Go.RowKit Go.Proofs.YtokmnimiidmpmaaW.PrintWords Go.Proofs.YtokmnimiidmpmaaW.PrintLast Go.Proofs.YtokmnimiidmpmaaW.PrintMore
attribute [local go_sem] max2_int min2_int max_two min_two max_three min_three max_four min_four   -- for this text's walks alone
set_option linter.unusedVariables false
set_option linter.unusedSimpArgs false

/-! ### purlinlaw5_GeomParts: function 4 -/
mutual
def purlinlaw5_GeomParts.j0 : Nat → Int → Bool → Int → Int → Int → Option (Bool)
  | 0, _, _, _, _, _ => none
  | k + 1, x8, x40, x147000, x147001, x147002 => if x40 = true then (some false) else (if 0 ≤ x8 then (if (x8 : Int).toNat ≤ 35184372088832 then ((some (List.replicate (x8 : Int).toNat 0 : List Int)).bind fun y148 => (if 0 < (y148.length : Int) then (if 1 < (y148.length : Int) then (purlinlaw5_GeomParts.l0 k x8 ((y148.set (0 : Int).toNat 1).set (1 : Int).toNat 1) 0 x147000 x147001 x147002) else (none)) else (none))) else (none)) else (none))
def purlinlaw5_GeomParts.l0 : Nat → Int → List Int → Int → Int → Int → Int → Option (Bool)
  | 0, _, _, _, _, _, _ => none
  | k + 1, x8, x9, x10, x147000, x147001, x147002 => if x10 < x147000 then ((geom_Group.f x147000 x147001 x147002 x10).bind fun t153 => (if t153 < 2 then (some false) else (if t153 ≥ x8 then (some false) else (if 0 ≤ t153 then (if t153 < (x9.length : Int) then (purlinlaw5_GeomParts.l0 k x8 (x9.set (t153 : Int).toNat (wrap64 ((rd x9 t153) + 1))) (wrap64 (x10 + 1)) x147000 x147001 x147002) else (none)) else (none))))) else (purlinlaw5_GeomParts.l1 k x8 x9 1 x147000 x147001 x147002)
def purlinlaw5_GeomParts.l1 : Nat → Int → List Int → Int → Int → Int → Int → Option (Bool)
  | 0, _, _, _, _, _, _ => none
  | k + 1, x8, x9, x12, x147000, x147001, x147002 => (geom_Inodes.f x147000 x147001 x147002).bind fun t156 => (if x12 ≤ t156 then ((geom_Inode.f x147000 x147001 x147002 x12).bind fun bt157 => ((geom_OfInode.f x147000 x147001 x147002 x12).bind fun bt159 => (if bt157.1 < 2 then (purlinlaw5_GeomParts.j3 k x8 x9 x12 bt157.1 bt157.2 true x147000 x147001 x147002) else (if bt157.1 ≥ x8 then (purlinlaw5_GeomParts.j3 k x8 x9 x12 bt157.1 bt157.2 true x147000 x147001 x147002) else (if bt157.2 < 0 then (purlinlaw5_GeomParts.j3 k x8 x9 x12 bt157.1 bt157.2 true x147000 x147001 x147002) else (if bt157.2 > 3 then (purlinlaw5_GeomParts.j3 k x8 x9 x12 bt157.1 bt157.2 true x147000 x147001 x147002) else (if bt159.1 < 0 then (purlinlaw5_GeomParts.j3 k x8 x9 x12 bt157.1 bt157.2 true x147000 x147001 x147002) else (if bt159.2 < 0 then (purlinlaw5_GeomParts.j3 k x8 x9 x12 bt157.1 bt157.2 true x147000 x147001 x147002) else (purlinlaw5_GeomParts.j3 k x8 x9 x12 bt157.1 bt157.2 ((wrap64 ((wrap64 (bt159.1 * x147001)) + bt159.2)) != (wrap64 (x12 - 1))) x147000 x147001 x147002))))))))) else (purlinlaw5_GeomParts.l2 k x8 x9 0 0 x147000 x147001 x147002))
def purlinlaw5_GeomParts.j3 : Nat → Int → List Int → Int → Int → Int → Bool → Int → Int → Int → Option (Bool)
  | 0, _, _, _, _, _, _, _, _, _ => none
  | k + 1, x8, x9, x12, x13, x14, x120, x147000, x147001, x147002 => if x120 = true then (some false) else (if x14 = 0 then (if 0 ≤ x13 then (if x13 < (x9.length : Int) then (purlinlaw5_GeomParts.l1 k x8 (x9.set (x13 : Int).toNat (wrap64 ((rd x9 x13) + 1))) (wrap64 (x12 + 1)) x147000 x147001 x147002) else (none)) else (none)) else (purlinlaw5_GeomParts.l1 k x8 x9 (wrap64 (x12 + 1)) x147000 x147001 x147002))
def purlinlaw5_GeomParts.l2 : Nat → Int → List Int → Int → Int → Int → Int → Int → Option (Bool)
  | 0, _, _, _, _, _, _, _ => none
  | k + 1, x8, x9, x17, x18, x147000, x147001, x147002 => if x18 < x8 then ((geom_OfBlock.f x147000 x147001 x147002 x18).bind fun bt163 => (if bt163.1 ≥ 0 then (if 0 ≤ x18 then (if x18 < (x9.length : Int) then ((geom_First.f x147000 x147001 x147002 bt163.1).bind fun t167 => (if (wrap64 (t167 + bt163.2)) = x18 then (purlinlaw5_GeomParts.l2 k x8 (x9.set (x18 : Int).toNat (wrap64 ((rd x9 x18) + 1))) (wrap64 (x17 + 1)) (wrap64 (x18 + 1)) x147000 x147001 x147002) else (some false))) else (none)) else (none)) else (purlinlaw5_GeomParts.l2 k x8 x9 x17 (wrap64 (x18 + 1)) x147000 x147001 x147002))) else (purlinlaw5_GeomParts.l3 k x8 x9 x17 0 x147000 x147001 x147002)
def purlinlaw5_GeomParts.l3 : Nat → Int → List Int → Int → Int → Int → Int → Int → Option (Bool)
  | 0, _, _, _, _, _, _, _ => none
  | k + 1, x8, x9, x17, x21, x147000, x147001, x147002 => if x21 < x8 then (if 0 ≤ x21 then (if x21 < (x9.length : Int) then (if (rd x9 x21) = 1 then (purlinlaw5_GeomParts.l3 k x8 x9 x17 (wrap64 (x21 + 1)) x147000 x147001 x147002) else (some false)) else (none)) else (none)) else ((geom_Blocks.f x147000 x147001 x147002).bind fun t169 => (if x17 = t169 then ((purlinlaw5_awake.f).bind fun t170 => (some t170)) else (some false)))
end
def purlinlaw5_GeomParts.f (k : Nat) (a0 : Int) (a1 : Int) (a2 : Int) : Option (Bool) := (purlinlaw0_Low.f a0 8).bind fun t143 => ((purlinlaw0_Low.f a1 8).bind fun t144 => ((purlinlaw0_Low.f a2 81).bind fun t145 => ((geom_Sectors.f (wrap64 (1 + t143)) (wrap64 (4 + (wrap64 (4 * t144)))) (wrap64 (16 + t145))).bind fun t147 => (if t147 < 20 then (purlinlaw5_GeomParts.j0 k t147 true (wrap64 (1 + t143)) (wrap64 (4 + (wrap64 (4 * t144)))) (wrap64 (16 + t145))) else (purlinlaw5_GeomParts.j0 k t147 (decide (t147 > 1000)) (wrap64 (1 + t143)) (wrap64 (4 + (wrap64 (4 * t144)))) (wrap64 (16 + t145)))))))
theorem purlinlaw5_GeomParts.mono_l : ∀ k, (∀ y0 y1 y2 y3 y4, LeO (purlinlaw5_GeomParts.j0 k y0 y1 y2 y3 y4) (purlinlaw5_GeomParts.j0 (k + 1) y0 y1 y2 y3 y4)) ∧ (∀ y0 y1 y2 y3 y4 y5, LeO (purlinlaw5_GeomParts.l0 k y0 y1 y2 y3 y4 y5) (purlinlaw5_GeomParts.l0 (k + 1) y0 y1 y2 y3 y4 y5)) ∧ (∀ y0 y1 y2 y3 y4 y5, LeO (purlinlaw5_GeomParts.l1 k y0 y1 y2 y3 y4 y5) (purlinlaw5_GeomParts.l1 (k + 1) y0 y1 y2 y3 y4 y5)) ∧ (∀ y0 y1 y2 y3 y4 y5 y6 y7 y8, LeO (purlinlaw5_GeomParts.j3 k y0 y1 y2 y3 y4 y5 y6 y7 y8) (purlinlaw5_GeomParts.j3 (k + 1) y0 y1 y2 y3 y4 y5 y6 y7 y8)) ∧ (∀ y0 y1 y2 y3 y4 y5 y6, LeO (purlinlaw5_GeomParts.l2 k y0 y1 y2 y3 y4 y5 y6) (purlinlaw5_GeomParts.l2 (k + 1) y0 y1 y2 y3 y4 y5 y6)) ∧ (∀ y0 y1 y2 y3 y4 y5 y6, LeO (purlinlaw5_GeomParts.l3 k y0 y1 y2 y3 y4 y5 y6) (purlinlaw5_GeomParts.l3 (k + 1) y0 y1 y2 y3 y4 y5 y6))
  | 0 => ⟨fun _ _ _ _ _ r h => by simp [purlinlaw5_GeomParts.j0] at h, fun _ _ _ _ _ _ r h => by simp [purlinlaw5_GeomParts.l0] at h, fun _ _ _ _ _ _ r h => by simp [purlinlaw5_GeomParts.l1] at h, fun _ _ _ _ _ _ _ _ _ r h => by simp [purlinlaw5_GeomParts.j3] at h, fun _ _ _ _ _ _ _ r h => by simp [purlinlaw5_GeomParts.l2] at h, fun _ _ _ _ _ _ _ r h => by simp [purlinlaw5_GeomParts.l3] at h⟩
  | k + 1 => by
    obtain ⟨ih0, ih1, ih2, ih3, ih4, ih5⟩ := purlinlaw5_GeomParts.mono_l k
    refine ⟨?_, ?_, ?_, ?_, ?_, ?_⟩
    · intro y0 y1 y2 y3 y4
      unfold purlinlaw5_GeomParts.j0
      repeat' first
      | (with_reducible exact ih0 _ _ _ _ _)
      | (with_reducible exact ih1 _ _ _ _ _ _)
      | (with_reducible exact ih2 _ _ _ _ _ _)
      | (with_reducible exact ih3 _ _ _ _ _ _ _ _ _)
      | (with_reducible exact ih4 _ _ _ _ _ _ _)
      | (with_reducible exact ih5 _ _ _ _ _ _ _)
      | (with_reducible exact LeO.refl _)
      | (with_reducible exact LeO.none _)
      | (with_reducible refine LeO.ite ?_ ?_)
      | (with_reducible refine LeO.bind ?_ (fun _ => ?_))
      | exact ih0 _ _ _ _ _
      | exact ih1 _ _ _ _ _ _
      | exact ih2 _ _ _ _ _ _
      | exact ih3 _ _ _ _ _ _ _ _ _
      | exact ih4 _ _ _ _ _ _ _
      | exact ih5 _ _ _ _ _ _ _
      | exact LeO.none _
      | refine LeO.ite ?_ ?_
      | refine LeO.bind ?_ (fun _ => ?_)
    · intro y0 y1 y2 y3 y4 y5
      unfold purlinlaw5_GeomParts.l0
      repeat' first
      | (with_reducible exact ih0 _ _ _ _ _)
      | (with_reducible exact ih1 _ _ _ _ _ _)
      | (with_reducible exact ih2 _ _ _ _ _ _)
      | (with_reducible exact ih3 _ _ _ _ _ _ _ _ _)
      | (with_reducible exact ih4 _ _ _ _ _ _ _)
      | (with_reducible exact ih5 _ _ _ _ _ _ _)
      | (with_reducible exact LeO.refl _)
      | (with_reducible exact LeO.none _)
      | (with_reducible refine LeO.ite ?_ ?_)
      | (with_reducible refine LeO.bind ?_ (fun _ => ?_))
      | exact ih0 _ _ _ _ _
      | exact ih1 _ _ _ _ _ _
      | exact ih2 _ _ _ _ _ _
      | exact ih3 _ _ _ _ _ _ _ _ _
      | exact ih4 _ _ _ _ _ _ _
      | exact ih5 _ _ _ _ _ _ _
      | exact LeO.none _
      | refine LeO.ite ?_ ?_
      | refine LeO.bind ?_ (fun _ => ?_)
    · intro y0 y1 y2 y3 y4 y5
      unfold purlinlaw5_GeomParts.l1
      repeat' first
      | (with_reducible exact ih0 _ _ _ _ _)
      | (with_reducible exact ih1 _ _ _ _ _ _)
      | (with_reducible exact ih2 _ _ _ _ _ _)
      | (with_reducible exact ih3 _ _ _ _ _ _ _ _ _)
      | (with_reducible exact ih4 _ _ _ _ _ _ _)
      | (with_reducible exact ih5 _ _ _ _ _ _ _)
      | (with_reducible exact LeO.refl _)
      | (with_reducible exact LeO.none _)
      | (with_reducible refine LeO.ite ?_ ?_)
      | (with_reducible refine LeO.bind ?_ (fun _ => ?_))
      | exact ih0 _ _ _ _ _
      | exact ih1 _ _ _ _ _ _
      | exact ih2 _ _ _ _ _ _
      | exact ih3 _ _ _ _ _ _ _ _ _
      | exact ih4 _ _ _ _ _ _ _
      | exact ih5 _ _ _ _ _ _ _
      | exact LeO.none _
      | refine LeO.ite ?_ ?_
      | refine LeO.bind ?_ (fun _ => ?_)
    · intro y0 y1 y2 y3 y4 y5 y6 y7 y8
      unfold purlinlaw5_GeomParts.j3
      repeat' first
      | (with_reducible exact ih0 _ _ _ _ _)
      | (with_reducible exact ih1 _ _ _ _ _ _)
      | (with_reducible exact ih2 _ _ _ _ _ _)
      | (with_reducible exact ih3 _ _ _ _ _ _ _ _ _)
      | (with_reducible exact ih4 _ _ _ _ _ _ _)
      | (with_reducible exact ih5 _ _ _ _ _ _ _)
      | (with_reducible exact LeO.refl _)
      | (with_reducible exact LeO.none _)
      | (with_reducible refine LeO.ite ?_ ?_)
      | (with_reducible refine LeO.bind ?_ (fun _ => ?_))
      | exact ih0 _ _ _ _ _
      | exact ih1 _ _ _ _ _ _
      | exact ih2 _ _ _ _ _ _
      | exact ih3 _ _ _ _ _ _ _ _ _
      | exact ih4 _ _ _ _ _ _ _
      | exact ih5 _ _ _ _ _ _ _
      | exact LeO.none _
      | refine LeO.ite ?_ ?_
      | refine LeO.bind ?_ (fun _ => ?_)
    · intro y0 y1 y2 y3 y4 y5 y6
      unfold purlinlaw5_GeomParts.l2
      repeat' first
      | (with_reducible exact ih0 _ _ _ _ _)
      | (with_reducible exact ih1 _ _ _ _ _ _)
      | (with_reducible exact ih2 _ _ _ _ _ _)
      | (with_reducible exact ih3 _ _ _ _ _ _ _ _ _)
      | (with_reducible exact ih4 _ _ _ _ _ _ _)
      | (with_reducible exact ih5 _ _ _ _ _ _ _)
      | (with_reducible exact LeO.refl _)
      | (with_reducible exact LeO.none _)
      | (with_reducible refine LeO.ite ?_ ?_)
      | (with_reducible refine LeO.bind ?_ (fun _ => ?_))
      | exact ih0 _ _ _ _ _
      | exact ih1 _ _ _ _ _ _
      | exact ih2 _ _ _ _ _ _
      | exact ih3 _ _ _ _ _ _ _ _ _
      | exact ih4 _ _ _ _ _ _ _
      | exact ih5 _ _ _ _ _ _ _
      | exact LeO.none _
      | refine LeO.ite ?_ ?_
      | refine LeO.bind ?_ (fun _ => ?_)
    · intro y0 y1 y2 y3 y4 y5 y6
      unfold purlinlaw5_GeomParts.l3
      repeat' first
      | (with_reducible exact ih0 _ _ _ _ _)
      | (with_reducible exact ih1 _ _ _ _ _ _)
      | (with_reducible exact ih2 _ _ _ _ _ _)
      | (with_reducible exact ih3 _ _ _ _ _ _ _ _ _)
      | (with_reducible exact ih4 _ _ _ _ _ _ _)
      | (with_reducible exact ih5 _ _ _ _ _ _ _)
      | (with_reducible exact LeO.refl _)
      | (with_reducible exact LeO.none _)
      | (with_reducible refine LeO.ite ?_ ?_)
      | (with_reducible refine LeO.bind ?_ (fun _ => ?_))
      | exact ih0 _ _ _ _ _
      | exact ih1 _ _ _ _ _ _
      | exact ih2 _ _ _ _ _ _
      | exact ih3 _ _ _ _ _ _ _ _ _
      | exact ih4 _ _ _ _ _ _ _
      | exact ih5 _ _ _ _ _ _ _
      | exact LeO.none _
      | refine LeO.ite ?_ ?_
      | refine LeO.bind ?_ (fun _ => ?_)
theorem purlinlaw5_GeomParts.mono : ∀ a0 a1 a2 k, LeO (purlinlaw5_GeomParts.f k a0 a1 a2) (purlinlaw5_GeomParts.f (k + 1) a0 a1 a2) := by
  intro a0 a1 a2 k
  obtain ⟨ih0, ih1, ih2, ih3, ih4, ih5⟩ := purlinlaw5_GeomParts.mono_l k
  unfold purlinlaw5_GeomParts.f
  repeat' first
      | (with_reducible exact ih0 _ _ _ _ _)
      | (with_reducible exact ih1 _ _ _ _ _ _)
      | (with_reducible exact ih2 _ _ _ _ _ _)
      | (with_reducible exact ih3 _ _ _ _ _ _ _ _ _)
      | (with_reducible exact ih4 _ _ _ _ _ _ _)
      | (with_reducible exact ih5 _ _ _ _ _ _ _)
      | (with_reducible exact LeO.refl _)
      | (with_reducible exact LeO.none _)
      | (with_reducible refine LeO.ite ?_ ?_)
      | (with_reducible refine LeO.bind ?_ (fun _ => ?_))
      | exact ih0 _ _ _ _ _
      | exact ih1 _ _ _ _ _ _
      | exact ih2 _ _ _ _ _ _
      | exact ih3 _ _ _ _ _ _ _ _ _
      | exact ih4 _ _ _ _ _ _ _
      | exact ih5 _ _ _ _ _ _ _
      | exact LeO.none _
      | refine LeO.ite ?_ ?_
      | refine LeO.bind ?_ (fun _ => ?_)
set_option maxHeartbeats 8000000 in
set_option maxRecDepth 100000 in
theorem purlinlaw5_GeomParts.calls (k : Nat) (a0 : Int) (a1 : Int) (a2 : Int) (r : Bool) (w : World) (h : purlinlaw5_GeomParts.f k a0 a1 a2 = some r) :
    Calls Try.prog 4 #[.int .i64 a0, .int .i64 a1, .int .i64 a2] w fun e w' => e = .returned (.bool r) ∧ Below w.heap.size w w' := by
  have hu23 := Try.underlying23
  have HB := Aside0.mk (Below.refl w.heap.size w)
  have H : ((purlinlaw0_Low.f a0 8).bind fun t143 => ((purlinlaw0_Low.f a1 8).bind fun t144 => ((purlinlaw0_Low.f a2 81).bind fun t145 => ((geom_Sectors.f (wrap64 (1 + t143)) (wrap64 (4 + (wrap64 (4 * t144)))) (wrap64 (16 + t145))).bind fun t147 => (if t147 < 20 then (purlinlaw5_GeomParts.j0 k t147 true (wrap64 (1 + t143)) (wrap64 (4 + (wrap64 (4 * t144)))) (wrap64 (16 + t145))) else (purlinlaw5_GeomParts.j0 k t147 (decide (t147 > 1000)) (wrap64 (1 + t143)) (wrap64 (4 + (wrap64 (4 * t144)))) (wrap64 (16 + t145)))))))) = some r := h
  clear h
  replace H := Option.bind_eq_some_iff.mp H
  obtain ⟨t143, A40, H⟩ := H
  replace H : ((purlinlaw0_Low.f a1 8).bind fun t144 => ((purlinlaw0_Low.f a2 81).bind fun t145 => ((geom_Sectors.f (wrap64 (1 + t143)) (wrap64 (4 + (wrap64 (4 * t144)))) (wrap64 (16 + t145))).bind fun t147 => (if t147 < 20 then (purlinlaw5_GeomParts.j0 k t147 true (wrap64 (1 + t143)) (wrap64 (4 + (wrap64 (4 * t144)))) (wrap64 (16 + t145))) else (purlinlaw5_GeomParts.j0 k t147 (decide (t147 > 1000)) (wrap64 (1 + t143)) (wrap64 (4 + (wrap64 (4 * t144)))) (wrap64 (16 + t145))))))) = some r := H
  have A4 := Aside0.mk A40
  clear A40
  replace H := Option.bind_eq_some_iff.mp H
  obtain ⟨t144, A50, H⟩ := H
  replace H : ((purlinlaw0_Low.f a2 81).bind fun t145 => ((geom_Sectors.f (wrap64 (1 + t143)) (wrap64 (4 + (wrap64 (4 * t144)))) (wrap64 (16 + t145))).bind fun t147 => (if t147 < 20 then (purlinlaw5_GeomParts.j0 k t147 true (wrap64 (1 + t143)) (wrap64 (4 + (wrap64 (4 * t144)))) (wrap64 (16 + t145))) else (purlinlaw5_GeomParts.j0 k t147 (decide (t147 > 1000)) (wrap64 (1 + t143)) (wrap64 (4 + (wrap64 (4 * t144)))) (wrap64 (16 + t145)))))) = some r := H
  have A5 := Aside0.mk A50
  clear A50
  replace H := Option.bind_eq_some_iff.mp H
  obtain ⟨t145, A60, H⟩ := H
  replace H : ((geom_Sectors.f (wrap64 (1 + t143)) (wrap64 (4 + (wrap64 (4 * t144)))) (wrap64 (16 + t145))).bind fun t147 => (if t147 < 20 then (purlinlaw5_GeomParts.j0 k t147 true (wrap64 (1 + t143)) (wrap64 (4 + (wrap64 (4 * t144)))) (wrap64 (16 + t145))) else (purlinlaw5_GeomParts.j0 k t147 (decide (t147 > 1000)) (wrap64 (1 + t143)) (wrap64 (4 + (wrap64 (4 * t144)))) (wrap64 (16 + t145))))) = some r := H
  have A6 := Aside0.mk A60
  clear A60
  replace H := Option.bind_eq_some_iff.mp H
  obtain ⟨t147, A70, H⟩ := H
  replace H : (if t147 < 20 then (purlinlaw5_GeomParts.j0 k t147 true (wrap64 (1 + t143)) (wrap64 (4 + (wrap64 (4 * t144)))) (wrap64 (16 + t145))) else (purlinlaw5_GeomParts.j0 k t147 (decide (t147 > 1000)) (wrap64 (1 + t143)) (wrap64 (4 + (wrap64 (4 * t144)))) (wrap64 (16 + t145)))) = some r := H
  have A7 := Aside0.mk A70
  clear A70
  have HC8 := Aside0.mk H
  clear H
  go_enter Try.func4, Try.ntmps4
  go_upto_region 3 with (first | ((with_reducible refine gate_callee (f := 25) rfl ?_); refine goesL_ (some 23) rfl rfl Try.func25 (by kernel_rfl) rfl #[.int .i64 a0, .int .i64 8] rfl (by (try simp only [List.map_toArray, List.map_cons, List.map_nil]); first | done | rfl | (simp only [List.length_drop, List.length_take]; rfl)) ?_; (with_reducible refine (purlinlaw0_Low.calls a0 8 t143 _ A4.out).mono ?_); rintro e w' ⟨rfl, ⟨nd, rfl⟩⟩; refine ⟨_, rfl, ?_⟩) | ((with_reducible refine gate_callee (f := 25) rfl ?_); refine goesL_ (some 26) rfl rfl Try.func25 (by kernel_rfl) rfl #[.int .i64 a1, .int .i64 8] rfl (by (try simp only [List.map_toArray, List.map_cons, List.map_nil]); first | done | rfl | (simp only [List.length_drop, List.length_take]; rfl)) ?_; (with_reducible refine (purlinlaw0_Low.calls a1 8 t144 _ A5.out).mono ?_); rintro e w' ⟨rfl, ⟨nd, rfl⟩⟩; refine ⟨_, rfl, ?_⟩) | ((with_reducible refine gate_callee (f := 25) rfl ?_); refine goesL_ (some 30) rfl rfl Try.func25 (by kernel_rfl) rfl #[.int .i64 a2, .int .i64 81] rfl (by (try simp only [List.map_toArray, List.map_cons, List.map_nil]); first | done | rfl | (simp only [List.length_drop, List.length_take]; rfl)) ?_; (with_reducible refine (purlinlaw0_Low.calls a2 81 t145 _ A6.out).mono ?_); rintro e w' ⟨rfl, ⟨nd, rfl⟩⟩; refine ⟨_, rfl, ?_⟩) | ((with_reducible refine gate_dst (N := 7) rfl ?_); refine box_event ?hg (N := 7) ?hd (cs := #[.int .i64 0, .int .i64 0, .int .i64 0]) (t := 23) ?hr ?_; (case hd => rfl); (case hg => rfl); (case hr => first | (go_simp; done) | (go_simp; rfl)); intro gb146 hg w9 hbox hb; have n0_ := Aside0.mk (below_step (by repeat (first | (with_reducible first | exact HB.out | apply below_alloc | apply pw_below_drewN | apply below_drew1) | exact HB.out)) hb); have n1_ := Aside0.mk (hbox); have n2_ := Aside0.mk ((by rw [hg]; exact (below_size (by repeat (first | (with_reducible first | exact HB.out | apply below_alloc | apply pw_below_drewN | apply below_drew1) | exact HB.out))) : w.heap.size ≤ gb146)); have n3_ := Aside0.mk ((by rw [hg]; exact (below_size (by repeat (first | (with_reducible first | exact HB.out | apply below_alloc | apply pw_below_drewN | apply below_drew1) | exact HB.out))) : w.heap.size ≤ gb146)); clear HB; have HB := n0_; have BK146 := n1_; have GW146 := n2_; have GE146 := n3_; clear n0_ n1_ n2_ n3_; clear hb hbox hg; have hcz10_0 : w9.cell? ⟨gb146, 0, none⟩ = some (.int .i64 0) := (blk_cell BK146.out 0).trans rfl; have hcz10_1 : w9.cell? ⟨gb146, 1, none⟩ = some (.int .i64 0) := (blk_cell BK146.out 1).trans rfl; have hcz10_2 : w9.cell? ⟨gb146, 2, none⟩ = some (.int .i64 0) := (blk_cell BK146.out 2).trans rfl; have hfz10_0 := blk_frozen BK146.out 0; have hfz10_1 := blk_frozen BK146.out 1; have hfz10_2 := blk_frozen BK146.out 2) | ((with_reducible refine gate_callee (f := 14) rfl ?_); refine goesL_ (some 34) rfl rfl Try.func14 (by kernel_rfl) rfl #[.agg #[.int .i64 (wrap64 (1 + t143)), .int .i64 (wrap64 (4 + (wrap64 (4 * t144)))), .int .i64 (wrap64 (16 + t145))]] rfl (by (try simp only [List.map_toArray, List.map_cons, List.map_nil]); first | done | rfl | (simp only [List.length_drop, List.length_take]; rfl)) ?_; (with_reducible refine (geom_Sectors.calls (wrap64 (1 + t143)) (wrap64 (4 + (wrap64 (4 * t144)))) (wrap64 (16 + t145)) t147 _ A7.out).mono ?_); rintro e w11 ⟨rfl, hb⟩; refine ⟨_, rfl, ?_⟩; have n0_ := Aside0.mk (blk_below (g := gb146) (o := .cells #[.int .i64 (wrap64 (1 + t143)), .int .i64 (wrap64 (4 + (wrap64 (4 * t144)))), .int .i64 (wrap64 (16 + t145))] 23 (0, 0)) (by (with_reducible repeat (first | refine blk_drewN ?_ _ | refine blk_drew ?_ | refine blk_alloc ?_ _)); refine blk_put (cs := #[.int .i64 (wrap64 (1 + t143)), .int .i64 (wrap64 (4 + (wrap64 (4 * t144)))), .int .i64 0]) ?_ 2 _ rfl; (with_reducible repeat (first | refine blk_drewN ?_ _ | refine blk_drew ?_ | refine blk_alloc ?_ _)); refine blk_put (cs := #[.int .i64 (wrap64 (1 + t143)), .int .i64 0, .int .i64 0]) ?_ 1 _ rfl; (with_reducible repeat (first | refine blk_drewN ?_ _ | refine blk_drew ?_ | refine blk_alloc ?_ _)); refine blk_put (cs := #[.int .i64 0, .int .i64 0, .int .i64 0]) ?_ 0 _ rfl; (with_reducible repeat (first | refine blk_drewN ?_ _ | refine blk_drew ?_ | refine blk_alloc ?_ _)); exact BK146.out) hb); have n1_ := Aside0.mk (below_step (by repeat (first | (with_reducible first | exact HB.out | apply below_alloc | apply pw_below_drewN | apply below_drew1 | refine below_set ?_ GE146.out) | exact HB.out)) hb); clear BK146; clear HB; have BK146 := n0_; have HB := n1_; clear n0_ n1_; (try clear hb); (try clear hb2); (try clear hk); (try clear hi)))
  (try simp only [Act.put, List.setIfInBounds_toArray, List.set_cons_zero, List.set_cons_succ])
  go_cut [40] (fun v40 wc => ∃ (kq : Nat) (x40_7 : Bool), v40 = .bool x40_7 ∧ Aside0 (purlinlaw5_GeomParts.j0 kq t147 x40_7 (wrap64 (1 + t143)) (wrap64 (4 + (wrap64 (4 * t144)))) (wrap64 (16 + t145)) = some r) ∧ Aside0 (kq ≤ k) ∧ Aside0 (wc.heap[gb146]? = some (.cells #[.int .i64 (wrap64 (1 + t143)), .int .i64 (wrap64 (4 + (wrap64 (4 * t144)))), .int .i64 (wrap64 (16 + t145))] 23 (0, 0))) ∧ Aside0 (Below w.heap.size w wc))
  case first =>
    have H := HC8.out
    clear HC8
    by_cases c12 : t147 < 20
    · rw [if_pos c12] at H
      have c12b0 : decide (t147 < 20) = true := decide_eq_true c12
      clear c12
      (first | rw [c12b0] | (simp only [i64_w, i32_w]; rw [c12b0]) | skip)
      have H' := Aside0.mk H
      clear H
      go_wp2
      go_meet
      case rel => exact ⟨_, (true), (by first | rfl | (simp; done) | (simp [*]; done)), H', ⟨by first | omega | exact Nat.le_refl _⟩, ⟨by (with_reducible repeat (first | refine blk_drewN ?_ _ | refine blk_drew ?_ | refine blk_alloc ?_ _)); exact BK146.out⟩, ⟨by repeat (first | (with_reducible first | exact HB.out | apply below_alloc | apply pw_below_drewN | apply below_drew1 | refine below_set ?_ GE146.out) | exact HB.out)⟩⟩
    · rw [if_neg c12] at H
      have c12b0 : decide (t147 < 20) = false := decide_eq_false c12
      clear c12
      (first | rw [c12b0] | (simp only [i64_w, i32_w]; rw [c12b0]) | skip)
      have H' := Aside0.mk H
      clear H
      go_wp2
      go_meet
      case rel => exact ⟨_, (decide (t147 > 1000)), (by first | rfl | (simp; done) | (simp [*]; done)), H', ⟨by first | omega | exact Nat.le_refl _⟩, ⟨by (with_reducible repeat (first | refine blk_drewN ?_ _ | refine blk_drew ?_ | refine blk_alloc ?_ _)); exact BK146.out⟩, ⟨by repeat (first | (with_reducible first | exact HB.out | apply below_alloc | apply pw_below_drewN | apply below_drew1 | refine below_set ?_ GE146.out) | exact HB.out)⟩⟩
  case rest =>
    clear HC8
    try clear c1
    try clear c2
    try clear p2
    try clear c4
    try clear p6
    try clear c12
    try clear c12b0
    try clear hcz10_0
    try clear hcz10_1
    try clear hcz10_2
    try clear hfz10_0
    try clear hfz10_1
    try clear hfz10_2
    obtain ⟨kq, x40_7, rfl, HA, HJ7, BK146, HB⟩ := hcut
    cases kq with
    | zero => exact absurd HA.out (by simp [purlinlaw5_GeomParts.j0])
    | succ kj7 =>
      have H := HA.out
      clear HA
      simp only [purlinlaw5_GeomParts.j0] at H
      by_cases c13 : x40_7 = true
      · subst c13
        have H1 : (some false) = some r := by rw [if_pos rfl] at H; exact H
        clear H
        have H := H1
        clear H1
        obtain rfl := Option.some.inj H
        go_wp2
        go_ret
        exact ⟨by first | rfl | (simp [errW_none, errW_some] <;> rfl) | (simp [*, errW_none, errW_some] <;> rfl), by repeat (first | (with_reducible first | exact HB.out | apply below_alloc | apply pw_below_drewN | apply below_drew1 | refine below_set ?_ GE146.out) | exact HB.out)⟩
      · replace c13 := Bool.eq_false_iff.mpr c13
        subst c13
        have H1 : (if 0 ≤ t147 then (if (t147 : Int).toNat ≤ 35184372088832 then ((some (List.replicate (t147 : Int).toNat 0 : List Int)).bind fun y148 => (if 0 < (y148.length : Int) then (if 1 < (y148.length : Int) then (purlinlaw5_GeomParts.l0 kj7 t147 ((y148.set (0 : Int).toNat 1).set (1 : Int).toNat 1) 0 (wrap64 (1 + t143)) (wrap64 (4 + (wrap64 (4 * t144)))) (wrap64 (16 + t145))) else (none)) else (none))) else (none)) else (none)) = some r := by rw [if_neg (show ¬ (false = true) by decide)] at H; exact H
        clear H
        have H := H1
        clear H1
        by_cases c14 : 0 ≤ t147
        · rw [if_pos c14] at H
          have c14b0 := eq_true c14
          have c14b1 : decide (0 ≤ t147) = true := decide_eq_true c14
          clear c14
          by_cases c15 : (t147 : Int).toNat ≤ 35184372088832
          · rw [if_pos c15] at H
            have c15b0 := eq_true c15
            have c15b1 : decide ((t147 : Int).toNat ≤ 35184372088832) = true := decide_eq_true c15
            clear c15
            obtain ⟨y148, hy148⟩ : ∃ y_ : List Int, y_ = (List.replicate (t147 : Int).toNat 0) := ⟨_, rfl⟩
            replace H : (if 0 < (y148.length : Int) then (if 1 < (y148.length : Int) then (purlinlaw5_GeomParts.l0 kj7 t147 ((y148.set (0 : Int).toNat 1).set (1 : Int).toNat 1) 0 (wrap64 (1 + t143)) (wrap64 (4 + (wrap64 (4 * t144)))) (wrap64 (16 + t145))) else (none)) else (none)) = some r := by first | (rw [hy148]; with_reducible exact H) | (have H2_ := (Option.bind_some _ _).symm.trans H; rw [hy148]; with_reducible exact H2_) | (have H2_ := (Option.bind_some _ _).symm.trans H; with_reducible exact H2_) | with_reducible exact H | (rw [hy148]; exact H) | exact H
            have Ny148 := Aside0.mk hy148
            clear hy148
            by_cases c16 : 0 < (y148.length : Int)
            · rw [if_pos c16] at H
              have c16b0 : decide (0 < (y148.length : Int)) = true := decide_eq_true c16
              have c16b1 : decide (0 < y148.length) = true := decide_eq_true (by omega)
              clear c16
              obtain ⟨y151, hy151⟩ : ∃ y_ : List Int, y_ = (y148.set (0 : Int).toNat 1) := ⟨_, rfl⟩
              replace H : (if 1 < (y148.length : Int) then (purlinlaw5_GeomParts.l0 kj7 t147 (y151.set (1 : Int).toNat 1) 0 (wrap64 (1 + t143)) (wrap64 (4 + (wrap64 (4 * t144)))) (wrap64 (16 + t145))) else (none)) = some r := by first | (rw [hy151]; with_reducible exact H) | (have H2_ := (Option.bind_some _ _).symm.trans H; rw [hy151]; with_reducible exact H2_) | (have H2_ := (Option.bind_some _ _).symm.trans H; with_reducible exact H2_) | with_reducible exact H | (rw [hy151]; exact H) | exact H
              have Ny151 := Aside0.mk hy151
              clear hy151
              by_cases c18 : 1 < (y148.length : Int)
              · rw [if_pos c18] at H
                have c18b0 : decide (1 < (y148.length : Int)) = true := decide_eq_true c18
                have c18b1 : decide (1 < y148.length) = true := decide_eq_true (by omega)
                clear c18
                obtain ⟨y152, hy152⟩ : ∃ y_ : List Int, y_ = (y151.set (1 : Int).toNat 1) := ⟨_, rfl⟩
                replace H : (purlinlaw5_GeomParts.l0 kj7 t147 y152 0 (wrap64 (1 + t143)) (wrap64 (4 + (wrap64 (4 * t144)))) (wrap64 (16 + t145))) = some r := by first | (rw [hy152]; with_reducible exact H) | (have H2_ := (Option.bind_some _ _).symm.trans H; rw [hy152]; with_reducible exact H2_) | (have H2_ := (Option.bind_some _ _).symm.trans H; with_reducible exact H2_) | with_reducible exact H | (rw [hy152]; exact H) | exact H
                have Ny152 := Aside0.mk hy152
                clear hy152
                have H' := Aside0.mk H
                clear H
                go_wp2_with (first | ((with_reducible refine gate_dst (N := 42) rfl ?_); refine Kd.R_make (Kd.int .i64) _ 3 rfl (N := 42) rfl 32 _ _ rfl t147 rfl rfl Try.underlying32 (.int .i64 0) 8 info3 rfl (by decide) (by omega) 0 (ok := fun _ => True) (okp := fun _ => True) rfl (fun _ hk => hk) trivial (of_decide_eq_true (by first | (with_reducible assumption) | assumption)) (Nat.le_trans (Nat.mul_le_mul_right _ (of_decide_eq_true (by first | (with_reducible assumption) | assumption) : t147.toNat ≤ 35184372088832)) (by omega)) (Below.refl _ _) (Nat.le_refl _) ?_; intro v149 w20 ho21 hb hg_ hnew_; clear hg_ hnew_; (first | rw [← Ny148.out] at ho21 | (simp only [Int.reduceToNat] at ho21; rw [← Ny148.out] at ho21)); have n0_ := Aside0.mk (Kd.R_lower ho21 (below_size (by repeat (first | (with_reducible first | exact HB.out | apply below_alloc | apply pw_below_drewN | apply below_drew1 | refine below_set ?_ GE146.out) | exact HB.out)))); have n1_ := Aside0.mk (blk_below (g := gb146) (o := .cells #[.int .i64 (wrap64 (1 + t143)), .int .i64 (wrap64 (4 + (wrap64 (4 * t144)))), .int .i64 (wrap64 (16 + t145))] 23 (0, 0)) (by (with_reducible repeat (first | refine blk_drewN ?_ _ | refine blk_drew ?_ | refine blk_alloc ?_ _)); exact BK146.out) hb); have n2_ := Aside0.mk (below_step (by repeat (first | (with_reducible first | exact HB.out | apply below_alloc | apply pw_below_drewN | apply below_drew1 | refine below_set ?_ GE146.out) | exact HB.out)) hb); clear BK146; clear HB; have HO150 := n0_; have BK146 := n1_; have HB := n2_; clear n0_ n1_ n2_; clear hb ho21; have p17 : 0 ≤ (0 : Int) := (by omega); have q17 : (0 : Int) < ((y148.length : Int) : Int) := of_decide_eq_true (by first | (with_reducible assumption) | assumption); have qi17 : (0 < y148.length) = True := eq_true (by omega); obtain ⟨go17, co17, eo17, gb17, gl17, cl17, HG17⟩ := Kd.R_form HO150.out (by omega); (first | cases eo17 | (injection eo17 with ea_ en_ ec_; (first | subst ea_ | (injection ea_ with ea_; subst ea_)); subst ec_; clear en_)); have GB17 := Aside0.mk gb17; have GG17 := Aside0.mk HG17; clear gb17 gl17 HG17; obtain ⟨hx17_0, hf17_0⟩ := Kd.R_celln 0 HO150.out (0 : Int) p17 q17; (try rw [show ((0 : Int)).toNat = 0 from rfl] at hx17_0); (try simp only [Nat.reduceMul, Nat.zero_mul, Nat.zero_add, Nat.reduceAdd] at hx17_0); (try rw [show ((0 : Int)).toNat = 0 from rfl] at hf17_0); (try simp only [Nat.reduceMul, Nat.zero_mul, Nat.zero_add, Nat.reduceAdd] at hf17_0); replace p17 := eq_true p17; replace q17 := eq_true q17; obtain ⟨hy22_, hz22_⟩ := Kd.R_celln 0 HO150.out (0 : Int) (by omega) (of_decide_eq_true (by first | (with_reducible assumption) | assumption)); (try simp only [Int.reduceToNat, Int.toNat_zero, Int.toNat_ofNat, Nat.reduceMul, Nat.zero_mul, Nat.zero_add] at hy22_ hz22_); (try rw [show ((0 : Int)).toNat = 0 from rfl] at hy22_); (try rw [show ((0 : Int)).toNat = 0 from rfl] at hz22_); have HP22 := Kd.R_putg HO150.out (0 : Int) 1) | ((with_reducible refine gate_store (t := 3) (p := 45) rfl ?_); refine store_event (t := 3) (p := 45) (v := ?vo_w23) (w1 := (w20.setCell ⟨go17, (0 : Int).toNat, none⟩ (.int .i64 1))) ?hg ?ho ?hn ?hr ?_; (case ho => rfl); (case hg => rfl); (case hn => rfl); (case hr => first | (go_simp; done) | (go_simp; rfl)); intro w23 hw; have hg : w20.grownBy w23 (some go17) := (by rw [hw]; exact HP22.2); have hp_ : Kd.R (Kd.int .i64) 3 w23 w.heap.size (fun _ => True) (.slice (some ⟨go17, 0, none⟩) y148.length co17) y151 := (by rw [hw, Ny151.out]; exact HP22.1); clear HP22; have n0_ := Aside0.mk (blk_grown (g := gb146) (o := .cells #[.int .i64 (wrap64 (1 + t143)), .int .i64 (wrap64 (4 + (wrap64 (4 * t144)))), .int .i64 (wrap64 (16 + t145))] 23 (0, 0)) (by (with_reducible repeat (first | refine blk_drewN ?_ _ | refine blk_drew ?_ | refine blk_alloc ?_ _)); exact BK146.out) hg (Kd.R_ne HO150.out BK146.out (by decide))); have n1_ := Aside0.mk (hp_); have n2_ := Aside0.mk ((by rw [hw]; exact below_set (HB.out) GB17.out : Below w.heap.size w w23)); clear BK146; clear HO150; clear HB; have BK146 := n0_; have HO150 := n1_; have HB := n2_; clear n0_ n1_ n2_; clear hg hw hp_; have p19 : 0 ≤ (1 : Int) := (by omega); have q19 : (1 : Int) < ((y148.length : Int) : Int) := of_decide_eq_true (by first | (with_reducible assumption) | assumption); have qi19 : (1 < y148.length) = True := eq_true (by omega); obtain ⟨hx19_0, hf19_0⟩ := Kd.R_celln 0 HO150.out (1 : Int) p19 q19; (try rw [show ((1 : Int)).toNat = 1 from rfl] at hx19_0); (try simp only [Nat.reduceMul, Nat.zero_mul, Nat.zero_add, Nat.reduceAdd] at hx19_0); (try rw [show ((1 : Int)).toNat = 1 from rfl] at hf19_0); (try simp only [Nat.reduceMul, Nat.zero_mul, Nat.zero_add, Nat.reduceAdd] at hf19_0); replace p19 := eq_true p19; replace q19 := eq_true q19; obtain ⟨hy24_, hz24_⟩ := Kd.R_celln 0 HO150.out (1 : Int) (by omega) (of_decide_eq_true (by first | (with_reducible assumption) | assumption)); (try simp only [Int.reduceToNat, Int.toNat_zero, Int.toNat_ofNat, Nat.reduceMul, Nat.zero_mul, Nat.zero_add] at hy24_ hz24_); (try rw [show ((1 : Int)).toNat = 1 from rfl] at hy24_); (try rw [show ((1 : Int)).toNat = 1 from rfl] at hz24_); have HP24 := Kd.R_putg HO150.out (1 : Int) 1) | ((with_reducible refine gate_store (t := 3) (p := 46) rfl ?_); refine store_event (t := 3) (p := 46) (v := ?vo_w25) (w1 := (w23.setCell ⟨go17, (1 : Int).toNat, none⟩ (.int .i64 1))) ?hg ?ho ?hn ?hr ?_; (case ho => rfl); (case hg => rfl); (case hn => rfl); (case hr => first | (go_simp; done) | (go_simp; rfl)); intro w25 hw; have hg : w23.grownBy w25 (some go17) := (by rw [hw]; exact HP24.2); have hp_ : Kd.R (Kd.int .i64) 3 w25 w.heap.size (fun _ => True) (.slice (some ⟨go17, 0, none⟩) y148.length co17) y152 := (by rw [hw, Ny152.out]; exact HP24.1); clear HP24; have n0_ := Aside0.mk (blk_grown (g := gb146) (o := .cells #[.int .i64 (wrap64 (1 + t143)), .int .i64 (wrap64 (4 + (wrap64 (4 * t144)))), .int .i64 (wrap64 (16 + t145))] 23 (0, 0)) (by (with_reducible repeat (first | refine blk_drewN ?_ _ | refine blk_drew ?_ | refine blk_alloc ?_ _)); exact BK146.out) hg (Kd.R_ne HO150.out BK146.out (by decide))); have n1_ := Aside0.mk (hp_); have n2_ := Aside0.mk ((by rw [hw]; exact below_set (HB.out) GB17.out : Below w.heap.size w w25)); clear BK146; clear HO150; clear HB; have BK146 := n0_; have HO150 := n1_; have HB := n2_; clear n0_ n1_ n2_; clear hg hw hp_))
                go_loopg [10] kj7 (fun kq v10 w' => ∃ (x9_2 : List Int) (x10_2 : Int), v10 = .int .i64 x10_2 ∧ Aside0 (purlinlaw5_GeomParts.l0 kq t147 x9_2 x10_2 (wrap64 (1 + t143)) (wrap64 (4 + (wrap64 (4 * t144)))) (wrap64 (16 + t145)) = some r) ∧ Aside0 (kq ≤ kj7) ∧ Aside0 (Kd.R (Kd.int .i64) 3 w' w.heap.size (fun _ => True) (.slice (some ⟨go17, 0, none⟩) y148.length co17) x9_2) ∧ Aside0 (w'.heap[gb146]? = some (.cells #[.int .i64 (wrap64 (1 + t143)), .int .i64 (wrap64 (4 + (wrap64 (4 * t144)))), .int .i64 (wrap64 (16 + t145))] 23 (0, 0))) ∧ Aside0 (Below w.heap.size w w'))
                case atStart => exact ⟨(y152), (0), (by first | rfl | (simp; done) | (simp [*]; done)), H', ⟨Nat.le_refl _⟩, ⟨by (with_reducible repeat (first | apply Kd.R_alloc | apply Kd.R_drewN | apply Kd.R_drew)); exact HO150.out⟩, ⟨by (with_reducible repeat (first | refine blk_drewN ?_ _ | refine blk_drew ?_ | refine blk_alloc ?_ _)); exact BK146.out⟩, ⟨by repeat (first | (with_reducible first | exact HB.out | apply below_alloc | apply pw_below_drewN | apply below_drew1 | refine below_set ?_ GE146.out) | exact HB.out)⟩⟩
                case round =>
                  clear H'
                  try clear c1
                  try clear p1
                  try clear q1
                  try clear hx1
                  try clear qi1
                  try clear c2
                  try clear p2
                  try clear c4
                  try clear p6
                  try clear c12
                  try clear c12b0
                  try clear c13
                  try clear c14
                  try clear c14b0
                  try clear c14b1
                  try clear c15
                  try clear c15b0
                  try clear c15b1
                  try clear c16
                  try clear c16b0
                  try clear c16b1
                  try clear p17
                  try clear q17
                  try clear hx17
                  try clear qi17
                  try clear hf17
                  try clear c18
                  try clear c18b0
                  try clear c18b1
                  try clear p19
                  try clear q19
                  try clear hx19
                  try clear qi19
                  try clear hf19
                  try clear c25
                  try clear hcz10_0
                  try clear hcz10_1
                  try clear hcz10_2
                  try clear hfz10_0
                  try clear hfz10_1
                  try clear hfz10_2
                  try clear hx17_0
                  try clear hx19_0
                  try clear p17
                  try clear p19
                  try clear p2
                  try clear p6
                  try clear q17
                  try clear q19
                  obtain ⟨x9_2, x10_2, rfl, HA, HK2, HO_9, BK146, HB⟩ := hrel
                  have hl9_2 := (Kd.R_reads' HO_9.out).1
                  rw [hl9_2] at HO_9
                  (try simp only [hl9_2])
                  (try simp only [hl9_2] at BK146)
                  cases gk with
                  | zero => exact absurd HA.out (by simp [purlinlaw5_GeomParts.l0])
                  | succ k2 =>
                    have H := HA.out
                    clear HA
                    simp only [purlinlaw5_GeomParts.l0] at H
                    by_cases c26 : x10_2 < (wrap64 (1 + t143))
                    · rw [if_pos c26] at H
                      have c26b0 : decide (x10_2 < (wrap64 (1 + t143))) = true := decide_eq_true c26
                      clear c26
                      replace H := Option.bind_eq_some_iff.mp H
                      obtain ⟨t153, A270, H⟩ := H
                      replace H : (if t153 < 2 then (some false) else (if t153 ≥ t147 then (some false) else (if 0 ≤ t153 then (if t153 < (x9_2.length : Int) then (purlinlaw5_GeomParts.l0 k2 t147 (x9_2.set (t153 : Int).toNat (wrap64 ((rd x9_2 t153) + 1))) (wrap64 (x10_2 + 1)) (wrap64 (1 + t143)) (wrap64 (4 + (wrap64 (4 * t144)))) (wrap64 (16 + t145))) else (none)) else (none)))) = some r := H
                      have A27 := Aside0.mk A270
                      clear A270
                      by_cases c28 : t153 < 2
                      · rw [if_pos c28] at H
                        have c28b0 : decide (t153 < 2) = true := decide_eq_true c28
                        clear c28
                        obtain rfl := Option.some.inj H
                        have hcz29_0 : wr.cell? ⟨gb146, 0, none⟩ = some (.int .i64 (wrap64 (1 + t143))) := (blk_cell BK146.out 0).trans rfl
                        have hcz29_1 : wr.cell? ⟨gb146, 1, none⟩ = some (.int .i64 (wrap64 (4 + (wrap64 (4 * t144))))) := (blk_cell BK146.out 1).trans rfl
                        have hcz29_2 : wr.cell? ⟨gb146, 2, none⟩ = some (.int .i64 (wrap64 (16 + t145))) := (blk_cell BK146.out 2).trans rfl
                        have hfz29_0 := blk_frozen BK146.out 0
                        have hfz29_1 := blk_frozen BK146.out 1
                        have hfz29_2 := blk_frozen BK146.out 2
                        go_wp2_with (first | ((with_reducible refine gate_callee (f := 20) rfl ?_); refine goesL_ (some 55) rfl rfl Try.func20 (by kernel_rfl) rfl #[.agg #[.int .i64 (wrap64 (1 + t143)), .int .i64 (wrap64 (4 + (wrap64 (4 * t144)))), .int .i64 (wrap64 (16 + t145))], .int .i64 x10_2] rfl (by (try simp only [List.map_toArray, List.map_cons, List.map_nil]); first | done | rfl | (simp only [List.length_drop, List.length_take]; rfl)) ?_; (with_reducible refine (geom_Group.calls (wrap64 (1 + t143)) (wrap64 (4 + (wrap64 (4 * t144)))) (wrap64 (16 + t145)) x10_2 t153 _ A27.out).mono ?_); rintro e w30 ⟨rfl, hb⟩; refine ⟨_, rfl, ?_⟩; have n0_ := Aside0.mk (Kd.R_below (by (with_reducible repeat (first | apply Kd.R_alloc | apply Kd.R_drewN | apply Kd.R_drew)); exact HO_9.out) hb); have n1_ := Aside0.mk (blk_below (g := gb146) (o := .cells #[.int .i64 (wrap64 (1 + t143)), .int .i64 (wrap64 (4 + (wrap64 (4 * t144)))), .int .i64 (wrap64 (16 + t145))] 23 (0, 0)) (by (with_reducible repeat (first | refine blk_drewN ?_ _ | refine blk_drew ?_ | refine blk_alloc ?_ _)); exact BK146.out) hb); have n2_ := Aside0.mk (below_step (by repeat (first | (with_reducible first | exact HB.out | apply below_alloc | apply pw_below_drewN | apply below_drew1 | refine below_set ?_ GE146.out) | exact HB.out)) hb); clear HO_9; clear BK146; clear HB; have HO_9 := n0_; have BK146 := n1_; have HB := n2_; clear n0_ n1_ n2_; (try clear hb); (try clear hb2); (try clear hk); (try clear hi)))
                        go_ret
                        exact ⟨by first | rfl | (simp [errW_none, errW_some] <;> rfl) | (simp [*, errW_none, errW_some] <;> rfl), by repeat (first | (with_reducible first | exact HB.out | apply below_alloc | apply pw_below_drewN | apply below_drew1 | refine below_set ?_ GE146.out) | exact HB.out)⟩
                      · rw [if_neg c28] at H
                        have c28b0 : decide (t153 < 2) = false := decide_eq_false c28
                        clear c28
                        by_cases c31 : t153 ≥ t147
                        · rw [if_pos c31] at H
                          have c31b0 : decide (t147 ≤ t153) = true := decide_eq_true c31
                          clear c31
                          obtain rfl := Option.some.inj H
                          have hcz32_0 : wr.cell? ⟨gb146, 0, none⟩ = some (.int .i64 (wrap64 (1 + t143))) := (blk_cell BK146.out 0).trans rfl
                          have hcz32_1 : wr.cell? ⟨gb146, 1, none⟩ = some (.int .i64 (wrap64 (4 + (wrap64 (4 * t144))))) := (blk_cell BK146.out 1).trans rfl
                          have hcz32_2 : wr.cell? ⟨gb146, 2, none⟩ = some (.int .i64 (wrap64 (16 + t145))) := (blk_cell BK146.out 2).trans rfl
                          have hfz32_0 := blk_frozen BK146.out 0
                          have hfz32_1 := blk_frozen BK146.out 1
                          have hfz32_2 := blk_frozen BK146.out 2
                          go_wp2_with (first | ((with_reducible refine gate_callee (f := 20) rfl ?_); refine goesL_ (some 55) rfl rfl Try.func20 (by kernel_rfl) rfl #[.agg #[.int .i64 (wrap64 (1 + t143)), .int .i64 (wrap64 (4 + (wrap64 (4 * t144)))), .int .i64 (wrap64 (16 + t145))], .int .i64 x10_2] rfl (by (try simp only [List.map_toArray, List.map_cons, List.map_nil]); first | done | rfl | (simp only [List.length_drop, List.length_take]; rfl)) ?_; (with_reducible refine (geom_Group.calls (wrap64 (1 + t143)) (wrap64 (4 + (wrap64 (4 * t144)))) (wrap64 (16 + t145)) x10_2 t153 _ A27.out).mono ?_); rintro e w33 ⟨rfl, hb⟩; refine ⟨_, rfl, ?_⟩; have n0_ := Aside0.mk (Kd.R_below (by (with_reducible repeat (first | apply Kd.R_alloc | apply Kd.R_drewN | apply Kd.R_drew)); exact HO_9.out) hb); have n1_ := Aside0.mk (blk_below (g := gb146) (o := .cells #[.int .i64 (wrap64 (1 + t143)), .int .i64 (wrap64 (4 + (wrap64 (4 * t144)))), .int .i64 (wrap64 (16 + t145))] 23 (0, 0)) (by (with_reducible repeat (first | refine blk_drewN ?_ _ | refine blk_drew ?_ | refine blk_alloc ?_ _)); exact BK146.out) hb); have n2_ := Aside0.mk (below_step (by repeat (first | (with_reducible first | exact HB.out | apply below_alloc | apply pw_below_drewN | apply below_drew1 | refine below_set ?_ GE146.out) | exact HB.out)) hb); clear HO_9; clear BK146; clear HB; have HO_9 := n0_; have BK146 := n1_; have HB := n2_; clear n0_ n1_ n2_; (try clear hb); (try clear hb2); (try clear hk); (try clear hi)))
                          go_ret
                          exact ⟨by first | rfl | (simp [errW_none, errW_some] <;> rfl) | (simp [*, errW_none, errW_some] <;> rfl), by repeat (first | (with_reducible first | exact HB.out | apply below_alloc | apply pw_below_drewN | apply below_drew1 | refine below_set ?_ GE146.out) | exact HB.out)⟩
                        · rw [if_neg c31] at H
                          have c31b0 : decide (t147 ≤ t153) = false := decide_eq_false c31
                          clear c31
                          by_cases c34 : 0 ≤ t153
                          · rw [if_pos c34] at H
                            have c34b0 : decide (0 ≤ t153) = true := decide_eq_true c34
                            clear c34
                            by_cases c35 : t153 < (x9_2.length : Int)
                            · rw [if_pos c35] at H
                              have c35b0 : decide (t153 < (x9_2.length : Int)) = true := decide_eq_true c35
                              clear c35
                              obtain ⟨y155, hy155⟩ : ∃ y_ : List Int, y_ = (x9_2.set (t153 : Int).toNat (wrap64 ((rd x9_2 t153) + 1))) := ⟨_, rfl⟩
                              replace H : (purlinlaw5_GeomParts.l0 k2 t147 y155 (wrap64 (x10_2 + 1)) (wrap64 (1 + t143)) (wrap64 (4 + (wrap64 (4 * t144)))) (wrap64 (16 + t145))) = some r := by first | (rw [hy155]; with_reducible exact H) | (have H2_ := (Option.bind_some _ _).symm.trans H; rw [hy155]; with_reducible exact H2_) | (have H2_ := (Option.bind_some _ _).symm.trans H; with_reducible exact H2_) | with_reducible exact H | (rw [hy155]; exact H) | exact H
                              have Ny155 := Aside0.mk hy155
                              clear hy155
                              have H' := Aside0.mk H
                              clear H
                              have hcz37_0 : wr.cell? ⟨gb146, 0, none⟩ = some (.int .i64 (wrap64 (1 + t143))) := (blk_cell BK146.out 0).trans rfl
                              have hcz37_1 : wr.cell? ⟨gb146, 1, none⟩ = some (.int .i64 (wrap64 (4 + (wrap64 (4 * t144))))) := (blk_cell BK146.out 1).trans rfl
                              have hcz37_2 : wr.cell? ⟨gb146, 2, none⟩ = some (.int .i64 (wrap64 (16 + t145))) := (blk_cell BK146.out 2).trans rfl
                              have hfz37_0 := blk_frozen BK146.out 0
                              have hfz37_1 := blk_frozen BK146.out 1
                              have hfz37_2 := blk_frozen BK146.out 2
                              go_wp2_with (first | ((with_reducible refine gate_callee (f := 20) rfl ?_); refine goesL_ (some 55) rfl rfl Try.func20 (by kernel_rfl) rfl #[.agg #[.int .i64 (wrap64 (1 + t143)), .int .i64 (wrap64 (4 + (wrap64 (4 * t144)))), .int .i64 (wrap64 (16 + t145))], .int .i64 x10_2] rfl (by (try simp only [List.map_toArray, List.map_cons, List.map_nil]); first | done | rfl | (simp only [List.length_drop, List.length_take]; rfl)) ?_; (with_reducible refine (geom_Group.calls (wrap64 (1 + t143)) (wrap64 (4 + (wrap64 (4 * t144)))) (wrap64 (16 + t145)) x10_2 t153 _ A27.out).mono ?_); rintro e w38 ⟨rfl, hb⟩; refine ⟨_, rfl, ?_⟩; have n0_ := Aside0.mk (Kd.R_below (by (with_reducible repeat (first | apply Kd.R_alloc | apply Kd.R_drewN | apply Kd.R_drew)); exact HO_9.out) hb); have n1_ := Aside0.mk (blk_below (g := gb146) (o := .cells #[.int .i64 (wrap64 (1 + t143)), .int .i64 (wrap64 (4 + (wrap64 (4 * t144)))), .int .i64 (wrap64 (16 + t145))] 23 (0, 0)) (by (with_reducible repeat (first | refine blk_drewN ?_ _ | refine blk_drew ?_ | refine blk_alloc ?_ _)); exact BK146.out) hb); have n2_ := Aside0.mk (below_step (by repeat (first | (with_reducible first | exact HB.out | apply below_alloc | apply pw_below_drewN | apply below_drew1 | refine below_set ?_ GE146.out) | exact HB.out)) hb); clear HO_9; clear BK146; clear HB; have HO_9 := n0_; have BK146 := n1_; have HB := n2_; clear n0_ n1_ n2_; (try clear hb); (try clear hb2); (try clear hk); (try clear hi); have p154 : 0 ≤ (t153 : Int) := of_decide_eq_true (by first | (with_reducible assumption) | assumption); have q154 : t153 < (x9_2.length : Int) := of_decide_eq_true (by first | (with_reducible assumption) | assumption); obtain ⟨ad154, e154, hx154_0⟩ := Kd.at_int (Kd.R_reads' HO_9.out).2.2 t153 p154 q154; obtain rfl : (⟨go17, 0, none⟩ : Addr) = ad154 := (by injection e154); (first | simp only [add_plain] at hx154_0 | simp only [add_at] at hx154_0 | simp only [Addr.add, Nat.zero_add] at hx154_0 | skip); replace p154 := eq_true p154; replace q154 := eq_true q154; have p36 : 0 ≤ (t153 : Int) := of_decide_eq_true (by first | (with_reducible assumption) | assumption); have q36 : (t153 : Int) < ((x9_2.length : Int) : Int) := of_decide_eq_true (by first | (with_reducible assumption) | assumption); obtain ⟨hx36_0, hf36_0⟩ := Kd.R_celln 0 HO_9.out (t153 : Int) p36 q36; replace p36 := eq_true p36; replace q36 := eq_true q36; obtain ⟨hy39_, hz39_⟩ := Kd.R_celln 0 HO_9.out (t153 : Int) (of_decide_eq_true (by first | (with_reducible assumption) | assumption)) (of_decide_eq_true (by first | (with_reducible assumption) | assumption)); have HP39 := Kd.R_putg HO_9.out (t153 : Int) (wrap64 ((rd x9_2 t153) + 1))) | ((with_reducible refine gate_store (t := 3) (p := 68) rfl ?_); refine store_event (t := 3) (p := 68) (v := ?vo_w40) (w1 := (w38.setCell ⟨go17, (t153 : Int).toNat, none⟩ (.int .i64 (wrap64 ((rd x9_2 t153) + 1))))) ?hg ?ho ?hn ?hr ?_; (case ho => rfl); (case hg => rfl); (case hn => rfl); (case hr => first | (go_simp; done) | (go_simp; rfl)); intro w40 hw; have hg : w38.grownBy w40 (some go17) := (by rw [hw]; exact HP39.2); have hp_ : Kd.R (Kd.int .i64) 3 w40 w.heap.size (fun _ => True) (.slice (some ⟨go17, 0, none⟩) x9_2.length co17) y155 := (by rw [hw, Ny155.out]; exact HP39.1); clear HP39; have n0_ := Aside0.mk (hp_); have n1_ := Aside0.mk (blk_grown (g := gb146) (o := .cells #[.int .i64 (wrap64 (1 + t143)), .int .i64 (wrap64 (4 + (wrap64 (4 * t144)))), .int .i64 (wrap64 (16 + t145))] 23 (0, 0)) (by (with_reducible repeat (first | refine blk_drewN ?_ _ | refine blk_drew ?_ | refine blk_alloc ?_ _)); exact BK146.out) hg (Kd.R_ne HO_9.out BK146.out (by decide))); have n2_ := Aside0.mk ((by rw [hw]; exact below_set (HB.out) GB17.out : Below w.heap.size w w40)); clear HO_9; clear BK146; clear HB; have HO_9 := n0_; have BK146 := n1_; have HB := n2_; clear n0_ n1_ n2_; clear hg hw hp_))
                              (try simp only [← hl9_2])
                              go_roundg k2
                              case measure => have := HJ7.out; have := HK2.out; omega
                              case rel => exact ⟨(y155), (wrap64 (x10_2 + 1)), (by first | rfl | (simp; done) | (simp [*]; done)), H', ⟨by have := HJ7.out; have := HK2.out; omega⟩, ⟨by (try simp only [hl9_2]); (with_reducible repeat (first | apply Kd.R_alloc | apply Kd.R_drewN | apply Kd.R_drew)); exact HO_9.out⟩, ⟨by (try simp only [hl9_2]); (with_reducible repeat (first | refine blk_drewN ?_ _ | refine blk_drew ?_ | refine blk_alloc ?_ _)); exact BK146.out⟩, ⟨by repeat (first | (with_reducible first | exact HB.out | apply below_alloc | apply pw_below_drewN | apply below_drew1 | refine below_set ?_ GE146.out) | exact HB.out)⟩⟩
                            · rw [if_neg c35] at H
                              exact absurd H (by simp)
                          · rw [if_neg c34] at H
                            exact absurd H (by simp)
                    · rw [if_neg c26] at H
                      have c26b0 : decide (x10_2 < (wrap64 (1 + t143))) = false := decide_eq_false c26
                      clear c26
                      have H' := Aside0.mk H
                      clear H
                      have hcz41_0 : wr.cell? ⟨gb146, 0, none⟩ = some (.int .i64 (wrap64 (1 + t143))) := (blk_cell BK146.out 0).trans rfl
                      have hcz41_1 : wr.cell? ⟨gb146, 1, none⟩ = some (.int .i64 (wrap64 (4 + (wrap64 (4 * t144))))) := (blk_cell BK146.out 1).trans rfl
                      have hcz41_2 : wr.cell? ⟨gb146, 2, none⟩ = some (.int .i64 (wrap64 (16 + t145))) := (blk_cell BK146.out 2).trans rfl
                      have hfz41_0 := blk_frozen BK146.out 0
                      have hfz41_1 := blk_frozen BK146.out 1
                      have hfz41_2 := blk_frozen BK146.out 2
                      go_wp2
                      go_loopg [12] k2 (fun kq v12 w' => ∃ (x9_3 : List Int) (x12_3 : Int), v12 = .int .i64 x12_3 ∧ Aside0 (purlinlaw5_GeomParts.l1 kq t147 x9_3 x12_3 (wrap64 (1 + t143)) (wrap64 (4 + (wrap64 (4 * t144)))) (wrap64 (16 + t145)) = some r) ∧ Aside0 (kq ≤ k2) ∧ Aside0 (Kd.R (Kd.int .i64) 3 w' w.heap.size (fun _ => True) (.slice (some ⟨go17, 0, none⟩) x9_2.length co17) x9_3) ∧ Aside0 (w'.heap[gb146]? = some (.cells #[.int .i64 (wrap64 (1 + t143)), .int .i64 (wrap64 (4 + (wrap64 (4 * t144)))), .int .i64 (wrap64 (16 + t145))] 23 (0, 0))) ∧ Aside0 (Below w.heap.size w w'))
                      case atStart => exact ⟨(x9_2), (1), (by first | rfl | (simp; done) | (simp [*]; done)), H', ⟨Nat.le_refl _⟩, ⟨by (try simp only [hl9_2]); (with_reducible repeat (first | apply Kd.R_alloc | apply Kd.R_drewN | apply Kd.R_drew)); exact HO_9.out⟩, ⟨by (try simp only [hl9_2]); (with_reducible repeat (first | refine blk_drewN ?_ _ | refine blk_drew ?_ | refine blk_alloc ?_ _)); exact BK146.out⟩, ⟨by repeat (first | (with_reducible first | exact HB.out | apply below_alloc | apply pw_below_drewN | apply below_drew1 | refine below_set ?_ GE146.out) | exact HB.out)⟩⟩
                      case round =>
                        clear H'
                        try clear c1
                        try clear p1
                        try clear q1
                        try clear hx1
                        try clear qi1
                        try clear c2
                        try clear p2
                        try clear c3
                        try clear p3
                        try clear q3
                        try clear hx3
                        try clear hf3
                        try clear c4
                        try clear p6
                        try clear c12
                        try clear c12b0
                        try clear c13
                        try clear c14
                        try clear c14b0
                        try clear c14b1
                        try clear c15
                        try clear c15b0
                        try clear c15b1
                        try clear p15
                        try clear q15
                        try clear hx15
                        try clear c16
                        try clear c16b0
                        try clear c16b1
                        try clear p17
                        try clear q17
                        try clear hx17
                        try clear qi17
                        try clear hf17
                        try clear c18
                        try clear c18b0
                        try clear c18b1
                        try clear p19
                        try clear q19
                        try clear hx19
                        try clear qi19
                        try clear hf19
                        try clear c20
                        try clear c25
                        try clear c26
                        try clear c26b0
                        try clear c28
                        try clear c28b0
                        try clear c31
                        try clear c31b0
                        try clear c34
                        try clear c34b0
                        try clear c35
                        try clear c35b0
                        try clear p36
                        try clear q36
                        try clear hx36
                        try clear hf36
                        try clear hcz10_0
                        try clear hcz10_1
                        try clear hcz10_2
                        try clear hcz29_0
                        try clear hcz29_1
                        try clear hcz29_2
                        try clear hcz32_0
                        try clear hcz32_1
                        try clear hcz32_2
                        try clear hcz37_0
                        try clear hcz37_1
                        try clear hcz37_2
                        try clear hcz41_0
                        try clear hcz41_1
                        try clear hcz41_2
                        try clear hfz10_0
                        try clear hfz10_1
                        try clear hfz10_2
                        try clear hfz29_0
                        try clear hfz29_1
                        try clear hfz29_2
                        try clear hfz32_0
                        try clear hfz32_1
                        try clear hfz32_2
                        try clear hfz37_0
                        try clear hfz37_1
                        try clear hfz37_2
                        try clear hfz41_0
                        try clear hfz41_1
                        try clear hfz41_2
                        try clear hx154_0
                        try clear hx17_0
                        try clear hx19_0
                        try clear hx36_0
                        try clear p1
                        try clear p154
                        try clear p17
                        try clear p19
                        try clear p2
                        try clear p36
                        try clear p6
                        try clear q1
                        try clear q154
                        try clear q17
                        try clear q19
                        try clear q36
                        obtain ⟨x9_3, x12_3, rfl, HA, HK3, HO_9, BK146, HB⟩ := hrel
                        have hl9_3 := (Kd.R_reads' HO_9.out).1
                        rw [hl9_3] at HO_9
                        (try simp only [hl9_3])
                        (try simp only [hl9_3] at BK146)
                        cases gk with
                        | zero => exact absurd HA.out (by simp [purlinlaw5_GeomParts.l1])
                        | succ k3 =>
                          have H := HA.out
                          clear HA
                          simp only [purlinlaw5_GeomParts.l1] at H
                          replace H := Option.bind_eq_some_iff.mp H
                          obtain ⟨t156, A420, H⟩ := H
                          replace H : (if x12_3 ≤ t156 then ((geom_Inode.f (wrap64 (1 + t143)) (wrap64 (4 + (wrap64 (4 * t144)))) (wrap64 (16 + t145)) x12_3).bind fun bt157 => ((geom_OfInode.f (wrap64 (1 + t143)) (wrap64 (4 + (wrap64 (4 * t144)))) (wrap64 (16 + t145)) x12_3).bind fun bt159 => (if bt157.1 < 2 then (purlinlaw5_GeomParts.j3 k3 t147 x9_3 x12_3 bt157.1 bt157.2 true (wrap64 (1 + t143)) (wrap64 (4 + (wrap64 (4 * t144)))) (wrap64 (16 + t145))) else (if bt157.1 ≥ t147 then (purlinlaw5_GeomParts.j3 k3 t147 x9_3 x12_3 bt157.1 bt157.2 true (wrap64 (1 + t143)) (wrap64 (4 + (wrap64 (4 * t144)))) (wrap64 (16 + t145))) else (if bt157.2 < 0 then (purlinlaw5_GeomParts.j3 k3 t147 x9_3 x12_3 bt157.1 bt157.2 true (wrap64 (1 + t143)) (wrap64 (4 + (wrap64 (4 * t144)))) (wrap64 (16 + t145))) else (if bt157.2 > 3 then (purlinlaw5_GeomParts.j3 k3 t147 x9_3 x12_3 bt157.1 bt157.2 true (wrap64 (1 + t143)) (wrap64 (4 + (wrap64 (4 * t144)))) (wrap64 (16 + t145))) else (if bt159.1 < 0 then (purlinlaw5_GeomParts.j3 k3 t147 x9_3 x12_3 bt157.1 bt157.2 true (wrap64 (1 + t143)) (wrap64 (4 + (wrap64 (4 * t144)))) (wrap64 (16 + t145))) else (if bt159.2 < 0 then (purlinlaw5_GeomParts.j3 k3 t147 x9_3 x12_3 bt157.1 bt157.2 true (wrap64 (1 + t143)) (wrap64 (4 + (wrap64 (4 * t144)))) (wrap64 (16 + t145))) else (purlinlaw5_GeomParts.j3 k3 t147 x9_3 x12_3 bt157.1 bt157.2 ((wrap64 ((wrap64 (bt159.1 * (wrap64 (4 + (wrap64 (4 * t144)))))) + bt159.2)) != (wrap64 (x12_3 - 1))) (wrap64 (1 + t143)) (wrap64 (4 + (wrap64 (4 * t144)))) (wrap64 (16 + t145))))))))))) else (purlinlaw5_GeomParts.l2 k3 t147 x9_3 0 0 (wrap64 (1 + t143)) (wrap64 (4 + (wrap64 (4 * t144)))) (wrap64 (16 + t145)))) = some r := H
                          have A42 := Aside0.mk A420
                          clear A420
                          by_cases c43 : x12_3 ≤ t156
                          · rw [if_pos c43] at H
                            have c43b0 : decide (x12_3 ≤ t156) = true := decide_eq_true c43
                            clear c43
                            replace H := Option.bind_eq_some_iff.mp H
                            obtain ⟨⟨t157, t158⟩, A440, H⟩ := H
                            replace H : ((geom_OfInode.f (wrap64 (1 + t143)) (wrap64 (4 + (wrap64 (4 * t144)))) (wrap64 (16 + t145)) x12_3).bind fun bt159 => (if t157 < 2 then (purlinlaw5_GeomParts.j3 k3 t147 x9_3 x12_3 t157 t158 true (wrap64 (1 + t143)) (wrap64 (4 + (wrap64 (4 * t144)))) (wrap64 (16 + t145))) else (if t157 ≥ t147 then (purlinlaw5_GeomParts.j3 k3 t147 x9_3 x12_3 t157 t158 true (wrap64 (1 + t143)) (wrap64 (4 + (wrap64 (4 * t144)))) (wrap64 (16 + t145))) else (if t158 < 0 then (purlinlaw5_GeomParts.j3 k3 t147 x9_3 x12_3 t157 t158 true (wrap64 (1 + t143)) (wrap64 (4 + (wrap64 (4 * t144)))) (wrap64 (16 + t145))) else (if t158 > 3 then (purlinlaw5_GeomParts.j3 k3 t147 x9_3 x12_3 t157 t158 true (wrap64 (1 + t143)) (wrap64 (4 + (wrap64 (4 * t144)))) (wrap64 (16 + t145))) else (if bt159.1 < 0 then (purlinlaw5_GeomParts.j3 k3 t147 x9_3 x12_3 t157 t158 true (wrap64 (1 + t143)) (wrap64 (4 + (wrap64 (4 * t144)))) (wrap64 (16 + t145))) else (if bt159.2 < 0 then (purlinlaw5_GeomParts.j3 k3 t147 x9_3 x12_3 t157 t158 true (wrap64 (1 + t143)) (wrap64 (4 + (wrap64 (4 * t144)))) (wrap64 (16 + t145))) else (purlinlaw5_GeomParts.j3 k3 t147 x9_3 x12_3 t157 t158 ((wrap64 ((wrap64 (bt159.1 * (wrap64 (4 + (wrap64 (4 * t144)))))) + bt159.2)) != (wrap64 (x12_3 - 1))) (wrap64 (1 + t143)) (wrap64 (4 + (wrap64 (4 * t144)))) (wrap64 (16 + t145)))))))))) = some r := H
                            have A44 := Aside0.mk A440
                            clear A440
                            replace H := Option.bind_eq_some_iff.mp H
                            obtain ⟨⟨t159, t160⟩, A450, H⟩ := H
                            replace H : (if t157 < 2 then (purlinlaw5_GeomParts.j3 k3 t147 x9_3 x12_3 t157 t158 true (wrap64 (1 + t143)) (wrap64 (4 + (wrap64 (4 * t144)))) (wrap64 (16 + t145))) else (if t157 ≥ t147 then (purlinlaw5_GeomParts.j3 k3 t147 x9_3 x12_3 t157 t158 true (wrap64 (1 + t143)) (wrap64 (4 + (wrap64 (4 * t144)))) (wrap64 (16 + t145))) else (if t158 < 0 then (purlinlaw5_GeomParts.j3 k3 t147 x9_3 x12_3 t157 t158 true (wrap64 (1 + t143)) (wrap64 (4 + (wrap64 (4 * t144)))) (wrap64 (16 + t145))) else (if t158 > 3 then (purlinlaw5_GeomParts.j3 k3 t147 x9_3 x12_3 t157 t158 true (wrap64 (1 + t143)) (wrap64 (4 + (wrap64 (4 * t144)))) (wrap64 (16 + t145))) else (if t159 < 0 then (purlinlaw5_GeomParts.j3 k3 t147 x9_3 x12_3 t157 t158 true (wrap64 (1 + t143)) (wrap64 (4 + (wrap64 (4 * t144)))) (wrap64 (16 + t145))) else (if t160 < 0 then (purlinlaw5_GeomParts.j3 k3 t147 x9_3 x12_3 t157 t158 true (wrap64 (1 + t143)) (wrap64 (4 + (wrap64 (4 * t144)))) (wrap64 (16 + t145))) else (purlinlaw5_GeomParts.j3 k3 t147 x9_3 x12_3 t157 t158 ((wrap64 ((wrap64 (t159 * (wrap64 (4 + (wrap64 (4 * t144)))))) + t160)) != (wrap64 (x12_3 - 1))) (wrap64 (1 + t143)) (wrap64 (4 + (wrap64 (4 * t144)))) (wrap64 (16 + t145))))))))) = some r := H
                            have A45 := Aside0.mk A450
                            clear A450
                            have HC46 := Aside0.mk H
                            clear H
                            have hcz47_0 : wr.cell? ⟨gb146, 0, none⟩ = some (.int .i64 (wrap64 (1 + t143))) := (blk_cell BK146.out 0).trans rfl
                            have hcz47_1 : wr.cell? ⟨gb146, 1, none⟩ = some (.int .i64 (wrap64 (4 + (wrap64 (4 * t144))))) := (blk_cell BK146.out 1).trans rfl
                            have hcz47_2 : wr.cell? ⟨gb146, 2, none⟩ = some (.int .i64 (wrap64 (16 + t145))) := (blk_cell BK146.out 2).trans rfl
                            have hfz47_0 := blk_frozen BK146.out 0
                            have hfz47_1 := blk_frozen BK146.out 1
                            have hfz47_2 := blk_frozen BK146.out 2
                            go_upto_region 19 with (first | ((with_reducible refine gate_callee (f := 16) rfl ?_); refine goesL_ (some 71) rfl rfl Try.func16 (by kernel_rfl) rfl #[.agg #[.int .i64 (wrap64 (1 + t143)), .int .i64 (wrap64 (4 + (wrap64 (4 * t144)))), .int .i64 (wrap64 (16 + t145))]] rfl (by (try simp only [List.map_toArray, List.map_cons, List.map_nil]); first | done | rfl | (simp only [List.length_drop, List.length_take]; rfl)) ?_; (with_reducible refine (geom_Inodes.calls (wrap64 (1 + t143)) (wrap64 (4 + (wrap64 (4 * t144)))) (wrap64 (16 + t145)) t156 _ A42.out).mono ?_); rintro e w48 ⟨rfl, hb⟩; refine ⟨_, rfl, ?_⟩; have n0_ := Aside0.mk (Kd.R_below (by (with_reducible repeat (first | apply Kd.R_alloc | apply Kd.R_drewN | apply Kd.R_drew)); exact HO_9.out) hb); have n1_ := Aside0.mk (blk_below (g := gb146) (o := .cells #[.int .i64 (wrap64 (1 + t143)), .int .i64 (wrap64 (4 + (wrap64 (4 * t144)))), .int .i64 (wrap64 (16 + t145))] 23 (0, 0)) (by (with_reducible repeat (first | refine blk_drewN ?_ _ | refine blk_drew ?_ | refine blk_alloc ?_ _)); exact BK146.out) hb); have n2_ := Aside0.mk (below_step (by repeat (first | (with_reducible first | exact HB.out | apply below_alloc | apply pw_below_drewN | apply below_drew1 | refine below_set ?_ GE146.out) | exact HB.out)) hb); clear HO_9; clear BK146; clear HB; have HO_9 := n0_; have BK146 := n1_; have HB := n2_; clear n0_ n1_ n2_; (try clear hb); (try clear hb2); (try clear hk); (try clear hi); have hcz49_0 : w48.cell? ⟨gb146, 0, none⟩ = some (.int .i64 (wrap64 (1 + t143))) := (blk_cell BK146.out 0).trans rfl; have hcz49_1 : w48.cell? ⟨gb146, 1, none⟩ = some (.int .i64 (wrap64 (4 + (wrap64 (4 * t144))))) := (blk_cell BK146.out 1).trans rfl; have hcz49_2 : w48.cell? ⟨gb146, 2, none⟩ = some (.int .i64 (wrap64 (16 + t145))) := (blk_cell BK146.out 2).trans rfl; have hfz49_0 := blk_frozen BK146.out 0; have hfz49_1 := blk_frozen BK146.out 1; have hfz49_2 := blk_frozen BK146.out 2) | ((with_reducible refine gate_callee (f := 6) rfl ?_); refine goesL_ (some 78) rfl rfl Try.func6 (by kernel_rfl) rfl #[.agg #[.int .i64 (wrap64 (1 + t143)), .int .i64 (wrap64 (4 + (wrap64 (4 * t144)))), .int .i64 (wrap64 (16 + t145))], .int .i64 x12_3] rfl (by (try simp only [List.map_toArray, List.map_cons, List.map_nil]); first | done | rfl | (simp only [List.length_drop, List.length_take]; rfl)) ?_; (with_reducible refine (geom_Inode.calls (wrap64 (1 + t143)) (wrap64 (4 + (wrap64 (4 * t144)))) (wrap64 (16 + t145)) x12_3 t157 t158 _ A44.out).mono ?_); rintro e w50 ⟨rfl, hb⟩; refine ⟨_, rfl, ?_⟩; have n0_ := Aside0.mk (Kd.R_below (by (with_reducible repeat (first | apply Kd.R_alloc | apply Kd.R_drewN | apply Kd.R_drew)); exact HO_9.out) hb); have n1_ := Aside0.mk (blk_below (g := gb146) (o := .cells #[.int .i64 (wrap64 (1 + t143)), .int .i64 (wrap64 (4 + (wrap64 (4 * t144)))), .int .i64 (wrap64 (16 + t145))] 23 (0, 0)) (by (with_reducible repeat (first | refine blk_drewN ?_ _ | refine blk_drew ?_ | refine blk_alloc ?_ _)); exact BK146.out) hb); have n2_ := Aside0.mk (below_step (by repeat (first | (with_reducible first | exact HB.out | apply below_alloc | apply pw_below_drewN | apply below_drew1 | refine below_set ?_ GE146.out) | exact HB.out)) hb); clear HO_9; clear BK146; clear HB; have HO_9 := n0_; have BK146 := n1_; have HB := n2_; clear n0_ n1_ n2_; (try clear hb); (try clear hb2); (try clear hk); (try clear hi); have hcz51_0 : w50.cell? ⟨gb146, 0, none⟩ = some (.int .i64 (wrap64 (1 + t143))) := (blk_cell BK146.out 0).trans rfl; have hcz51_1 : w50.cell? ⟨gb146, 1, none⟩ = some (.int .i64 (wrap64 (4 + (wrap64 (4 * t144))))) := (blk_cell BK146.out 1).trans rfl; have hcz51_2 : w50.cell? ⟨gb146, 2, none⟩ = some (.int .i64 (wrap64 (16 + t145))) := (blk_cell BK146.out 2).trans rfl; have hfz51_0 := blk_frozen BK146.out 0; have hfz51_1 := blk_frozen BK146.out 1; have hfz51_2 := blk_frozen BK146.out 2) | ((with_reducible refine gate_callee (f := 8) rfl ?_); refine goesL_ (some 84) rfl rfl Try.func8 (by kernel_rfl) rfl #[.agg #[.int .i64 (wrap64 (1 + t143)), .int .i64 (wrap64 (4 + (wrap64 (4 * t144)))), .int .i64 (wrap64 (16 + t145))], .int .i64 x12_3] rfl (by (try simp only [List.map_toArray, List.map_cons, List.map_nil]); first | done | rfl | (simp only [List.length_drop, List.length_take]; rfl)) ?_; (with_reducible refine (geom_OfInode.calls (wrap64 (1 + t143)) (wrap64 (4 + (wrap64 (4 * t144)))) (wrap64 (16 + t145)) x12_3 t159 t160 _ A45.out).mono ?_); rintro e w52 ⟨rfl, hb⟩; refine ⟨_, rfl, ?_⟩; have n0_ := Aside0.mk (Kd.R_below (by (with_reducible repeat (first | apply Kd.R_alloc | apply Kd.R_drewN | apply Kd.R_drew)); exact HO_9.out) hb); have n1_ := Aside0.mk (blk_below (g := gb146) (o := .cells #[.int .i64 (wrap64 (1 + t143)), .int .i64 (wrap64 (4 + (wrap64 (4 * t144)))), .int .i64 (wrap64 (16 + t145))] 23 (0, 0)) (by (with_reducible repeat (first | refine blk_drewN ?_ _ | refine blk_drew ?_ | refine blk_alloc ?_ _)); exact BK146.out) hb); have n2_ := Aside0.mk (below_step (by repeat (first | (with_reducible first | exact HB.out | apply below_alloc | apply pw_below_drewN | apply below_drew1 | refine below_set ?_ GE146.out) | exact HB.out)) hb); clear HO_9; clear BK146; clear HB; have HO_9 := n0_; have BK146 := n1_; have HB := n2_; clear n0_ n1_ n2_; (try clear hb); (try clear hb2); (try clear hk); (try clear hi)))
                            (try simp only [Act.put, List.setIfInBounds_toArray, List.set_cons_zero, List.set_cons_succ])
                            go_cut [120] (fun v120 wc => ∃ (kq : Nat) (x120_45 : Bool), v120 = .bool x120_45 ∧ Aside0 (purlinlaw5_GeomParts.j3 kq t147 x9_3 x12_3 t157 t158 x120_45 (wrap64 (1 + t143)) (wrap64 (4 + (wrap64 (4 * t144)))) (wrap64 (16 + t145)) = some r) ∧ Aside0 (kq ≤ k3) ∧ Aside0 (Kd.R (Kd.int .i64) 3 wc w.heap.size (fun _ => True) (.slice (some ⟨go17, 0, none⟩) x9_3.length co17) x9_3) ∧ Aside0 (wc.heap[gb146]? = some (.cells #[.int .i64 (wrap64 (1 + t143)), .int .i64 (wrap64 (4 + (wrap64 (4 * t144)))), .int .i64 (wrap64 (16 + t145))] 23 (0, 0))) ∧ Aside0 (Below w.heap.size w wc))
                            case first =>
                              have H := HC46.out
                              clear HC46
                              by_cases c53 : t157 < 2
                              · rw [if_pos c53] at H
                                have c53b0 : decide (t157 < 2) = true := decide_eq_true c53
                                clear c53
                                (first | rw [c53b0] | (simp only [i64_w, i32_w]; rw [c53b0]) | skip)
                                have H' := Aside0.mk H
                                clear H
                                go_wp2
                                go_meet
                                case rel => exact ⟨_, (true), (by first | rfl | (simp; done) | (simp [*]; done)), H', ⟨by have := HJ7.out; have := HK2.out; have := HK3.out; first | omega | exact Nat.le_refl _⟩, ⟨by (try simp only [hl9_2]); (try simp only [hl9_3]); (with_reducible repeat (first | apply Kd.R_alloc | apply Kd.R_drewN | apply Kd.R_drew)); exact HO_9.out⟩, ⟨by (try simp only [hl9_2]); (try simp only [hl9_3]); (with_reducible repeat (first | refine blk_drewN ?_ _ | refine blk_drew ?_ | refine blk_alloc ?_ _)); exact BK146.out⟩, ⟨by repeat (first | (with_reducible first | exact HB.out | apply below_alloc | apply pw_below_drewN | apply below_drew1 | refine below_set ?_ GE146.out) | exact HB.out)⟩⟩
                              · rw [if_neg c53] at H
                                have c53b0 : decide (t157 < 2) = false := decide_eq_false c53
                                clear c53
                                (first | rw [c53b0] | (simp only [i64_w, i32_w]; rw [c53b0]) | skip)
                                by_cases c54 : t157 ≥ t147
                                · rw [if_pos c54] at H
                                  have c54b0 : decide (t147 ≤ t157) = true := decide_eq_true c54
                                  clear c54
                                  have H' := Aside0.mk H
                                  clear H
                                  go_wp2
                                  go_meet
                                  case rel => exact ⟨_, (true), (by first | rfl | (simp; done) | (simp [*]; done)), H', ⟨by have := HJ7.out; have := HK2.out; have := HK3.out; first | omega | exact Nat.le_refl _⟩, ⟨by (try simp only [hl9_2]); (try simp only [hl9_3]); (with_reducible repeat (first | apply Kd.R_alloc | apply Kd.R_drewN | apply Kd.R_drew)); exact HO_9.out⟩, ⟨by (try simp only [hl9_2]); (try simp only [hl9_3]); (with_reducible repeat (first | refine blk_drewN ?_ _ | refine blk_drew ?_ | refine blk_alloc ?_ _)); exact BK146.out⟩, ⟨by repeat (first | (with_reducible first | exact HB.out | apply below_alloc | apply pw_below_drewN | apply below_drew1 | refine below_set ?_ GE146.out) | exact HB.out)⟩⟩
                                · rw [if_neg c54] at H
                                  have c54b0 : decide (t147 ≤ t157) = false := decide_eq_false c54
                                  clear c54
                                  by_cases c55 : t158 < 0
                                  · rw [if_pos c55] at H
                                    have c55b0 : decide (t158 < 0) = true := decide_eq_true c55
                                    clear c55
                                    have H' := Aside0.mk H
                                    clear H
                                    go_wp2
                                    go_meet
                                    case rel => exact ⟨_, (true), (by first | rfl | (simp; done) | (simp [*]; done)), H', ⟨by have := HJ7.out; have := HK2.out; have := HK3.out; first | omega | exact Nat.le_refl _⟩, ⟨by (try simp only [hl9_2]); (try simp only [hl9_3]); (with_reducible repeat (first | apply Kd.R_alloc | apply Kd.R_drewN | apply Kd.R_drew)); exact HO_9.out⟩, ⟨by (try simp only [hl9_2]); (try simp only [hl9_3]); (with_reducible repeat (first | refine blk_drewN ?_ _ | refine blk_drew ?_ | refine blk_alloc ?_ _)); exact BK146.out⟩, ⟨by repeat (first | (with_reducible first | exact HB.out | apply below_alloc | apply pw_below_drewN | apply below_drew1 | refine below_set ?_ GE146.out) | exact HB.out)⟩⟩
                                  · rw [if_neg c55] at H
                                    have c55b0 : decide (t158 < 0) = false := decide_eq_false c55
                                    clear c55
                                    by_cases c56 : t158 > 3
                                    · rw [if_pos c56] at H
                                      have c56b0 : decide (3 < t158) = true := decide_eq_true c56
                                      clear c56
                                      have H' := Aside0.mk H
                                      clear H
                                      go_wp2
                                      go_meet
                                      case rel => exact ⟨_, (true), (by first | rfl | (simp; done) | (simp [*]; done)), H', ⟨by have := HJ7.out; have := HK2.out; have := HK3.out; first | omega | exact Nat.le_refl _⟩, ⟨by (try simp only [hl9_2]); (try simp only [hl9_3]); (with_reducible repeat (first | apply Kd.R_alloc | apply Kd.R_drewN | apply Kd.R_drew)); exact HO_9.out⟩, ⟨by (try simp only [hl9_2]); (try simp only [hl9_3]); (with_reducible repeat (first | refine blk_drewN ?_ _ | refine blk_drew ?_ | refine blk_alloc ?_ _)); exact BK146.out⟩, ⟨by repeat (first | (with_reducible first | exact HB.out | apply below_alloc | apply pw_below_drewN | apply below_drew1 | refine below_set ?_ GE146.out) | exact HB.out)⟩⟩
                                    · rw [if_neg c56] at H
                                      have c56b0 : decide (3 < t158) = false := decide_eq_false c56
                                      clear c56
                                      by_cases c57 : t159 < 0
                                      · rw [if_pos c57] at H
                                        have c57b0 : decide (t159 < 0) = true := decide_eq_true c57
                                        clear c57
                                        have H' := Aside0.mk H
                                        clear H
                                        go_wp2
                                        go_meet
                                        case rel => exact ⟨_, (true), (by first | rfl | (simp; done) | (simp [*]; done)), H', ⟨by have := HJ7.out; have := HK2.out; have := HK3.out; first | omega | exact Nat.le_refl _⟩, ⟨by (try simp only [hl9_2]); (try simp only [hl9_3]); (with_reducible repeat (first | apply Kd.R_alloc | apply Kd.R_drewN | apply Kd.R_drew)); exact HO_9.out⟩, ⟨by (try simp only [hl9_2]); (try simp only [hl9_3]); (with_reducible repeat (first | refine blk_drewN ?_ _ | refine blk_drew ?_ | refine blk_alloc ?_ _)); exact BK146.out⟩, ⟨by repeat (first | (with_reducible first | exact HB.out | apply below_alloc | apply pw_below_drewN | apply below_drew1 | refine below_set ?_ GE146.out) | exact HB.out)⟩⟩
                                      · rw [if_neg c57] at H
                                        have c57b0 : decide (t159 < 0) = false := decide_eq_false c57
                                        clear c57
                                        by_cases c58 : t160 < 0
                                        · rw [if_pos c58] at H
                                          have c58b0 : decide (t160 < 0) = true := decide_eq_true c58
                                          clear c58
                                          have H' := Aside0.mk H
                                          clear H
                                          go_wp2
                                          go_meet
                                          case rel => exact ⟨_, (true), (by first | rfl | (simp; done) | (simp [*]; done)), H', ⟨by have := HJ7.out; have := HK2.out; have := HK3.out; first | omega | exact Nat.le_refl _⟩, ⟨by (try simp only [hl9_2]); (try simp only [hl9_3]); (with_reducible repeat (first | apply Kd.R_alloc | apply Kd.R_drewN | apply Kd.R_drew)); exact HO_9.out⟩, ⟨by (try simp only [hl9_2]); (try simp only [hl9_3]); (with_reducible repeat (first | refine blk_drewN ?_ _ | refine blk_drew ?_ | refine blk_alloc ?_ _)); exact BK146.out⟩, ⟨by repeat (first | (with_reducible first | exact HB.out | apply below_alloc | apply pw_below_drewN | apply below_drew1 | refine below_set ?_ GE146.out) | exact HB.out)⟩⟩
                                        · rw [if_neg c58] at H
                                          have c58b0 : decide (t160 < 0) = false := decide_eq_false c58
                                          clear c58
                                          have H' := Aside0.mk H
                                          clear H
                                          have hcz59_0 : w52.cell? ⟨gb146, 0, none⟩ = some (.int .i64 (wrap64 (1 + t143))) := (blk_cell BK146.out 0).trans rfl
                                          have hcz59_1 : w52.cell? ⟨gb146, 1, none⟩ = some (.int .i64 (wrap64 (4 + (wrap64 (4 * t144))))) := (blk_cell BK146.out 1).trans rfl
                                          have hcz59_2 : w52.cell? ⟨gb146, 2, none⟩ = some (.int .i64 (wrap64 (16 + t145))) := (blk_cell BK146.out 2).trans rfl
                                          have hfz59_0 := blk_frozen BK146.out 0
                                          have hfz59_1 := blk_frozen BK146.out 1
                                          have hfz59_2 := blk_frozen BK146.out 2
                                          go_wp2
                                          go_meet
                                          case rel => exact ⟨_, (((wrap64 ((wrap64 (t159 * (wrap64 (4 + (wrap64 (4 * t144)))))) + t160)) != (wrap64 (x12_3 - 1)))), (by first | rfl | (simp; done) | (simp [*]; done)), H', ⟨by have := HJ7.out; have := HK2.out; have := HK3.out; first | omega | exact Nat.le_refl _⟩, ⟨by (try simp only [hl9_2]); (try simp only [hl9_3]); (with_reducible repeat (first | apply Kd.R_alloc | apply Kd.R_drewN | apply Kd.R_drew)); exact HO_9.out⟩, ⟨by (try simp only [hl9_2]); (try simp only [hl9_3]); (with_reducible repeat (first | refine blk_drewN ?_ _ | refine blk_drew ?_ | refine blk_alloc ?_ _)); exact BK146.out⟩, ⟨by repeat (first | (with_reducible first | exact HB.out | apply below_alloc | apply pw_below_drewN | apply below_drew1 | refine below_set ?_ GE146.out) | exact HB.out)⟩⟩
                            case rest =>
                              clear HC46
                              try clear c1
                              try clear p1
                              try clear q1
                              try clear hx1
                              try clear qi1
                              try clear c2
                              try clear p2
                              try clear c3
                              try clear p3
                              try clear q3
                              try clear hx3
                              try clear hf3
                              try clear c4
                              try clear c5
                              try clear c6
                              try clear p6
                              try clear c8
                              try clear c12
                              try clear c12b0
                              try clear c13
                              try clear c14
                              try clear c14b0
                              try clear c14b1
                              try clear c15
                              try clear c15b0
                              try clear c15b1
                              try clear p15
                              try clear q15
                              try clear hx15
                              try clear c16
                              try clear c16b0
                              try clear c16b1
                              try clear p17
                              try clear q17
                              try clear hx17
                              try clear qi17
                              try clear hf17
                              try clear c18
                              try clear c18b0
                              try clear c18b1
                              try clear p19
                              try clear q19
                              try clear hx19
                              try clear qi19
                              try clear hf19
                              try clear c20
                              try clear c25
                              try clear c26
                              try clear c26b0
                              try clear c28
                              try clear c28b0
                              try clear c31
                              try clear c31b0
                              try clear c34
                              try clear c34b0
                              try clear c35
                              try clear c35b0
                              try clear p36
                              try clear q36
                              try clear hx36
                              try clear hf36
                              try clear c43
                              try clear c43b0
                              try clear c53
                              try clear c53b0
                              try clear c54
                              try clear c54b0
                              try clear c55
                              try clear c55b0
                              try clear c56
                              try clear c56b0
                              try clear c57
                              try clear c57b0
                              try clear c58
                              try clear c58b0
                              try clear hcz10_0
                              try clear hcz10_1
                              try clear hcz10_2
                              try clear hcz29_0
                              try clear hcz29_1
                              try clear hcz29_2
                              try clear hcz32_0
                              try clear hcz32_1
                              try clear hcz32_2
                              try clear hcz37_0
                              try clear hcz37_1
                              try clear hcz37_2
                              try clear hcz41_0
                              try clear hcz41_1
                              try clear hcz41_2
                              try clear hcz47_0
                              try clear hcz47_1
                              try clear hcz47_2
                              try clear hcz49_0
                              try clear hcz49_1
                              try clear hcz49_2
                              try clear hcz51_0
                              try clear hcz51_1
                              try clear hcz51_2
                              try clear hcz59_0
                              try clear hcz59_1
                              try clear hcz59_2
                              try clear hfz10_0
                              try clear hfz10_1
                              try clear hfz10_2
                              try clear hfz29_0
                              try clear hfz29_1
                              try clear hfz29_2
                              try clear hfz32_0
                              try clear hfz32_1
                              try clear hfz32_2
                              try clear hfz37_0
                              try clear hfz37_1
                              try clear hfz37_2
                              try clear hfz41_0
                              try clear hfz41_1
                              try clear hfz41_2
                              try clear hfz47_0
                              try clear hfz47_1
                              try clear hfz47_2
                              try clear hfz49_0
                              try clear hfz49_1
                              try clear hfz49_2
                              try clear hfz51_0
                              try clear hfz51_1
                              try clear hfz51_2
                              try clear hfz59_0
                              try clear hfz59_1
                              try clear hfz59_2
                              try clear hx154_0
                              try clear hx17_0
                              try clear hx19_0
                              try clear hx36_0
                              try clear p1
                              try clear p15
                              try clear p154
                              try clear p17
                              try clear p19
                              try clear p2
                              try clear p3
                              try clear p36
                              try clear p6
                              try clear q1
                              try clear q15
                              try clear q154
                              try clear q17
                              try clear q19
                              try clear q3
                              try clear q36
                              obtain ⟨kq, x120_45, rfl, HA, HJ45, HO_9, BK146, HB⟩ := hcut
                              cases kq with
                              | zero => exact absurd HA.out (by simp [purlinlaw5_GeomParts.j3])
                              | succ kj45 =>
                                have H := HA.out
                                clear HA
                                simp only [purlinlaw5_GeomParts.j3] at H
                                by_cases c60 : x120_45 = true
                                · subst c60
                                  have H1 : (some false) = some r := by rw [if_pos rfl] at H; exact H
                                  clear H
                                  have H := H1
                                  clear H1
                                  obtain rfl := Option.some.inj H
                                  go_wp2
                                  go_ret
                                  exact ⟨by first | rfl | (simp [errW_none, errW_some] <;> rfl) | (simp [*, errW_none, errW_some] <;> rfl), by repeat (first | (with_reducible first | exact HB.out | apply below_alloc | apply pw_below_drewN | apply below_drew1 | refine below_set ?_ GE146.out) | exact HB.out)⟩
                                · replace c60 := Bool.eq_false_iff.mpr c60
                                  subst c60
                                  have H1 : (if t158 = 0 then (if 0 ≤ t157 then (if t157 < (x9_3.length : Int) then (purlinlaw5_GeomParts.l1 kj45 t147 (x9_3.set (t157 : Int).toNat (wrap64 ((rd x9_3 t157) + 1))) (wrap64 (x12_3 + 1)) (wrap64 (1 + t143)) (wrap64 (4 + (wrap64 (4 * t144)))) (wrap64 (16 + t145))) else (none)) else (none)) else (purlinlaw5_GeomParts.l1 kj45 t147 x9_3 (wrap64 (x12_3 + 1)) (wrap64 (1 + t143)) (wrap64 (4 + (wrap64 (4 * t144)))) (wrap64 (16 + t145)))) = some r := by rw [if_neg (show ¬ (false = true) by decide)] at H; exact H
                                  clear H
                                  have H := H1
                                  clear H1
                                  by_cases c61 : t158 = 0
                                  · rw [if_pos c61] at H
                                    have c61b0 : (t158 == 0) = true := beq_iff_eq.mpr c61
                                    have c61b1 : (t158 != 0) = false := bne_eq_false_iff_eq.mpr c61
                                    clear c61
                                    by_cases c62 : 0 ≤ t157
                                    · rw [if_pos c62] at H
                                      have c62b0 : decide (0 ≤ t157) = true := decide_eq_true c62
                                      clear c62
                                      by_cases c63 : t157 < (x9_3.length : Int)
                                      · rw [if_pos c63] at H
                                        have c63b0 : decide (t157 < (x9_3.length : Int)) = true := decide_eq_true c63
                                        clear c63
                                        obtain ⟨y162, hy162⟩ : ∃ y_ : List Int, y_ = (x9_3.set (t157 : Int).toNat (wrap64 ((rd x9_3 t157) + 1))) := ⟨_, rfl⟩
                                        replace H : (purlinlaw5_GeomParts.l1 kj45 t147 y162 (wrap64 (x12_3 + 1)) (wrap64 (1 + t143)) (wrap64 (4 + (wrap64 (4 * t144)))) (wrap64 (16 + t145))) = some r := by first | (rw [hy162]; with_reducible exact H) | (have H2_ := (Option.bind_some _ _).symm.trans H; rw [hy162]; with_reducible exact H2_) | (have H2_ := (Option.bind_some _ _).symm.trans H; with_reducible exact H2_) | with_reducible exact H | (rw [hy162]; exact H) | exact H
                                        have Ny162 := Aside0.mk hy162
                                        clear hy162
                                        have H' := Aside0.mk H
                                        clear H
                                        have p161 : 0 ≤ (t157 : Int) := of_decide_eq_true (by first | (with_reducible assumption) | assumption)
                                        have q161 : t157 < (x9_3.length : Int) := of_decide_eq_true (by first | (with_reducible assumption) | assumption)
                                        obtain ⟨ad161, e161, hx161_0⟩ := Kd.at_int (Kd.R_reads' HO_9.out).2.2 t157 p161 q161
                                        obtain rfl : (⟨go17, 0, none⟩ : Addr) = ad161 := (by injection e161)
                                        (first | simp only [add_plain] at hx161_0 | simp only [add_at] at hx161_0 | simp only [Addr.add, Nat.zero_add] at hx161_0 | skip)
                                        replace p161 := eq_true p161
                                        replace q161 := eq_true q161
                                        have p64 : 0 ≤ (t157 : Int) := of_decide_eq_true (by first | (with_reducible assumption) | assumption)
                                        have q64 : (t157 : Int) < ((x9_3.length : Int) : Int) := of_decide_eq_true (by first | (with_reducible assumption) | assumption)
                                        obtain ⟨hx64_0, hf64_0⟩ := Kd.R_celln 0 HO_9.out (t157 : Int) p64 q64
                                        replace p64 := eq_true p64
                                        replace q64 := eq_true q64
                                        have HP65 := Kd.R_putg HO_9.out (t157 : Int) (wrap64 ((rd x9_3 t157) + 1))
                                        go_wp2_with (first | ((with_reducible refine gate_store (t := 3) (p := 128) rfl ?_); refine store_event (t := 3) (p := 128) (v := ?vo_w66) (w1 := (wc.setCell ⟨go17, (t157 : Int).toNat, none⟩ (.int .i64 (wrap64 ((rd x9_3 t157) + 1))))) ?hg ?ho ?hn ?hr ?_; (case ho => rfl); (case hg => rfl); (case hn => rfl); (case hr => first | (go_simp; done) | (go_simp; rfl)); intro w66 hw; have hg : wc.grownBy w66 (some go17) := (by rw [hw]; exact HP65.2); have hp_ : Kd.R (Kd.int .i64) 3 w66 w.heap.size (fun _ => True) (.slice (some ⟨go17, 0, none⟩) x9_3.length co17) y162 := (by rw [hw, Ny162.out]; exact HP65.1); clear HP65; have n0_ := Aside0.mk (hp_); have n1_ := Aside0.mk (blk_grown (g := gb146) (o := .cells #[.int .i64 (wrap64 (1 + t143)), .int .i64 (wrap64 (4 + (wrap64 (4 * t144)))), .int .i64 (wrap64 (16 + t145))] 23 (0, 0)) (by (with_reducible repeat (first | refine blk_drewN ?_ _ | refine blk_drew ?_ | refine blk_alloc ?_ _)); exact BK146.out) hg (Kd.R_ne HO_9.out BK146.out (by decide))); have n2_ := Aside0.mk ((by rw [hw]; exact below_set (HB.out) GB17.out : Below w.heap.size w w66)); clear HO_9; clear BK146; clear HB; have HO_9 := n0_; have BK146 := n1_; have HB := n2_; clear n0_ n1_ n2_; clear hg hw hp_))
                                        (try simp only [← hl9_3])
                                        go_roundg kj45
                                        case measure => have := HJ7.out; have := HK2.out; have := HK3.out; have := HJ45.out; omega
                                        case rel => exact ⟨(y162), (wrap64 (x12_3 + 1)), (by first | rfl | (simp; done) | (simp [*]; done)), H', ⟨by have := HJ7.out; have := HK2.out; have := HK3.out; have := HJ45.out; omega⟩, ⟨by (try simp only [hl9_2]); (try simp only [hl9_3]); (with_reducible repeat (first | apply Kd.R_alloc | apply Kd.R_drewN | apply Kd.R_drew)); exact HO_9.out⟩, ⟨by (try simp only [hl9_2]); (try simp only [hl9_3]); (with_reducible repeat (first | refine blk_drewN ?_ _ | refine blk_drew ?_ | refine blk_alloc ?_ _)); exact BK146.out⟩, ⟨by repeat (first | (with_reducible first | exact HB.out | apply below_alloc | apply pw_below_drewN | apply below_drew1 | refine below_set ?_ GE146.out) | exact HB.out)⟩⟩
                                      · rw [if_neg c63] at H
                                        exact absurd H (by simp)
                                    · rw [if_neg c62] at H
                                      exact absurd H (by simp)
                                  · rw [if_neg c61] at H
                                    have c61b0 : (t158 == 0) = false := beq_eq_false_iff_ne.mpr c61
                                    have c61b1 : (t158 != 0) = true := bne_iff_ne.mpr c61
                                    have H' := Aside0.mk H
                                    clear H
                                    go_wp2
                                    (try simp only [← hl9_3])
                                    go_roundg kj45
                                    case measure => have := HJ7.out; have := HK2.out; have := HK3.out; have := HJ45.out; omega
                                    case rel => exact ⟨(x9_3), (wrap64 (x12_3 + 1)), (by first | rfl | (simp; done) | (simp [*]; done)), H', ⟨by have := HJ7.out; have := HK2.out; have := HK3.out; have := HJ45.out; omega⟩, ⟨by (try simp only [hl9_2]); (try simp only [hl9_3]); (with_reducible repeat (first | apply Kd.R_alloc | apply Kd.R_drewN | apply Kd.R_drew)); exact HO_9.out⟩, ⟨by (try simp only [hl9_2]); (try simp only [hl9_3]); (with_reducible repeat (first | refine blk_drewN ?_ _ | refine blk_drew ?_ | refine blk_alloc ?_ _)); exact BK146.out⟩, ⟨by repeat (first | (with_reducible first | exact HB.out | apply below_alloc | apply pw_below_drewN | apply below_drew1 | refine below_set ?_ GE146.out) | exact HB.out)⟩⟩
                          · rw [if_neg c43] at H
                            have c43b0 : decide (x12_3 ≤ t156) = false := decide_eq_false c43
                            clear c43
                            have H' := Aside0.mk H
                            clear H
                            have hcz67_0 : wr.cell? ⟨gb146, 0, none⟩ = some (.int .i64 (wrap64 (1 + t143))) := (blk_cell BK146.out 0).trans rfl
                            have hcz67_1 : wr.cell? ⟨gb146, 1, none⟩ = some (.int .i64 (wrap64 (4 + (wrap64 (4 * t144))))) := (blk_cell BK146.out 1).trans rfl
                            have hcz67_2 : wr.cell? ⟨gb146, 2, none⟩ = some (.int .i64 (wrap64 (16 + t145))) := (blk_cell BK146.out 2).trans rfl
                            have hfz67_0 := blk_frozen BK146.out 0
                            have hfz67_1 := blk_frozen BK146.out 1
                            have hfz67_2 := blk_frozen BK146.out 2
                            go_wp2_with (first | ((with_reducible refine gate_callee (f := 16) rfl ?_); refine goesL_ (some 71) rfl rfl Try.func16 (by kernel_rfl) rfl #[.agg #[.int .i64 (wrap64 (1 + t143)), .int .i64 (wrap64 (4 + (wrap64 (4 * t144)))), .int .i64 (wrap64 (16 + t145))]] rfl (by (try simp only [List.map_toArray, List.map_cons, List.map_nil]); first | done | rfl | (simp only [List.length_drop, List.length_take]; rfl)) ?_; (with_reducible refine (geom_Inodes.calls (wrap64 (1 + t143)) (wrap64 (4 + (wrap64 (4 * t144)))) (wrap64 (16 + t145)) t156 _ A42.out).mono ?_); rintro e w68 ⟨rfl, hb⟩; refine ⟨_, rfl, ?_⟩; have n0_ := Aside0.mk (Kd.R_below (by (with_reducible repeat (first | apply Kd.R_alloc | apply Kd.R_drewN | apply Kd.R_drew)); exact HO_9.out) hb); have n1_ := Aside0.mk (blk_below (g := gb146) (o := .cells #[.int .i64 (wrap64 (1 + t143)), .int .i64 (wrap64 (4 + (wrap64 (4 * t144)))), .int .i64 (wrap64 (16 + t145))] 23 (0, 0)) (by (with_reducible repeat (first | refine blk_drewN ?_ _ | refine blk_drew ?_ | refine blk_alloc ?_ _)); exact BK146.out) hb); have n2_ := Aside0.mk (below_step (by repeat (first | (with_reducible first | exact HB.out | apply below_alloc | apply pw_below_drewN | apply below_drew1 | refine below_set ?_ GE146.out) | exact HB.out)) hb); clear HO_9; clear BK146; clear HB; have HO_9 := n0_; have BK146 := n1_; have HB := n2_; clear n0_ n1_ n2_; (try clear hb); (try clear hb2); (try clear hk); (try clear hi)))
                            go_loopg [17, 18] k3 (fun kq v17 v18 w' => ∃ (x9_4 : List Int) (x17_4 : Int) (x18_4 : Int), v17 = .int .i64 x17_4 ∧ v18 = .int .i64 x18_4 ∧ Aside0 (purlinlaw5_GeomParts.l2 kq t147 x9_4 x17_4 x18_4 (wrap64 (1 + t143)) (wrap64 (4 + (wrap64 (4 * t144)))) (wrap64 (16 + t145)) = some r) ∧ Aside0 (kq ≤ k3) ∧ Aside0 (Kd.R (Kd.int .i64) 3 w' w.heap.size (fun _ => True) (.slice (some ⟨go17, 0, none⟩) x9_3.length co17) x9_4) ∧ Aside0 (w'.heap[gb146]? = some (.cells #[.int .i64 (wrap64 (1 + t143)), .int .i64 (wrap64 (4 + (wrap64 (4 * t144)))), .int .i64 (wrap64 (16 + t145))] 23 (0, 0))) ∧ Aside0 (Below w.heap.size w w'))
                            case atStart => exact ⟨(x9_3), (0), (0), (by first | rfl | (simp; done) | (simp [*]; done)), (by first | rfl | (simp; done) | (simp [*]; done)), H', ⟨Nat.le_refl _⟩, ⟨by (try simp only [hl9_2]); (try simp only [hl9_3]); (with_reducible repeat (first | apply Kd.R_alloc | apply Kd.R_drewN | apply Kd.R_drew)); exact HO_9.out⟩, ⟨by (try simp only [hl9_2]); (try simp only [hl9_3]); (with_reducible repeat (first | refine blk_drewN ?_ _ | refine blk_drew ?_ | refine blk_alloc ?_ _)); exact BK146.out⟩, ⟨by repeat (first | (with_reducible first | exact HB.out | apply below_alloc | apply pw_below_drewN | apply below_drew1 | refine below_set ?_ GE146.out) | exact HB.out)⟩⟩
                            case round =>
                              clear H'
                              try clear c1
                              try clear p1
                              try clear q1
                              try clear hx1
                              try clear qi1
                              try clear c2
                              try clear p2
                              try clear c3
                              try clear p3
                              try clear q3
                              try clear hx3
                              try clear hf3
                              try clear c4
                              try clear c5
                              try clear c6
                              try clear p6
                              try clear q6
                              try clear hx6
                              try clear hf6
                              try clear c8
                              try clear c12
                              try clear c12b0
                              try clear c13
                              try clear c14
                              try clear c14b0
                              try clear c14b1
                              try clear c15
                              try clear c15b0
                              try clear c15b1
                              try clear p15
                              try clear q15
                              try clear hx15
                              try clear c16
                              try clear c16b0
                              try clear c16b1
                              try clear p16
                              try clear q16
                              try clear hx16
                              try clear p17
                              try clear q17
                              try clear hx17
                              try clear qi17
                              try clear hf17
                              try clear c18
                              try clear c18b0
                              try clear c18b1
                              try clear p19
                              try clear q19
                              try clear hx19
                              try clear qi19
                              try clear hf19
                              try clear c20
                              try clear c25
                              try clear c26
                              try clear c26b0
                              try clear c28
                              try clear c28b0
                              try clear c31
                              try clear c31b0
                              try clear c34
                              try clear c34b0
                              try clear c35
                              try clear c35b0
                              try clear p36
                              try clear q36
                              try clear hx36
                              try clear hf36
                              try clear c43
                              try clear c43b0
                              try clear c53
                              try clear c53b0
                              try clear c54
                              try clear c54b0
                              try clear c55
                              try clear c55b0
                              try clear c56
                              try clear c56b0
                              try clear c57
                              try clear c57b0
                              try clear c58
                              try clear c58b0
                              try clear c60
                              try clear c61
                              try clear c61b0
                              try clear c61b1
                              try clear c62
                              try clear c62b0
                              try clear c63
                              try clear c63b0
                              try clear p64
                              try clear q64
                              try clear hx64
                              try clear hf64
                              try clear hcz10_0
                              try clear hcz10_1
                              try clear hcz10_2
                              try clear hcz29_0
                              try clear hcz29_1
                              try clear hcz29_2
                              try clear hcz32_0
                              try clear hcz32_1
                              try clear hcz32_2
                              try clear hcz37_0
                              try clear hcz37_1
                              try clear hcz37_2
                              try clear hcz41_0
                              try clear hcz41_1
                              try clear hcz41_2
                              try clear hcz47_0
                              try clear hcz47_1
                              try clear hcz47_2
                              try clear hcz49_0
                              try clear hcz49_1
                              try clear hcz49_2
                              try clear hcz51_0
                              try clear hcz51_1
                              try clear hcz51_2
                              try clear hcz59_0
                              try clear hcz59_1
                              try clear hcz59_2
                              try clear hcz67_0
                              try clear hcz67_1
                              try clear hcz67_2
                              try clear hfz10_0
                              try clear hfz10_1
                              try clear hfz10_2
                              try clear hfz29_0
                              try clear hfz29_1
                              try clear hfz29_2
                              try clear hfz32_0
                              try clear hfz32_1
                              try clear hfz32_2
                              try clear hfz37_0
                              try clear hfz37_1
                              try clear hfz37_2
                              try clear hfz41_0
                              try clear hfz41_1
                              try clear hfz41_2
                              try clear hfz47_0
                              try clear hfz47_1
                              try clear hfz47_2
                              try clear hfz49_0
                              try clear hfz49_1
                              try clear hfz49_2
                              try clear hfz51_0
                              try clear hfz51_1
                              try clear hfz51_2
                              try clear hfz59_0
                              try clear hfz59_1
                              try clear hfz59_2
                              try clear hfz67_0
                              try clear hfz67_1
                              try clear hfz67_2
                              try clear hx154_0
                              try clear hx161_0
                              try clear hx17_0
                              try clear hx19_0
                              try clear hx36_0
                              try clear hx64_0
                              try clear p1
                              try clear p15
                              try clear p154
                              try clear p161
                              try clear p17
                              try clear p19
                              try clear p2
                              try clear p3
                              try clear p36
                              try clear p6
                              try clear p64
                              try clear q1
                              try clear q15
                              try clear q154
                              try clear q161
                              try clear q17
                              try clear q19
                              try clear q3
                              try clear q36
                              try clear q64
                              obtain ⟨x9_4, x17_4, x18_4, rfl, rfl, HA, HK4, HO_9, BK146, HB⟩ := hrel
                              have hl9_4 := (Kd.R_reads' HO_9.out).1
                              rw [hl9_4] at HO_9
                              (try simp only [hl9_4])
                              (try simp only [hl9_4] at BK146)
                              cases gk with
                              | zero => exact absurd HA.out (by simp [purlinlaw5_GeomParts.l2])
                              | succ k4 =>
                                have H := HA.out
                                clear HA
                                simp only [purlinlaw5_GeomParts.l2] at H
                                by_cases c69 : x18_4 < t147
                                · rw [if_pos c69] at H
                                  have c69b0 : decide (x18_4 < t147) = true := decide_eq_true c69
                                  clear c69
                                  replace H := Option.bind_eq_some_iff.mp H
                                  obtain ⟨⟨t163, t164⟩, A700, H⟩ := H
                                  replace H : (if t163 ≥ 0 then (if 0 ≤ x18_4 then (if x18_4 < (x9_4.length : Int) then ((geom_First.f (wrap64 (1 + t143)) (wrap64 (4 + (wrap64 (4 * t144)))) (wrap64 (16 + t145)) t163).bind fun t167 => (if (wrap64 (t167 + t164)) = x18_4 then (purlinlaw5_GeomParts.l2 k4 t147 (x9_4.set (x18_4 : Int).toNat (wrap64 ((rd x9_4 x18_4) + 1))) (wrap64 (x17_4 + 1)) (wrap64 (x18_4 + 1)) (wrap64 (1 + t143)) (wrap64 (4 + (wrap64 (4 * t144)))) (wrap64 (16 + t145))) else (some false))) else (none)) else (none)) else (purlinlaw5_GeomParts.l2 k4 t147 x9_4 x17_4 (wrap64 (x18_4 + 1)) (wrap64 (1 + t143)) (wrap64 (4 + (wrap64 (4 * t144)))) (wrap64 (16 + t145)))) = some r := H
                                  have A70 := Aside0.mk A700
                                  clear A700
                                  by_cases c71 : t163 ≥ 0
                                  · rw [if_pos c71] at H
                                    have c71b0 : decide (0 ≤ t163) = true := decide_eq_true c71
                                    clear c71
                                    by_cases c72 : 0 ≤ x18_4
                                    · rw [if_pos c72] at H
                                      have c72b0 : decide (0 ≤ x18_4) = true := decide_eq_true c72
                                      clear c72
                                      by_cases c73 : x18_4 < (x9_4.length : Int)
                                      · rw [if_pos c73] at H
                                        have c73b0 : decide (x18_4 < (x9_4.length : Int)) = true := decide_eq_true c73
                                        clear c73
                                        obtain ⟨y166, hy166⟩ : ∃ y_ : List Int, y_ = (x9_4.set (x18_4 : Int).toNat (wrap64 ((rd x9_4 x18_4) + 1))) := ⟨_, rfl⟩
                                        replace H : ((geom_First.f (wrap64 (1 + t143)) (wrap64 (4 + (wrap64 (4 * t144)))) (wrap64 (16 + t145)) t163).bind fun t167 => (if (wrap64 (t167 + t164)) = x18_4 then (purlinlaw5_GeomParts.l2 k4 t147 y166 (wrap64 (x17_4 + 1)) (wrap64 (x18_4 + 1)) (wrap64 (1 + t143)) (wrap64 (4 + (wrap64 (4 * t144)))) (wrap64 (16 + t145))) else (some false))) = some r := by first | (rw [hy166]; with_reducible exact H) | (have H2_ := (Option.bind_some _ _).symm.trans H; rw [hy166]; with_reducible exact H2_) | (have H2_ := (Option.bind_some _ _).symm.trans H; with_reducible exact H2_) | with_reducible exact H | (rw [hy166]; exact H) | exact H
                                        have Ny166 := Aside0.mk hy166
                                        clear hy166
                                        replace H := Option.bind_eq_some_iff.mp H
                                        obtain ⟨t167, A750, H⟩ := H
                                        replace H : (if (wrap64 (t167 + t164)) = x18_4 then (purlinlaw5_GeomParts.l2 k4 t147 y166 (wrap64 (x17_4 + 1)) (wrap64 (x18_4 + 1)) (wrap64 (1 + t143)) (wrap64 (4 + (wrap64 (4 * t144)))) (wrap64 (16 + t145))) else (some false)) = some r := H
                                        have A75 := Aside0.mk A750
                                        clear A750
                                        by_cases c76 : (wrap64 (t167 + t164)) = x18_4
                                        · rw [if_pos c76] at H
                                          have c76b0 : ((wrap64 (t167 + t164)) == x18_4) = true := beq_iff_eq.mpr c76
                                          have c76b1 : ((wrap64 (t167 + t164)) != x18_4) = false := bne_eq_false_iff_eq.mpr c76
                                          clear c76
                                          have H' := Aside0.mk H
                                          clear H
                                          have hcz77_0 : wr.cell? ⟨gb146, 0, none⟩ = some (.int .i64 (wrap64 (1 + t143))) := (blk_cell BK146.out 0).trans rfl
                                          have hcz77_1 : wr.cell? ⟨gb146, 1, none⟩ = some (.int .i64 (wrap64 (4 + (wrap64 (4 * t144))))) := (blk_cell BK146.out 1).trans rfl
                                          have hcz77_2 : wr.cell? ⟨gb146, 2, none⟩ = some (.int .i64 (wrap64 (16 + t145))) := (blk_cell BK146.out 2).trans rfl
                                          have hfz77_0 := blk_frozen BK146.out 0
                                          have hfz77_1 := blk_frozen BK146.out 1
                                          have hfz77_2 := blk_frozen BK146.out 2
                                          go_wp2_with (first | ((with_reducible refine gate_callee (f := 10) rfl ?_); refine goesL_ (some 137) rfl rfl Try.func10 (by kernel_rfl) rfl #[.agg #[.int .i64 (wrap64 (1 + t143)), .int .i64 (wrap64 (4 + (wrap64 (4 * t144)))), .int .i64 (wrap64 (16 + t145))], .int .i64 x18_4] rfl (by (try simp only [List.map_toArray, List.map_cons, List.map_nil]); first | done | rfl | (simp only [List.length_drop, List.length_take]; rfl)) ?_; (with_reducible refine (geom_OfBlock.calls (wrap64 (1 + t143)) (wrap64 (4 + (wrap64 (4 * t144)))) (wrap64 (16 + t145)) x18_4 t163 t164 _ A70.out).mono ?_); rintro e w78 ⟨rfl, hb⟩; refine ⟨_, rfl, ?_⟩; have n0_ := Aside0.mk (Kd.R_below (by (with_reducible repeat (first | apply Kd.R_alloc | apply Kd.R_drewN | apply Kd.R_drew)); exact HO_9.out) hb); have n1_ := Aside0.mk (blk_below (g := gb146) (o := .cells #[.int .i64 (wrap64 (1 + t143)), .int .i64 (wrap64 (4 + (wrap64 (4 * t144)))), .int .i64 (wrap64 (16 + t145))] 23 (0, 0)) (by (with_reducible repeat (first | refine blk_drewN ?_ _ | refine blk_drew ?_ | refine blk_alloc ?_ _)); exact BK146.out) hb); have n2_ := Aside0.mk (below_step (by repeat (first | (with_reducible first | exact HB.out | apply below_alloc | apply pw_below_drewN | apply below_drew1 | refine below_set ?_ GE146.out) | exact HB.out)) hb); clear HO_9; clear BK146; clear HB; have HO_9 := n0_; have BK146 := n1_; have HB := n2_; clear n0_ n1_ n2_; (try clear hb); (try clear hb2); (try clear hk); (try clear hi); have p165 : 0 ≤ (x18_4 : Int) := of_decide_eq_true (by first | (with_reducible assumption) | assumption); have q165 : x18_4 < (x9_4.length : Int) := of_decide_eq_true (by first | (with_reducible assumption) | assumption); obtain ⟨ad165, e165, hx165_0⟩ := Kd.at_int (Kd.R_reads' HO_9.out).2.2 x18_4 p165 q165; obtain rfl : (⟨go17, 0, none⟩ : Addr) = ad165 := (by injection e165); (first | simp only [add_plain] at hx165_0 | simp only [add_at] at hx165_0 | simp only [Addr.add, Nat.zero_add] at hx165_0 | skip); replace p165 := eq_true p165; replace q165 := eq_true q165; have p74 : 0 ≤ (x18_4 : Int) := of_decide_eq_true (by first | (with_reducible assumption) | assumption); have q74 : (x18_4 : Int) < ((x9_4.length : Int) : Int) := of_decide_eq_true (by first | (with_reducible assumption) | assumption); obtain ⟨hx74_0, hf74_0⟩ := Kd.R_celln 0 HO_9.out (x18_4 : Int) p74 q74; replace p74 := eq_true p74; replace q74 := eq_true q74; obtain ⟨hy79_, hz79_⟩ := Kd.R_celln 0 HO_9.out (x18_4 : Int) (of_decide_eq_true (by first | (with_reducible assumption) | assumption)) (of_decide_eq_true (by first | (with_reducible assumption) | assumption)); have HP79 := Kd.R_putg HO_9.out (x18_4 : Int) (wrap64 ((rd x9_4 x18_4) + 1))) | ((with_reducible refine gate_store (t := 3) (p := 147) rfl ?_); refine store_event (t := 3) (p := 147) (v := ?vo_w80) (w1 := (w78.setCell ⟨go17, (x18_4 : Int).toNat, none⟩ (.int .i64 (wrap64 ((rd x9_4 x18_4) + 1))))) ?hg ?ho ?hn ?hr ?_; (case ho => rfl); (case hg => rfl); (case hn => rfl); (case hr => first | (go_simp; done) | (go_simp; rfl)); intro w80 hw; have hg : w78.grownBy w80 (some go17) := (by rw [hw]; exact HP79.2); have hp_ : Kd.R (Kd.int .i64) 3 w80 w.heap.size (fun _ => True) (.slice (some ⟨go17, 0, none⟩) x9_4.length co17) y166 := (by rw [hw, Ny166.out]; exact HP79.1); clear HP79; have n0_ := Aside0.mk (hp_); have n1_ := Aside0.mk (blk_grown (g := gb146) (o := .cells #[.int .i64 (wrap64 (1 + t143)), .int .i64 (wrap64 (4 + (wrap64 (4 * t144)))), .int .i64 (wrap64 (16 + t145))] 23 (0, 0)) (by (with_reducible repeat (first | refine blk_drewN ?_ _ | refine blk_drew ?_ | refine blk_alloc ?_ _)); exact BK146.out) hg (Kd.R_ne HO_9.out BK146.out (by decide))); have n2_ := Aside0.mk ((by rw [hw]; exact below_set (HB.out) GB17.out : Below w.heap.size w w80)); clear HO_9; clear BK146; clear HB; have HO_9 := n0_; have BK146 := n1_; have HB := n2_; clear n0_ n1_ n2_; clear hg hw hp_; have hcz81_0 : w80.cell? ⟨gb146, 0, none⟩ = some (.int .i64 (wrap64 (1 + t143))) := (blk_cell BK146.out 0).trans rfl; have hcz81_1 : w80.cell? ⟨gb146, 1, none⟩ = some (.int .i64 (wrap64 (4 + (wrap64 (4 * t144))))) := (blk_cell BK146.out 1).trans rfl; have hcz81_2 : w80.cell? ⟨gb146, 2, none⟩ = some (.int .i64 (wrap64 (16 + t145))) := (blk_cell BK146.out 2).trans rfl; have hfz81_0 := blk_frozen BK146.out 0; have hfz81_1 := blk_frozen BK146.out 1; have hfz81_2 := blk_frozen BK146.out 2) | ((with_reducible refine gate_callee (f := 22) rfl ?_); refine goesL_ (some 152) rfl rfl Try.func22 (by kernel_rfl) rfl #[.agg #[.int .i64 (wrap64 (1 + t143)), .int .i64 (wrap64 (4 + (wrap64 (4 * t144)))), .int .i64 (wrap64 (16 + t145))], .int .i64 t163] rfl (by (try simp only [List.map_toArray, List.map_cons, List.map_nil]); first | done | rfl | (simp only [List.length_drop, List.length_take]; rfl)) ?_; (with_reducible refine (geom_First.calls (wrap64 (1 + t143)) (wrap64 (4 + (wrap64 (4 * t144)))) (wrap64 (16 + t145)) t163 t167 _ A75.out).mono ?_); rintro e w82 ⟨rfl, hb⟩; refine ⟨_, rfl, ?_⟩; have n0_ := Aside0.mk (Kd.R_below (by (with_reducible repeat (first | apply Kd.R_alloc | apply Kd.R_drewN | apply Kd.R_drew)); exact HO_9.out) hb); have n1_ := Aside0.mk (blk_below (g := gb146) (o := .cells #[.int .i64 (wrap64 (1 + t143)), .int .i64 (wrap64 (4 + (wrap64 (4 * t144)))), .int .i64 (wrap64 (16 + t145))] 23 (0, 0)) (by (with_reducible repeat (first | refine blk_drewN ?_ _ | refine blk_drew ?_ | refine blk_alloc ?_ _)); exact BK146.out) hb); have n2_ := Aside0.mk (below_step (by repeat (first | (with_reducible first | exact HB.out | apply below_alloc | apply pw_below_drewN | apply below_drew1 | refine below_set ?_ GE146.out) | exact HB.out)) hb); clear HO_9; clear BK146; clear HB; have HO_9 := n0_; have BK146 := n1_; have HB := n2_; clear n0_ n1_ n2_; (try clear hb); (try clear hb2); (try clear hk); (try clear hi)))
                                          (try simp only [← hl9_4])
                                          go_roundg k4
                                          case measure => have := HJ7.out; have := HK2.out; have := HK3.out; have := HK4.out; omega
                                          case rel => exact ⟨(y166), (wrap64 (x17_4 + 1)), (wrap64 (x18_4 + 1)), (by first | rfl | (simp; done) | (simp [*]; done)), (by first | rfl | (simp; done) | (simp [*]; done)), H', ⟨by have := HJ7.out; have := HK2.out; have := HK3.out; have := HK4.out; omega⟩, ⟨by (try simp only [hl9_2]); (try simp only [hl9_3]); (try simp only [hl9_4]); (with_reducible repeat (first | apply Kd.R_alloc | apply Kd.R_drewN | apply Kd.R_drew)); exact HO_9.out⟩, ⟨by (try simp only [hl9_2]); (try simp only [hl9_3]); (try simp only [hl9_4]); (with_reducible repeat (first | refine blk_drewN ?_ _ | refine blk_drew ?_ | refine blk_alloc ?_ _)); exact BK146.out⟩, ⟨by repeat (first | (with_reducible first | exact HB.out | apply below_alloc | apply pw_below_drewN | apply below_drew1 | refine below_set ?_ GE146.out) | exact HB.out)⟩⟩
                                        · rw [if_neg c76] at H
                                          have c76b0 : ((wrap64 (t167 + t164)) == x18_4) = false := beq_eq_false_iff_ne.mpr c76
                                          have c76b1 : ((wrap64 (t167 + t164)) != x18_4) = true := bne_iff_ne.mpr c76
                                          obtain rfl := Option.some.inj H
                                          have hcz83_0 : wr.cell? ⟨gb146, 0, none⟩ = some (.int .i64 (wrap64 (1 + t143))) := (blk_cell BK146.out 0).trans rfl
                                          have hcz83_1 : wr.cell? ⟨gb146, 1, none⟩ = some (.int .i64 (wrap64 (4 + (wrap64 (4 * t144))))) := (blk_cell BK146.out 1).trans rfl
                                          have hcz83_2 : wr.cell? ⟨gb146, 2, none⟩ = some (.int .i64 (wrap64 (16 + t145))) := (blk_cell BK146.out 2).trans rfl
                                          have hfz83_0 := blk_frozen BK146.out 0
                                          have hfz83_1 := blk_frozen BK146.out 1
                                          have hfz83_2 := blk_frozen BK146.out 2
                                          go_wp2_with (first | ((with_reducible refine gate_callee (f := 10) rfl ?_); refine goesL_ (some 137) rfl rfl Try.func10 (by kernel_rfl) rfl #[.agg #[.int .i64 (wrap64 (1 + t143)), .int .i64 (wrap64 (4 + (wrap64 (4 * t144)))), .int .i64 (wrap64 (16 + t145))], .int .i64 x18_4] rfl (by (try simp only [List.map_toArray, List.map_cons, List.map_nil]); first | done | rfl | (simp only [List.length_drop, List.length_take]; rfl)) ?_; (with_reducible refine (geom_OfBlock.calls (wrap64 (1 + t143)) (wrap64 (4 + (wrap64 (4 * t144)))) (wrap64 (16 + t145)) x18_4 t163 t164 _ A70.out).mono ?_); rintro e w84 ⟨rfl, hb⟩; refine ⟨_, rfl, ?_⟩; have n0_ := Aside0.mk (Kd.R_below (by (with_reducible repeat (first | apply Kd.R_alloc | apply Kd.R_drewN | apply Kd.R_drew)); exact HO_9.out) hb); have n1_ := Aside0.mk (blk_below (g := gb146) (o := .cells #[.int .i64 (wrap64 (1 + t143)), .int .i64 (wrap64 (4 + (wrap64 (4 * t144)))), .int .i64 (wrap64 (16 + t145))] 23 (0, 0)) (by (with_reducible repeat (first | refine blk_drewN ?_ _ | refine blk_drew ?_ | refine blk_alloc ?_ _)); exact BK146.out) hb); have n2_ := Aside0.mk (below_step (by repeat (first | (with_reducible first | exact HB.out | apply below_alloc | apply pw_below_drewN | apply below_drew1 | refine below_set ?_ GE146.out) | exact HB.out)) hb); clear HO_9; clear BK146; clear HB; have HO_9 := n0_; have BK146 := n1_; have HB := n2_; clear n0_ n1_ n2_; (try clear hb); (try clear hb2); (try clear hk); (try clear hi); have p165 : 0 ≤ (x18_4 : Int) := of_decide_eq_true (by first | (with_reducible assumption) | assumption); have q165 : x18_4 < (x9_4.length : Int) := of_decide_eq_true (by first | (with_reducible assumption) | assumption); obtain ⟨ad165, e165, hx165_0⟩ := Kd.at_int (Kd.R_reads' HO_9.out).2.2 x18_4 p165 q165; obtain rfl : (⟨go17, 0, none⟩ : Addr) = ad165 := (by injection e165); (first | simp only [add_plain] at hx165_0 | simp only [add_at] at hx165_0 | simp only [Addr.add, Nat.zero_add] at hx165_0 | skip); replace p165 := eq_true p165; replace q165 := eq_true q165; have p74 : 0 ≤ (x18_4 : Int) := of_decide_eq_true (by first | (with_reducible assumption) | assumption); have q74 : (x18_4 : Int) < ((x9_4.length : Int) : Int) := of_decide_eq_true (by first | (with_reducible assumption) | assumption); obtain ⟨hx74_0, hf74_0⟩ := Kd.R_celln 0 HO_9.out (x18_4 : Int) p74 q74; replace p74 := eq_true p74; replace q74 := eq_true q74; obtain ⟨hy85_, hz85_⟩ := Kd.R_celln 0 HO_9.out (x18_4 : Int) (of_decide_eq_true (by first | (with_reducible assumption) | assumption)) (of_decide_eq_true (by first | (with_reducible assumption) | assumption)); have HP85 := Kd.R_putg HO_9.out (x18_4 : Int) (wrap64 ((rd x9_4 x18_4) + 1))) | ((with_reducible refine gate_store (t := 3) (p := 147) rfl ?_); refine store_event (t := 3) (p := 147) (v := ?vo_w86) (w1 := (w84.setCell ⟨go17, (x18_4 : Int).toNat, none⟩ (.int .i64 (wrap64 ((rd x9_4 x18_4) + 1))))) ?hg ?ho ?hn ?hr ?_; (case ho => rfl); (case hg => rfl); (case hn => rfl); (case hr => first | (go_simp; done) | (go_simp; rfl)); intro w86 hw; have hg : w84.grownBy w86 (some go17) := (by rw [hw]; exact HP85.2); have hp_ : Kd.R (Kd.int .i64) 3 w86 w.heap.size (fun _ => True) (.slice (some ⟨go17, 0, none⟩) x9_4.length co17) y166 := (by rw [hw, Ny166.out]; exact HP85.1); clear HP85; have n0_ := Aside0.mk (hp_); have n1_ := Aside0.mk (blk_grown (g := gb146) (o := .cells #[.int .i64 (wrap64 (1 + t143)), .int .i64 (wrap64 (4 + (wrap64 (4 * t144)))), .int .i64 (wrap64 (16 + t145))] 23 (0, 0)) (by (with_reducible repeat (first | refine blk_drewN ?_ _ | refine blk_drew ?_ | refine blk_alloc ?_ _)); exact BK146.out) hg (Kd.R_ne HO_9.out BK146.out (by decide))); have n2_ := Aside0.mk ((by rw [hw]; exact below_set (HB.out) GB17.out : Below w.heap.size w w86)); clear HO_9; clear BK146; clear HB; have HO_9 := n0_; have BK146 := n1_; have HB := n2_; clear n0_ n1_ n2_; clear hg hw hp_; have hcz87_0 : w86.cell? ⟨gb146, 0, none⟩ = some (.int .i64 (wrap64 (1 + t143))) := (blk_cell BK146.out 0).trans rfl; have hcz87_1 : w86.cell? ⟨gb146, 1, none⟩ = some (.int .i64 (wrap64 (4 + (wrap64 (4 * t144))))) := (blk_cell BK146.out 1).trans rfl; have hcz87_2 : w86.cell? ⟨gb146, 2, none⟩ = some (.int .i64 (wrap64 (16 + t145))) := (blk_cell BK146.out 2).trans rfl; have hfz87_0 := blk_frozen BK146.out 0; have hfz87_1 := blk_frozen BK146.out 1; have hfz87_2 := blk_frozen BK146.out 2) | ((with_reducible refine gate_callee (f := 22) rfl ?_); refine goesL_ (some 152) rfl rfl Try.func22 (by kernel_rfl) rfl #[.agg #[.int .i64 (wrap64 (1 + t143)), .int .i64 (wrap64 (4 + (wrap64 (4 * t144)))), .int .i64 (wrap64 (16 + t145))], .int .i64 t163] rfl (by (try simp only [List.map_toArray, List.map_cons, List.map_nil]); first | done | rfl | (simp only [List.length_drop, List.length_take]; rfl)) ?_; (with_reducible refine (geom_First.calls (wrap64 (1 + t143)) (wrap64 (4 + (wrap64 (4 * t144)))) (wrap64 (16 + t145)) t163 t167 _ A75.out).mono ?_); rintro e w88 ⟨rfl, hb⟩; refine ⟨_, rfl, ?_⟩; have n0_ := Aside0.mk (Kd.R_below (by (with_reducible repeat (first | apply Kd.R_alloc | apply Kd.R_drewN | apply Kd.R_drew)); exact HO_9.out) hb); have n1_ := Aside0.mk (blk_below (g := gb146) (o := .cells #[.int .i64 (wrap64 (1 + t143)), .int .i64 (wrap64 (4 + (wrap64 (4 * t144)))), .int .i64 (wrap64 (16 + t145))] 23 (0, 0)) (by (with_reducible repeat (first | refine blk_drewN ?_ _ | refine blk_drew ?_ | refine blk_alloc ?_ _)); exact BK146.out) hb); have n2_ := Aside0.mk (below_step (by repeat (first | (with_reducible first | exact HB.out | apply below_alloc | apply pw_below_drewN | apply below_drew1 | refine below_set ?_ GE146.out) | exact HB.out)) hb); clear HO_9; clear BK146; clear HB; have HO_9 := n0_; have BK146 := n1_; have HB := n2_; clear n0_ n1_ n2_; (try clear hb); (try clear hb2); (try clear hk); (try clear hi)))
                                          go_ret
                                          exact ⟨by first | rfl | (simp [errW_none, errW_some] <;> rfl) | (simp [*, errW_none, errW_some] <;> rfl), by repeat (first | (with_reducible first | exact HB.out | apply below_alloc | apply pw_below_drewN | apply below_drew1 | refine below_set ?_ GE146.out) | exact HB.out)⟩
                                      · rw [if_neg c73] at H
                                        exact absurd H (by simp)
                                    · rw [if_neg c72] at H
                                      exact absurd H (by simp)
                                  · rw [if_neg c71] at H
                                    have c71b0 : decide (0 ≤ t163) = false := decide_eq_false c71
                                    clear c71
                                    have H' := Aside0.mk H
                                    clear H
                                    have hcz89_0 : wr.cell? ⟨gb146, 0, none⟩ = some (.int .i64 (wrap64 (1 + t143))) := (blk_cell BK146.out 0).trans rfl
                                    have hcz89_1 : wr.cell? ⟨gb146, 1, none⟩ = some (.int .i64 (wrap64 (4 + (wrap64 (4 * t144))))) := (blk_cell BK146.out 1).trans rfl
                                    have hcz89_2 : wr.cell? ⟨gb146, 2, none⟩ = some (.int .i64 (wrap64 (16 + t145))) := (blk_cell BK146.out 2).trans rfl
                                    have hfz89_0 := blk_frozen BK146.out 0
                                    have hfz89_1 := blk_frozen BK146.out 1
                                    have hfz89_2 := blk_frozen BK146.out 2
                                    go_wp2_with (first | ((with_reducible refine gate_callee (f := 10) rfl ?_); refine goesL_ (some 137) rfl rfl Try.func10 (by kernel_rfl) rfl #[.agg #[.int .i64 (wrap64 (1 + t143)), .int .i64 (wrap64 (4 + (wrap64 (4 * t144)))), .int .i64 (wrap64 (16 + t145))], .int .i64 x18_4] rfl (by (try simp only [List.map_toArray, List.map_cons, List.map_nil]); first | done | rfl | (simp only [List.length_drop, List.length_take]; rfl)) ?_; (with_reducible refine (geom_OfBlock.calls (wrap64 (1 + t143)) (wrap64 (4 + (wrap64 (4 * t144)))) (wrap64 (16 + t145)) x18_4 t163 t164 _ A70.out).mono ?_); rintro e w90 ⟨rfl, hb⟩; refine ⟨_, rfl, ?_⟩; have n0_ := Aside0.mk (Kd.R_below (by (with_reducible repeat (first | apply Kd.R_alloc | apply Kd.R_drewN | apply Kd.R_drew)); exact HO_9.out) hb); have n1_ := Aside0.mk (blk_below (g := gb146) (o := .cells #[.int .i64 (wrap64 (1 + t143)), .int .i64 (wrap64 (4 + (wrap64 (4 * t144)))), .int .i64 (wrap64 (16 + t145))] 23 (0, 0)) (by (with_reducible repeat (first | refine blk_drewN ?_ _ | refine blk_drew ?_ | refine blk_alloc ?_ _)); exact BK146.out) hb); have n2_ := Aside0.mk (below_step (by repeat (first | (with_reducible first | exact HB.out | apply below_alloc | apply pw_below_drewN | apply below_drew1 | refine below_set ?_ GE146.out) | exact HB.out)) hb); clear HO_9; clear BK146; clear HB; have HO_9 := n0_; have BK146 := n1_; have HB := n2_; clear n0_ n1_ n2_; (try clear hb); (try clear hb2); (try clear hk); (try clear hi)))
                                    (try simp only [← hl9_4])
                                    go_roundg k4
                                    case measure => have := HJ7.out; have := HK2.out; have := HK3.out; have := HK4.out; omega
                                    case rel => exact ⟨(x9_4), (x17_4), (wrap64 (x18_4 + 1)), (by first | rfl | (simp; done) | (simp [*]; done)), (by first | rfl | (simp; done) | (simp [*]; done)), H', ⟨by have := HJ7.out; have := HK2.out; have := HK3.out; have := HK4.out; omega⟩, ⟨by (try simp only [hl9_2]); (try simp only [hl9_3]); (try simp only [hl9_4]); (with_reducible repeat (first | apply Kd.R_alloc | apply Kd.R_drewN | apply Kd.R_drew)); exact HO_9.out⟩, ⟨by (try simp only [hl9_2]); (try simp only [hl9_3]); (try simp only [hl9_4]); (with_reducible repeat (first | refine blk_drewN ?_ _ | refine blk_drew ?_ | refine blk_alloc ?_ _)); exact BK146.out⟩, ⟨by repeat (first | (with_reducible first | exact HB.out | apply below_alloc | apply pw_below_drewN | apply below_drew1 | refine below_set ?_ GE146.out) | exact HB.out)⟩⟩
                                · rw [if_neg c69] at H
                                  have c69b0 : decide (x18_4 < t147) = false := decide_eq_false c69
                                  clear c69
                                  have H' := Aside0.mk H
                                  clear H
                                  go_wp2
                                  go_loopg [21] k4 (fun kq v21 w' => ∃ (x21_5 : Int), v21 = .int .i64 x21_5 ∧ Aside0 (purlinlaw5_GeomParts.l3 kq t147 x9_4 x17_4 x21_5 (wrap64 (1 + t143)) (wrap64 (4 + (wrap64 (4 * t144)))) (wrap64 (16 + t145)) = some r) ∧ Aside0 (kq ≤ k4) ∧ Aside0 (Kd.R (Kd.int .i64) 3 w' w.heap.size (fun _ => True) (.slice (some ⟨go17, 0, none⟩) x9_4.length co17) x9_4) ∧ Aside0 (w'.heap[gb146]? = some (.cells #[.int .i64 (wrap64 (1 + t143)), .int .i64 (wrap64 (4 + (wrap64 (4 * t144)))), .int .i64 (wrap64 (16 + t145))] 23 (0, 0))) ∧ Aside0 (Below w.heap.size w w'))
                                  case atStart => exact ⟨(0), (by first | rfl | (simp; done) | (simp [*]; done)), H', ⟨Nat.le_refl _⟩, ⟨by (try simp only [hl9_2]); (try simp only [hl9_3]); (try simp only [hl9_4]); (with_reducible repeat (first | apply Kd.R_alloc | apply Kd.R_drewN | apply Kd.R_drew)); exact HO_9.out⟩, ⟨by (try simp only [hl9_2]); (try simp only [hl9_3]); (try simp only [hl9_4]); (with_reducible repeat (first | refine blk_drewN ?_ _ | refine blk_drew ?_ | refine blk_alloc ?_ _)); exact BK146.out⟩, ⟨by repeat (first | (with_reducible first | exact HB.out | apply below_alloc | apply pw_below_drewN | apply below_drew1 | refine below_set ?_ GE146.out) | exact HB.out)⟩⟩
                                  case round =>
                                    clear H'
                                    try clear c1
                                    try clear p1
                                    try clear q1
                                    try clear hx1
                                    try clear qi1
                                    try clear c2
                                    try clear p2
                                    try clear c3
                                    try clear p3
                                    try clear q3
                                    try clear hx3
                                    try clear hf3
                                    try clear c4
                                    try clear c5
                                    try clear c6
                                    try clear p6
                                    try clear q6
                                    try clear hx6
                                    try clear hf6
                                    try clear c7
                                    try clear p7
                                    try clear q7
                                    try clear hx7
                                    try clear hf7
                                    try clear c8
                                    try clear c10
                                    try clear c12
                                    try clear c12b0
                                    try clear c13
                                    try clear c14
                                    try clear c14b0
                                    try clear c14b1
                                    try clear c15
                                    try clear c15b0
                                    try clear c15b1
                                    try clear p15
                                    try clear q15
                                    try clear hx15
                                    try clear c16
                                    try clear c16b0
                                    try clear c16b1
                                    try clear p16
                                    try clear q16
                                    try clear hx16
                                    try clear p17
                                    try clear q17
                                    try clear hx17
                                    try clear qi17
                                    try clear hf17
                                    try clear c18
                                    try clear c18b0
                                    try clear c18b1
                                    try clear p19
                                    try clear q19
                                    try clear hx19
                                    try clear qi19
                                    try clear hf19
                                    try clear c20
                                    try clear c22
                                    try clear c25
                                    try clear c26
                                    try clear c26b0
                                    try clear c28
                                    try clear c28b0
                                    try clear c31
                                    try clear c31b0
                                    try clear c34
                                    try clear c34b0
                                    try clear c35
                                    try clear c35b0
                                    try clear p36
                                    try clear q36
                                    try clear hx36
                                    try clear hf36
                                    try clear c43
                                    try clear c43b0
                                    try clear c53
                                    try clear c53b0
                                    try clear c54
                                    try clear c54b0
                                    try clear c55
                                    try clear c55b0
                                    try clear c56
                                    try clear c56b0
                                    try clear c57
                                    try clear c57b0
                                    try clear c58
                                    try clear c58b0
                                    try clear c60
                                    try clear c61
                                    try clear c61b0
                                    try clear c61b1
                                    try clear c62
                                    try clear c62b0
                                    try clear c63
                                    try clear c63b0
                                    try clear p64
                                    try clear q64
                                    try clear hx64
                                    try clear hf64
                                    try clear c69
                                    try clear c69b0
                                    try clear c71
                                    try clear c71b0
                                    try clear c72
                                    try clear c72b0
                                    try clear c73
                                    try clear c73b0
                                    try clear p74
                                    try clear q74
                                    try clear hx74
                                    try clear hf74
                                    try clear c76
                                    try clear c76b0
                                    try clear c76b1
                                    try clear hcz10_0
                                    try clear hcz10_1
                                    try clear hcz10_2
                                    try clear hcz29_0
                                    try clear hcz29_1
                                    try clear hcz29_2
                                    try clear hcz32_0
                                    try clear hcz32_1
                                    try clear hcz32_2
                                    try clear hcz37_0
                                    try clear hcz37_1
                                    try clear hcz37_2
                                    try clear hcz41_0
                                    try clear hcz41_1
                                    try clear hcz41_2
                                    try clear hcz47_0
                                    try clear hcz47_1
                                    try clear hcz47_2
                                    try clear hcz49_0
                                    try clear hcz49_1
                                    try clear hcz49_2
                                    try clear hcz51_0
                                    try clear hcz51_1
                                    try clear hcz51_2
                                    try clear hcz59_0
                                    try clear hcz59_1
                                    try clear hcz59_2
                                    try clear hcz67_0
                                    try clear hcz67_1
                                    try clear hcz67_2
                                    try clear hcz77_0
                                    try clear hcz77_1
                                    try clear hcz77_2
                                    try clear hcz81_0
                                    try clear hcz81_1
                                    try clear hcz81_2
                                    try clear hcz83_0
                                    try clear hcz83_1
                                    try clear hcz83_2
                                    try clear hcz87_0
                                    try clear hcz87_1
                                    try clear hcz87_2
                                    try clear hcz89_0
                                    try clear hcz89_1
                                    try clear hcz89_2
                                    try clear hfz10_0
                                    try clear hfz10_1
                                    try clear hfz10_2
                                    try clear hfz29_0
                                    try clear hfz29_1
                                    try clear hfz29_2
                                    try clear hfz32_0
                                    try clear hfz32_1
                                    try clear hfz32_2
                                    try clear hfz37_0
                                    try clear hfz37_1
                                    try clear hfz37_2
                                    try clear hfz41_0
                                    try clear hfz41_1
                                    try clear hfz41_2
                                    try clear hfz47_0
                                    try clear hfz47_1
                                    try clear hfz47_2
                                    try clear hfz49_0
                                    try clear hfz49_1
                                    try clear hfz49_2
                                    try clear hfz51_0
                                    try clear hfz51_1
                                    try clear hfz51_2
                                    try clear hfz59_0
                                    try clear hfz59_1
                                    try clear hfz59_2
                                    try clear hfz67_0
                                    try clear hfz67_1
                                    try clear hfz67_2
                                    try clear hfz77_0
                                    try clear hfz77_1
                                    try clear hfz77_2
                                    try clear hfz81_0
                                    try clear hfz81_1
                                    try clear hfz81_2
                                    try clear hfz83_0
                                    try clear hfz83_1
                                    try clear hfz83_2
                                    try clear hfz87_0
                                    try clear hfz87_1
                                    try clear hfz87_2
                                    try clear hfz89_0
                                    try clear hfz89_1
                                    try clear hfz89_2
                                    try clear hx154_0
                                    try clear hx161_0
                                    try clear hx165_0
                                    try clear hx17_0
                                    try clear hx19_0
                                    try clear hx36_0
                                    try clear hx64_0
                                    try clear hx74_0
                                    try clear p1
                                    try clear p15
                                    try clear p154
                                    try clear p16
                                    try clear p161
                                    try clear p165
                                    try clear p17
                                    try clear p19
                                    try clear p2
                                    try clear p3
                                    try clear p36
                                    try clear p6
                                    try clear p64
                                    try clear p74
                                    try clear q1
                                    try clear q15
                                    try clear q154
                                    try clear q16
                                    try clear q161
                                    try clear q165
                                    try clear q17
                                    try clear q19
                                    try clear q3
                                    try clear q36
                                    try clear q6
                                    try clear q64
                                    try clear q74
                                    obtain ⟨x21_5, rfl, HA, HK5, HO_9, BK146, HB⟩ := hrel
                                    cases gk with
                                    | zero => exact absurd HA.out (by simp [purlinlaw5_GeomParts.l3])
                                    | succ k5 =>
                                      have H := HA.out
                                      clear HA
                                      simp only [purlinlaw5_GeomParts.l3] at H
                                      by_cases c91 : x21_5 < t147
                                      · rw [if_pos c91] at H
                                        have c91b0 : decide (x21_5 < t147) = true := decide_eq_true c91
                                        clear c91
                                        by_cases c92 : 0 ≤ x21_5
                                        · rw [if_pos c92] at H
                                          have c92b0 : decide (0 ≤ x21_5) = true := decide_eq_true c92
                                          clear c92
                                          by_cases c93 : x21_5 < (x9_4.length : Int)
                                          · rw [if_pos c93] at H
                                            have c93b0 : decide (x21_5 < (x9_4.length : Int)) = true := decide_eq_true c93
                                            clear c93
                                            by_cases c94 : (rd x9_4 x21_5) = 1
                                            · rw [if_pos c94] at H
                                              have c94b0 : ((rd x9_4 x21_5) == 1) = true := beq_iff_eq.mpr c94
                                              have c94b1 : ((rd x9_4 x21_5) != 1) = false := bne_eq_false_iff_eq.mpr c94
                                              clear c94
                                              have H' := Aside0.mk H
                                              clear H
                                              have p168 : 0 ≤ (x21_5 : Int) := of_decide_eq_true (by first | (with_reducible assumption) | assumption)
                                              have q168 : x21_5 < (x9_4.length : Int) := of_decide_eq_true (by first | (with_reducible assumption) | assumption)
                                              obtain ⟨ad168, e168, hx168_0⟩ := Kd.at_int (Kd.R_reads' HO_9.out).2.2 x21_5 p168 q168
                                              obtain rfl : (⟨go17, 0, none⟩ : Addr) = ad168 := (by injection e168)
                                              (first | simp only [add_plain] at hx168_0 | simp only [add_at] at hx168_0 | simp only [Addr.add, Nat.zero_add] at hx168_0 | skip)
                                              replace p168 := eq_true p168
                                              replace q168 := eq_true q168
                                              go_wp2
                                              go_roundg k5
                                              case measure => have := HJ7.out; have := HK2.out; have := HK3.out; have := HK4.out; have := HK5.out; omega
                                              case rel => exact ⟨(wrap64 (x21_5 + 1)), (by first | rfl | (simp; done) | (simp [*]; done)), H', ⟨by have := HJ7.out; have := HK2.out; have := HK3.out; have := HK4.out; have := HK5.out; omega⟩, ⟨by (try simp only [hl9_2]); (try simp only [hl9_3]); (try simp only [hl9_4]); (with_reducible repeat (first | apply Kd.R_alloc | apply Kd.R_drewN | apply Kd.R_drew)); exact HO_9.out⟩, ⟨by (try simp only [hl9_2]); (try simp only [hl9_3]); (try simp only [hl9_4]); (with_reducible repeat (first | refine blk_drewN ?_ _ | refine blk_drew ?_ | refine blk_alloc ?_ _)); exact BK146.out⟩, ⟨by repeat (first | (with_reducible first | exact HB.out | apply below_alloc | apply pw_below_drewN | apply below_drew1 | refine below_set ?_ GE146.out) | exact HB.out)⟩⟩
                                            · rw [if_neg c94] at H
                                              have c94b0 : ((rd x9_4 x21_5) == 1) = false := beq_eq_false_iff_ne.mpr c94
                                              have c94b1 : ((rd x9_4 x21_5) != 1) = true := bne_iff_ne.mpr c94
                                              obtain rfl := Option.some.inj H
                                              have p168 : 0 ≤ (x21_5 : Int) := of_decide_eq_true (by first | (with_reducible assumption) | assumption)
                                              have q168 : x21_5 < (x9_4.length : Int) := of_decide_eq_true (by first | (with_reducible assumption) | assumption)
                                              obtain ⟨ad168, e168, hx168_0⟩ := Kd.at_int (Kd.R_reads' HO_9.out).2.2 x21_5 p168 q168
                                              obtain rfl : (⟨go17, 0, none⟩ : Addr) = ad168 := (by injection e168)
                                              (first | simp only [add_plain] at hx168_0 | simp only [add_at] at hx168_0 | simp only [Addr.add, Nat.zero_add] at hx168_0 | skip)
                                              replace p168 := eq_true p168
                                              replace q168 := eq_true q168
                                              go_wp2
                                              go_ret
                                              exact ⟨by first | rfl | (simp [errW_none, errW_some] <;> rfl) | (simp [*, errW_none, errW_some] <;> rfl), by repeat (first | (with_reducible first | exact HB.out | apply below_alloc | apply pw_below_drewN | apply below_drew1 | refine below_set ?_ GE146.out) | exact HB.out)⟩
                                          · rw [if_neg c93] at H
                                            exact absurd H (by simp)
                                        · rw [if_neg c92] at H
                                          exact absurd H (by simp)
                                      · rw [if_neg c91] at H
                                        have c91b0 : decide (x21_5 < t147) = false := decide_eq_false c91
                                        clear c91
                                        replace H := Option.bind_eq_some_iff.mp H
                                        obtain ⟨t169, A950, H⟩ := H
                                        replace H : (if x17_4 = t169 then ((purlinlaw5_awake.f).bind fun t170 => (some t170)) else (some false)) = some r := H
                                        have A95 := Aside0.mk A950
                                        clear A950
                                        by_cases c96 : x17_4 = t169
                                        · rw [if_pos c96] at H
                                          have c96b0 : (x17_4 == t169) = true := beq_iff_eq.mpr c96
                                          have c96b1 : (x17_4 != t169) = false := bne_eq_false_iff_eq.mpr c96
                                          clear c96
                                          replace H := Option.bind_eq_some_iff.mp H
                                          obtain ⟨t170, A970, H⟩ := H
                                          replace H : (some t170) = some r := H
                                          have A97 := Aside0.mk A970
                                          clear A970
                                          obtain rfl := Option.some.inj H
                                          have hcz98_0 : wr.cell? ⟨gb146, 0, none⟩ = some (.int .i64 (wrap64 (1 + t143))) := (blk_cell BK146.out 0).trans rfl
                                          have hcz98_1 : wr.cell? ⟨gb146, 1, none⟩ = some (.int .i64 (wrap64 (4 + (wrap64 (4 * t144))))) := (blk_cell BK146.out 1).trans rfl
                                          have hcz98_2 : wr.cell? ⟨gb146, 2, none⟩ = some (.int .i64 (wrap64 (16 + t145))) := (blk_cell BK146.out 2).trans rfl
                                          have hfz98_0 := blk_frozen BK146.out 0
                                          have hfz98_1 := blk_frozen BK146.out 1
                                          have hfz98_2 := blk_frozen BK146.out 2
                                          go_wp2_with (first | ((with_reducible refine gate_callee (f := 18) rfl ?_); refine goesL_ (some 169) rfl rfl Try.func18 (by kernel_rfl) rfl #[.agg #[.int .i64 (wrap64 (1 + t143)), .int .i64 (wrap64 (4 + (wrap64 (4 * t144)))), .int .i64 (wrap64 (16 + t145))]] rfl (by (try simp only [List.map_toArray, List.map_cons, List.map_nil]); first | done | rfl | (simp only [List.length_drop, List.length_take]; rfl)) ?_; (with_reducible refine (geom_Blocks.calls (wrap64 (1 + t143)) (wrap64 (4 + (wrap64 (4 * t144)))) (wrap64 (16 + t145)) t169 _ A95.out).mono ?_); rintro e w99 ⟨rfl, hb⟩; refine ⟨_, rfl, ?_⟩; have n0_ := Aside0.mk (Kd.R_below (by (with_reducible repeat (first | apply Kd.R_alloc | apply Kd.R_drewN | apply Kd.R_drew)); exact HO_9.out) hb); have n1_ := Aside0.mk (blk_below (g := gb146) (o := .cells #[.int .i64 (wrap64 (1 + t143)), .int .i64 (wrap64 (4 + (wrap64 (4 * t144)))), .int .i64 (wrap64 (16 + t145))] 23 (0, 0)) (by (with_reducible repeat (first | refine blk_drewN ?_ _ | refine blk_drew ?_ | refine blk_alloc ?_ _)); exact BK146.out) hb); have n2_ := Aside0.mk (below_step (by repeat (first | (with_reducible first | exact HB.out | apply below_alloc | apply pw_below_drewN | apply below_drew1 | refine below_set ?_ GE146.out) | exact HB.out)) hb); clear HO_9; clear BK146; clear HB; have HO_9 := n0_; have BK146 := n1_; have HB := n2_; clear n0_ n1_ n2_; (try clear hb); (try clear hb2); (try clear hk); (try clear hi)) | (go_at_call 24; (with_reducible refine (purlinlaw5_awake.calls  t170 _ A97.out).mono ?_); rintro e w100 ⟨rfl, hb⟩; have n0_ := Aside0.mk (Kd.R_below (by (with_reducible repeat (first | apply Kd.R_alloc | apply Kd.R_drewN | apply Kd.R_drew)); exact HO_9.out) hb); have n1_ := Aside0.mk (blk_below (g := gb146) (o := .cells #[.int .i64 (wrap64 (1 + t143)), .int .i64 (wrap64 (4 + (wrap64 (4 * t144)))), .int .i64 (wrap64 (16 + t145))] 23 (0, 0)) (by (with_reducible repeat (first | refine blk_drewN ?_ _ | refine blk_drew ?_ | refine blk_alloc ?_ _)); exact BK146.out) hb); have n2_ := Aside0.mk (below_step (by repeat (first | (with_reducible first | exact HB.out | apply below_alloc | apply pw_below_drewN | apply below_drew1 | refine below_set ?_ GE146.out) | exact HB.out)) hb); clear HO_9; clear BK146; clear HB; have HO_9 := n0_; have BK146 := n1_; have HB := n2_; clear n0_ n1_ n2_; (try clear hb); (try clear hb2); (try clear hk); (try clear hi)))
                                          go_ret
                                          exact ⟨by first | rfl | (simp [errW_none, errW_some] <;> rfl) | (simp [*, errW_none, errW_some] <;> rfl), by repeat (first | (with_reducible first | exact HB.out | apply below_alloc | apply pw_below_drewN | apply below_drew1 | refine below_set ?_ GE146.out) | exact HB.out)⟩
                                        · rw [if_neg c96] at H
                                          have c96b0 : (x17_4 == t169) = false := beq_eq_false_iff_ne.mpr c96
                                          have c96b1 : (x17_4 != t169) = true := bne_iff_ne.mpr c96
                                          obtain rfl := Option.some.inj H
                                          have hcz101_0 : wr.cell? ⟨gb146, 0, none⟩ = some (.int .i64 (wrap64 (1 + t143))) := (blk_cell BK146.out 0).trans rfl
                                          have hcz101_1 : wr.cell? ⟨gb146, 1, none⟩ = some (.int .i64 (wrap64 (4 + (wrap64 (4 * t144))))) := (blk_cell BK146.out 1).trans rfl
                                          have hcz101_2 : wr.cell? ⟨gb146, 2, none⟩ = some (.int .i64 (wrap64 (16 + t145))) := (blk_cell BK146.out 2).trans rfl
                                          have hfz101_0 := blk_frozen BK146.out 0
                                          have hfz101_1 := blk_frozen BK146.out 1
                                          have hfz101_2 := blk_frozen BK146.out 2
                                          go_wp2_with (first | ((with_reducible refine gate_callee (f := 18) rfl ?_); refine goesL_ (some 169) rfl rfl Try.func18 (by kernel_rfl) rfl #[.agg #[.int .i64 (wrap64 (1 + t143)), .int .i64 (wrap64 (4 + (wrap64 (4 * t144)))), .int .i64 (wrap64 (16 + t145))]] rfl (by (try simp only [List.map_toArray, List.map_cons, List.map_nil]); first | done | rfl | (simp only [List.length_drop, List.length_take]; rfl)) ?_; (with_reducible refine (geom_Blocks.calls (wrap64 (1 + t143)) (wrap64 (4 + (wrap64 (4 * t144)))) (wrap64 (16 + t145)) t169 _ A95.out).mono ?_); rintro e w102 ⟨rfl, hb⟩; refine ⟨_, rfl, ?_⟩; have n0_ := Aside0.mk (Kd.R_below (by (with_reducible repeat (first | apply Kd.R_alloc | apply Kd.R_drewN | apply Kd.R_drew)); exact HO_9.out) hb); have n1_ := Aside0.mk (blk_below (g := gb146) (o := .cells #[.int .i64 (wrap64 (1 + t143)), .int .i64 (wrap64 (4 + (wrap64 (4 * t144)))), .int .i64 (wrap64 (16 + t145))] 23 (0, 0)) (by (with_reducible repeat (first | refine blk_drewN ?_ _ | refine blk_drew ?_ | refine blk_alloc ?_ _)); exact BK146.out) hb); have n2_ := Aside0.mk (below_step (by repeat (first | (with_reducible first | exact HB.out | apply below_alloc | apply pw_below_drewN | apply below_drew1 | refine below_set ?_ GE146.out) | exact HB.out)) hb); clear HO_9; clear BK146; clear HB; have HO_9 := n0_; have BK146 := n1_; have HB := n2_; clear n0_ n1_ n2_; (try clear hb); (try clear hb2); (try clear hk); (try clear hi)))
                                          go_ret
                                          exact ⟨by first | rfl | (simp [errW_none, errW_some] <;> rfl) | (simp [*, errW_none, errW_some] <;> rfl), by repeat (first | (with_reducible first | exact HB.out | apply below_alloc | apply pw_below_drewN | apply below_drew1 | refine below_set ?_ GE146.out) | exact HB.out)⟩
              · rw [if_neg c18] at H
                exact absurd H (by simp)
            · rw [if_neg c16] at H
              exact absurd H (by simp)
          · rw [if_neg c15] at H
            exact absurd H (by simp)
        · rw [if_neg c14] at H
          exact absurd H (by simp)

/-- THE ONE PURE STATEMENT of purlinlaw5_GeomParts: yours. -/
def purlinlaw5_GeomParts.Pure : Prop := ∀ (a0 : Int) (a1 : Int) (a2 : Int), (Lit.int .i64 a0).wf = true → (Lit.int .i64 a1).wf = true → (Lit.int .i64 a2).wf = true → ∃ k, purlinlaw5_GeomParts.f k a0 a1 a2 = some true
theorem purlinlaw5_GeomParts.walk (P : purlinlaw5_GeomParts.Pure) (a0 : Int) (a1 : Int) (a2 : Int) (w : World) (w0 : (Lit.int .i64 a0).wf = true) (w1 : (Lit.int .i64 a1).wf = true) (w2 : (Lit.int .i64 a2).wf = true) :
    Calls Try.prog 4 #[.int .i64 a0, .int .i64 a1, .int .i64 a2] w fun e w' => e = .returned (.bool true) ∧ Below w.heap.size w w' := by
  obtain ⟨k, h⟩ := P a0 a1 a2 w0 w1 w2
  refine (purlinlaw5_GeomParts.calls k a0 a1 a2 true w h).mono ?_
  rintro e w' ⟨rfl, hd⟩
  exact ⟨rfl, hd⟩

end Go.Proofs.Ytokmnimiidmpmaa.PGeomParts
