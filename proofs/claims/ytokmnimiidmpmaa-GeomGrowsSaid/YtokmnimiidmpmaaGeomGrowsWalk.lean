/- For every input the law GeomGrows returns true: one block, four inodes, or a group more make just so many sectors more. (the walk of the law's own function where it answers true; made out of the kit's print) -/
import Derived.Test.YtokmnimiidmpmaaGeomGrowsDefs
namespace Go.Proofs.Ytokmnimiidmpmaa.PGeomGrows
open Go.RowKit Go.Proofs.YtokmnimiidmpmaaW.PrintWords Go.Proofs.YtokmnimiidmpmaaW.PrintLast Go.Proofs.YtokmnimiidmpmaaW.PrintMore
attribute [local go_sem] max2_int min2_int max_two min_two max_three min_three max_four min_four   -- for this text's walks alone
set_option linter.unusedVariables false
set_option linter.unusedSimpArgs false

set_option maxHeartbeats 8000000 in
set_option maxRecDepth 100000 in
theorem purlinlaw5_GeomGrows.calls (a0 : Int) (a1 : Int) (a2 : Int) (a3 : Int) (r : Bool) (w : World) (hrT : Aside0 (r = true)) (h : purlinlaw5_GeomGrows.f a0 a1 a2 a3 = some r) :
    Calls Try.prog 5 #[.int .i64 a0, .int .i64 a1, .int .i64 a2, .int .i64 a3] w fun e w' => e = .returned (.bool r) ∧ Below w.heap.size w w' := by
  have hu23 := Try.underlying23
  have HB := Aside0.mk (Below.refl w.heap.size w)
  have H : ((purlinlaw0_Low.f a0 7).bind fun t143 => ((purlinlaw0_Low.f a1 7).bind fun t144 => ((purlinlaw0_Low.f a2 80).bind fun t145 => ((purlinlaw0_Low.f a3 (wrap64 (4 + (wrap64 (4 * t144))))).bind fun t150 => ((geom_Inode.f (wrap64 (1 + t143)) (wrap64 (4 + (wrap64 (4 * t144)))) (wrap64 (16 + t145)) (wrap64 (1 + t150))).bind fun bt151 => ((geom_Inode.f (wrap64 ((wrap64 (1 + t143)) + 1)) (wrap64 (4 + (wrap64 (4 * t144)))) (wrap64 (16 + t145)) (wrap64 (1 + t150))).bind fun bt153 => ((geom_Inode.f (wrap64 (1 + t143)) (wrap64 (4 + (wrap64 (4 * t144)))) (wrap64 ((wrap64 (16 + t145)) + 1)) (wrap64 (1 + t150))).bind fun bt155 => ((geom_Sectors.f (wrap64 (1 + t143)) (wrap64 (4 + (wrap64 (4 * t144)))) (wrap64 (16 + t145))).bind fun t157 => ((geom_Sectors.f (wrap64 (1 + t143)) (wrap64 (4 + (wrap64 (4 * t144)))) (wrap64 ((wrap64 (16 + t145)) + 1))).bind fun t158 => (if t158 = (wrap64 (t157 + (wrap64 (1 + t143)))) then ((geom_Sectors.f (wrap64 (1 + t143)) (wrap64 ((wrap64 (4 + (wrap64 (4 * t144)))) + 4)) (wrap64 (16 + t145))).bind fun t159 => (if t159 = (wrap64 (t157 + (wrap64 (1 + t143)))) then ((geom_Sectors.f (wrap64 ((wrap64 (1 + t143)) + 1)) (wrap64 (4 + (wrap64 (4 * t144)))) (wrap64 (16 + t145))).bind fun t160 => ((geom_First.f (wrap64 (1 + t143)) (wrap64 (4 + (wrap64 (4 * t144)))) (wrap64 (16 + t145)) 0).bind fun t161 => (if (wrap64 (t160 - t157)) = (wrap64 ((wrap64 (t161 - 2)) + (wrap64 (16 + t145)))) then ((geom_Group.f (wrap64 ((wrap64 (1 + t143)) + 1)) (wrap64 (4 + (wrap64 (4 * t144)))) (wrap64 (16 + t145)) (wrap64 (1 + t143))).bind fun t162 => (if t162 = t157 then (if bt151.1 = bt153.1 then (if bt151.2 = bt153.2 then (if bt151.1 = bt155.1 then (if bt151.2 = bt155.2 then ((geom_Inodes.f (wrap64 ((wrap64 (1 + t143)) + 1)) (wrap64 (4 + (wrap64 (4 * t144)))) (wrap64 (16 + t145))).bind fun t163 => ((geom_Inodes.f (wrap64 (1 + t143)) (wrap64 (4 + (wrap64 (4 * t144)))) (wrap64 (16 + t145))).bind fun t164 => (if t163 = (wrap64 (t164 + (wrap64 (4 + (wrap64 (4 * t144)))))) then ((geom_Blocks.f (wrap64 (1 + t143)) (wrap64 (4 + (wrap64 (4 * t144)))) (wrap64 ((wrap64 (16 + t145)) + 1))).bind fun t165 => ((geom_Blocks.f (wrap64 (1 + t143)) (wrap64 (4 + (wrap64 (4 * t144)))) (wrap64 (16 + t145))).bind fun t166 => (if t165 = (wrap64 (t166 + (wrap64 (1 + t143)))) then ((purlinlaw5_awake.f).bind fun t167 => (some t167)) else (some false)))) else (some false)))) else (some false)) else (some false)) else (some false)) else (some false)) else (some false))) else (some false)))) else (some false))) else (some false))))))))))) = some r := h
  clear h
  replace H := Option.bind_eq_some_iff.mp H
  obtain ⟨t143, A50, H⟩ := H
  replace H : ((purlinlaw0_Low.f a1 7).bind fun t144 => ((purlinlaw0_Low.f a2 80).bind fun t145 => ((purlinlaw0_Low.f a3 (wrap64 (4 + (wrap64 (4 * t144))))).bind fun t150 => ((geom_Inode.f (wrap64 (1 + t143)) (wrap64 (4 + (wrap64 (4 * t144)))) (wrap64 (16 + t145)) (wrap64 (1 + t150))).bind fun bt151 => ((geom_Inode.f (wrap64 ((wrap64 (1 + t143)) + 1)) (wrap64 (4 + (wrap64 (4 * t144)))) (wrap64 (16 + t145)) (wrap64 (1 + t150))).bind fun bt153 => ((geom_Inode.f (wrap64 (1 + t143)) (wrap64 (4 + (wrap64 (4 * t144)))) (wrap64 ((wrap64 (16 + t145)) + 1)) (wrap64 (1 + t150))).bind fun bt155 => ((geom_Sectors.f (wrap64 (1 + t143)) (wrap64 (4 + (wrap64 (4 * t144)))) (wrap64 (16 + t145))).bind fun t157 => ((geom_Sectors.f (wrap64 (1 + t143)) (wrap64 (4 + (wrap64 (4 * t144)))) (wrap64 ((wrap64 (16 + t145)) + 1))).bind fun t158 => (if t158 = (wrap64 (t157 + (wrap64 (1 + t143)))) then ((geom_Sectors.f (wrap64 (1 + t143)) (wrap64 ((wrap64 (4 + (wrap64 (4 * t144)))) + 4)) (wrap64 (16 + t145))).bind fun t159 => (if t159 = (wrap64 (t157 + (wrap64 (1 + t143)))) then ((geom_Sectors.f (wrap64 ((wrap64 (1 + t143)) + 1)) (wrap64 (4 + (wrap64 (4 * t144)))) (wrap64 (16 + t145))).bind fun t160 => ((geom_First.f (wrap64 (1 + t143)) (wrap64 (4 + (wrap64 (4 * t144)))) (wrap64 (16 + t145)) 0).bind fun t161 => (if (wrap64 (t160 - t157)) = (wrap64 ((wrap64 (t161 - 2)) + (wrap64 (16 + t145)))) then ((geom_Group.f (wrap64 ((wrap64 (1 + t143)) + 1)) (wrap64 (4 + (wrap64 (4 * t144)))) (wrap64 (16 + t145)) (wrap64 (1 + t143))).bind fun t162 => (if t162 = t157 then (if bt151.1 = bt153.1 then (if bt151.2 = bt153.2 then (if bt151.1 = bt155.1 then (if bt151.2 = bt155.2 then ((geom_Inodes.f (wrap64 ((wrap64 (1 + t143)) + 1)) (wrap64 (4 + (wrap64 (4 * t144)))) (wrap64 (16 + t145))).bind fun t163 => ((geom_Inodes.f (wrap64 (1 + t143)) (wrap64 (4 + (wrap64 (4 * t144)))) (wrap64 (16 + t145))).bind fun t164 => (if t163 = (wrap64 (t164 + (wrap64 (4 + (wrap64 (4 * t144)))))) then ((geom_Blocks.f (wrap64 (1 + t143)) (wrap64 (4 + (wrap64 (4 * t144)))) (wrap64 ((wrap64 (16 + t145)) + 1))).bind fun t165 => ((geom_Blocks.f (wrap64 (1 + t143)) (wrap64 (4 + (wrap64 (4 * t144)))) (wrap64 (16 + t145))).bind fun t166 => (if t165 = (wrap64 (t166 + (wrap64 (1 + t143)))) then ((purlinlaw5_awake.f).bind fun t167 => (some t167)) else (some false)))) else (some false)))) else (some false)) else (some false)) else (some false)) else (some false)) else (some false))) else (some false)))) else (some false))) else (some false)))))))))) = some r := H
  have A5 := Aside0.mk A50
  clear A50
  replace H := Option.bind_eq_some_iff.mp H
  obtain ⟨t144, A60, H⟩ := H
  replace H : ((purlinlaw0_Low.f a2 80).bind fun t145 => ((purlinlaw0_Low.f a3 (wrap64 (4 + (wrap64 (4 * t144))))).bind fun t150 => ((geom_Inode.f (wrap64 (1 + t143)) (wrap64 (4 + (wrap64 (4 * t144)))) (wrap64 (16 + t145)) (wrap64 (1 + t150))).bind fun bt151 => ((geom_Inode.f (wrap64 ((wrap64 (1 + t143)) + 1)) (wrap64 (4 + (wrap64 (4 * t144)))) (wrap64 (16 + t145)) (wrap64 (1 + t150))).bind fun bt153 => ((geom_Inode.f (wrap64 (1 + t143)) (wrap64 (4 + (wrap64 (4 * t144)))) (wrap64 ((wrap64 (16 + t145)) + 1)) (wrap64 (1 + t150))).bind fun bt155 => ((geom_Sectors.f (wrap64 (1 + t143)) (wrap64 (4 + (wrap64 (4 * t144)))) (wrap64 (16 + t145))).bind fun t157 => ((geom_Sectors.f (wrap64 (1 + t143)) (wrap64 (4 + (wrap64 (4 * t144)))) (wrap64 ((wrap64 (16 + t145)) + 1))).bind fun t158 => (if t158 = (wrap64 (t157 + (wrap64 (1 + t143)))) then ((geom_Sectors.f (wrap64 (1 + t143)) (wrap64 ((wrap64 (4 + (wrap64 (4 * t144)))) + 4)) (wrap64 (16 + t145))).bind fun t159 => (if t159 = (wrap64 (t157 + (wrap64 (1 + t143)))) then ((geom_Sectors.f (wrap64 ((wrap64 (1 + t143)) + 1)) (wrap64 (4 + (wrap64 (4 * t144)))) (wrap64 (16 + t145))).bind fun t160 => ((geom_First.f (wrap64 (1 + t143)) (wrap64 (4 + (wrap64 (4 * t144)))) (wrap64 (16 + t145)) 0).bind fun t161 => (if (wrap64 (t160 - t157)) = (wrap64 ((wrap64 (t161 - 2)) + (wrap64 (16 + t145)))) then ((geom_Group.f (wrap64 ((wrap64 (1 + t143)) + 1)) (wrap64 (4 + (wrap64 (4 * t144)))) (wrap64 (16 + t145)) (wrap64 (1 + t143))).bind fun t162 => (if t162 = t157 then (if bt151.1 = bt153.1 then (if bt151.2 = bt153.2 then (if bt151.1 = bt155.1 then (if bt151.2 = bt155.2 then ((geom_Inodes.f (wrap64 ((wrap64 (1 + t143)) + 1)) (wrap64 (4 + (wrap64 (4 * t144)))) (wrap64 (16 + t145))).bind fun t163 => ((geom_Inodes.f (wrap64 (1 + t143)) (wrap64 (4 + (wrap64 (4 * t144)))) (wrap64 (16 + t145))).bind fun t164 => (if t163 = (wrap64 (t164 + (wrap64 (4 + (wrap64 (4 * t144)))))) then ((geom_Blocks.f (wrap64 (1 + t143)) (wrap64 (4 + (wrap64 (4 * t144)))) (wrap64 ((wrap64 (16 + t145)) + 1))).bind fun t165 => ((geom_Blocks.f (wrap64 (1 + t143)) (wrap64 (4 + (wrap64 (4 * t144)))) (wrap64 (16 + t145))).bind fun t166 => (if t165 = (wrap64 (t166 + (wrap64 (1 + t143)))) then ((purlinlaw5_awake.f).bind fun t167 => (some t167)) else (some false)))) else (some false)))) else (some false)) else (some false)) else (some false)) else (some false)) else (some false))) else (some false)))) else (some false))) else (some false))))))))) = some r := H
  have A6 := Aside0.mk A60
  clear A60
  replace H := Option.bind_eq_some_iff.mp H
  obtain ⟨t145, A70, H⟩ := H
  replace H : ((purlinlaw0_Low.f a3 (wrap64 (4 + (wrap64 (4 * t144))))).bind fun t150 => ((geom_Inode.f (wrap64 (1 + t143)) (wrap64 (4 + (wrap64 (4 * t144)))) (wrap64 (16 + t145)) (wrap64 (1 + t150))).bind fun bt151 => ((geom_Inode.f (wrap64 ((wrap64 (1 + t143)) + 1)) (wrap64 (4 + (wrap64 (4 * t144)))) (wrap64 (16 + t145)) (wrap64 (1 + t150))).bind fun bt153 => ((geom_Inode.f (wrap64 (1 + t143)) (wrap64 (4 + (wrap64 (4 * t144)))) (wrap64 ((wrap64 (16 + t145)) + 1)) (wrap64 (1 + t150))).bind fun bt155 => ((geom_Sectors.f (wrap64 (1 + t143)) (wrap64 (4 + (wrap64 (4 * t144)))) (wrap64 (16 + t145))).bind fun t157 => ((geom_Sectors.f (wrap64 (1 + t143)) (wrap64 (4 + (wrap64 (4 * t144)))) (wrap64 ((wrap64 (16 + t145)) + 1))).bind fun t158 => (if t158 = (wrap64 (t157 + (wrap64 (1 + t143)))) then ((geom_Sectors.f (wrap64 (1 + t143)) (wrap64 ((wrap64 (4 + (wrap64 (4 * t144)))) + 4)) (wrap64 (16 + t145))).bind fun t159 => (if t159 = (wrap64 (t157 + (wrap64 (1 + t143)))) then ((geom_Sectors.f (wrap64 ((wrap64 (1 + t143)) + 1)) (wrap64 (4 + (wrap64 (4 * t144)))) (wrap64 (16 + t145))).bind fun t160 => ((geom_First.f (wrap64 (1 + t143)) (wrap64 (4 + (wrap64 (4 * t144)))) (wrap64 (16 + t145)) 0).bind fun t161 => (if (wrap64 (t160 - t157)) = (wrap64 ((wrap64 (t161 - 2)) + (wrap64 (16 + t145)))) then ((geom_Group.f (wrap64 ((wrap64 (1 + t143)) + 1)) (wrap64 (4 + (wrap64 (4 * t144)))) (wrap64 (16 + t145)) (wrap64 (1 + t143))).bind fun t162 => (if t162 = t157 then (if bt151.1 = bt153.1 then (if bt151.2 = bt153.2 then (if bt151.1 = bt155.1 then (if bt151.2 = bt155.2 then ((geom_Inodes.f (wrap64 ((wrap64 (1 + t143)) + 1)) (wrap64 (4 + (wrap64 (4 * t144)))) (wrap64 (16 + t145))).bind fun t163 => ((geom_Inodes.f (wrap64 (1 + t143)) (wrap64 (4 + (wrap64 (4 * t144)))) (wrap64 (16 + t145))).bind fun t164 => (if t163 = (wrap64 (t164 + (wrap64 (4 + (wrap64 (4 * t144)))))) then ((geom_Blocks.f (wrap64 (1 + t143)) (wrap64 (4 + (wrap64 (4 * t144)))) (wrap64 ((wrap64 (16 + t145)) + 1))).bind fun t165 => ((geom_Blocks.f (wrap64 (1 + t143)) (wrap64 (4 + (wrap64 (4 * t144)))) (wrap64 (16 + t145))).bind fun t166 => (if t165 = (wrap64 (t166 + (wrap64 (1 + t143)))) then ((purlinlaw5_awake.f).bind fun t167 => (some t167)) else (some false)))) else (some false)))) else (some false)) else (some false)) else (some false)) else (some false)) else (some false))) else (some false)))) else (some false))) else (some false)))))))) = some r := H
  have A7 := Aside0.mk A70
  clear A70
  replace H := Option.bind_eq_some_iff.mp H
  obtain ⟨t150, A80, H⟩ := H
  replace H : ((geom_Inode.f (wrap64 (1 + t143)) (wrap64 (4 + (wrap64 (4 * t144)))) (wrap64 (16 + t145)) (wrap64 (1 + t150))).bind fun bt151 => ((geom_Inode.f (wrap64 ((wrap64 (1 + t143)) + 1)) (wrap64 (4 + (wrap64 (4 * t144)))) (wrap64 (16 + t145)) (wrap64 (1 + t150))).bind fun bt153 => ((geom_Inode.f (wrap64 (1 + t143)) (wrap64 (4 + (wrap64 (4 * t144)))) (wrap64 ((wrap64 (16 + t145)) + 1)) (wrap64 (1 + t150))).bind fun bt155 => ((geom_Sectors.f (wrap64 (1 + t143)) (wrap64 (4 + (wrap64 (4 * t144)))) (wrap64 (16 + t145))).bind fun t157 => ((geom_Sectors.f (wrap64 (1 + t143)) (wrap64 (4 + (wrap64 (4 * t144)))) (wrap64 ((wrap64 (16 + t145)) + 1))).bind fun t158 => (if t158 = (wrap64 (t157 + (wrap64 (1 + t143)))) then ((geom_Sectors.f (wrap64 (1 + t143)) (wrap64 ((wrap64 (4 + (wrap64 (4 * t144)))) + 4)) (wrap64 (16 + t145))).bind fun t159 => (if t159 = (wrap64 (t157 + (wrap64 (1 + t143)))) then ((geom_Sectors.f (wrap64 ((wrap64 (1 + t143)) + 1)) (wrap64 (4 + (wrap64 (4 * t144)))) (wrap64 (16 + t145))).bind fun t160 => ((geom_First.f (wrap64 (1 + t143)) (wrap64 (4 + (wrap64 (4 * t144)))) (wrap64 (16 + t145)) 0).bind fun t161 => (if (wrap64 (t160 - t157)) = (wrap64 ((wrap64 (t161 - 2)) + (wrap64 (16 + t145)))) then ((geom_Group.f (wrap64 ((wrap64 (1 + t143)) + 1)) (wrap64 (4 + (wrap64 (4 * t144)))) (wrap64 (16 + t145)) (wrap64 (1 + t143))).bind fun t162 => (if t162 = t157 then (if bt151.1 = bt153.1 then (if bt151.2 = bt153.2 then (if bt151.1 = bt155.1 then (if bt151.2 = bt155.2 then ((geom_Inodes.f (wrap64 ((wrap64 (1 + t143)) + 1)) (wrap64 (4 + (wrap64 (4 * t144)))) (wrap64 (16 + t145))).bind fun t163 => ((geom_Inodes.f (wrap64 (1 + t143)) (wrap64 (4 + (wrap64 (4 * t144)))) (wrap64 (16 + t145))).bind fun t164 => (if t163 = (wrap64 (t164 + (wrap64 (4 + (wrap64 (4 * t144)))))) then ((geom_Blocks.f (wrap64 (1 + t143)) (wrap64 (4 + (wrap64 (4 * t144)))) (wrap64 ((wrap64 (16 + t145)) + 1))).bind fun t165 => ((geom_Blocks.f (wrap64 (1 + t143)) (wrap64 (4 + (wrap64 (4 * t144)))) (wrap64 (16 + t145))).bind fun t166 => (if t165 = (wrap64 (t166 + (wrap64 (1 + t143)))) then ((purlinlaw5_awake.f).bind fun t167 => (some t167)) else (some false)))) else (some false)))) else (some false)) else (some false)) else (some false)) else (some false)) else (some false))) else (some false)))) else (some false))) else (some false))))))) = some r := H
  have A8 := Aside0.mk A80
  clear A80
  replace H := Option.bind_eq_some_iff.mp H
  obtain ⟨⟨t151, t152⟩, A90, H⟩ := H
  replace H : ((geom_Inode.f (wrap64 ((wrap64 (1 + t143)) + 1)) (wrap64 (4 + (wrap64 (4 * t144)))) (wrap64 (16 + t145)) (wrap64 (1 + t150))).bind fun bt153 => ((geom_Inode.f (wrap64 (1 + t143)) (wrap64 (4 + (wrap64 (4 * t144)))) (wrap64 ((wrap64 (16 + t145)) + 1)) (wrap64 (1 + t150))).bind fun bt155 => ((geom_Sectors.f (wrap64 (1 + t143)) (wrap64 (4 + (wrap64 (4 * t144)))) (wrap64 (16 + t145))).bind fun t157 => ((geom_Sectors.f (wrap64 (1 + t143)) (wrap64 (4 + (wrap64 (4 * t144)))) (wrap64 ((wrap64 (16 + t145)) + 1))).bind fun t158 => (if t158 = (wrap64 (t157 + (wrap64 (1 + t143)))) then ((geom_Sectors.f (wrap64 (1 + t143)) (wrap64 ((wrap64 (4 + (wrap64 (4 * t144)))) + 4)) (wrap64 (16 + t145))).bind fun t159 => (if t159 = (wrap64 (t157 + (wrap64 (1 + t143)))) then ((geom_Sectors.f (wrap64 ((wrap64 (1 + t143)) + 1)) (wrap64 (4 + (wrap64 (4 * t144)))) (wrap64 (16 + t145))).bind fun t160 => ((geom_First.f (wrap64 (1 + t143)) (wrap64 (4 + (wrap64 (4 * t144)))) (wrap64 (16 + t145)) 0).bind fun t161 => (if (wrap64 (t160 - t157)) = (wrap64 ((wrap64 (t161 - 2)) + (wrap64 (16 + t145)))) then ((geom_Group.f (wrap64 ((wrap64 (1 + t143)) + 1)) (wrap64 (4 + (wrap64 (4 * t144)))) (wrap64 (16 + t145)) (wrap64 (1 + t143))).bind fun t162 => (if t162 = t157 then (if t151 = bt153.1 then (if t152 = bt153.2 then (if t151 = bt155.1 then (if t152 = bt155.2 then ((geom_Inodes.f (wrap64 ((wrap64 (1 + t143)) + 1)) (wrap64 (4 + (wrap64 (4 * t144)))) (wrap64 (16 + t145))).bind fun t163 => ((geom_Inodes.f (wrap64 (1 + t143)) (wrap64 (4 + (wrap64 (4 * t144)))) (wrap64 (16 + t145))).bind fun t164 => (if t163 = (wrap64 (t164 + (wrap64 (4 + (wrap64 (4 * t144)))))) then ((geom_Blocks.f (wrap64 (1 + t143)) (wrap64 (4 + (wrap64 (4 * t144)))) (wrap64 ((wrap64 (16 + t145)) + 1))).bind fun t165 => ((geom_Blocks.f (wrap64 (1 + t143)) (wrap64 (4 + (wrap64 (4 * t144)))) (wrap64 (16 + t145))).bind fun t166 => (if t165 = (wrap64 (t166 + (wrap64 (1 + t143)))) then ((purlinlaw5_awake.f).bind fun t167 => (some t167)) else (some false)))) else (some false)))) else (some false)) else (some false)) else (some false)) else (some false)) else (some false))) else (some false)))) else (some false))) else (some false)))))) = some r := H
  have A9 := Aside0.mk A90
  clear A90
  replace H := Option.bind_eq_some_iff.mp H
  obtain ⟨⟨t153, t154⟩, A100, H⟩ := H
  replace H : ((geom_Inode.f (wrap64 (1 + t143)) (wrap64 (4 + (wrap64 (4 * t144)))) (wrap64 ((wrap64 (16 + t145)) + 1)) (wrap64 (1 + t150))).bind fun bt155 => ((geom_Sectors.f (wrap64 (1 + t143)) (wrap64 (4 + (wrap64 (4 * t144)))) (wrap64 (16 + t145))).bind fun t157 => ((geom_Sectors.f (wrap64 (1 + t143)) (wrap64 (4 + (wrap64 (4 * t144)))) (wrap64 ((wrap64 (16 + t145)) + 1))).bind fun t158 => (if t158 = (wrap64 (t157 + (wrap64 (1 + t143)))) then ((geom_Sectors.f (wrap64 (1 + t143)) (wrap64 ((wrap64 (4 + (wrap64 (4 * t144)))) + 4)) (wrap64 (16 + t145))).bind fun t159 => (if t159 = (wrap64 (t157 + (wrap64 (1 + t143)))) then ((geom_Sectors.f (wrap64 ((wrap64 (1 + t143)) + 1)) (wrap64 (4 + (wrap64 (4 * t144)))) (wrap64 (16 + t145))).bind fun t160 => ((geom_First.f (wrap64 (1 + t143)) (wrap64 (4 + (wrap64 (4 * t144)))) (wrap64 (16 + t145)) 0).bind fun t161 => (if (wrap64 (t160 - t157)) = (wrap64 ((wrap64 (t161 - 2)) + (wrap64 (16 + t145)))) then ((geom_Group.f (wrap64 ((wrap64 (1 + t143)) + 1)) (wrap64 (4 + (wrap64 (4 * t144)))) (wrap64 (16 + t145)) (wrap64 (1 + t143))).bind fun t162 => (if t162 = t157 then (if t151 = t153 then (if t152 = t154 then (if t151 = bt155.1 then (if t152 = bt155.2 then ((geom_Inodes.f (wrap64 ((wrap64 (1 + t143)) + 1)) (wrap64 (4 + (wrap64 (4 * t144)))) (wrap64 (16 + t145))).bind fun t163 => ((geom_Inodes.f (wrap64 (1 + t143)) (wrap64 (4 + (wrap64 (4 * t144)))) (wrap64 (16 + t145))).bind fun t164 => (if t163 = (wrap64 (t164 + (wrap64 (4 + (wrap64 (4 * t144)))))) then ((geom_Blocks.f (wrap64 (1 + t143)) (wrap64 (4 + (wrap64 (4 * t144)))) (wrap64 ((wrap64 (16 + t145)) + 1))).bind fun t165 => ((geom_Blocks.f (wrap64 (1 + t143)) (wrap64 (4 + (wrap64 (4 * t144)))) (wrap64 (16 + t145))).bind fun t166 => (if t165 = (wrap64 (t166 + (wrap64 (1 + t143)))) then ((purlinlaw5_awake.f).bind fun t167 => (some t167)) else (some false)))) else (some false)))) else (some false)) else (some false)) else (some false)) else (some false)) else (some false))) else (some false)))) else (some false))) else (some false))))) = some r := H
  have A10 := Aside0.mk A100
  clear A100
  replace H := Option.bind_eq_some_iff.mp H
  obtain ⟨⟨t155, t156⟩, A110, H⟩ := H
  replace H : ((geom_Sectors.f (wrap64 (1 + t143)) (wrap64 (4 + (wrap64 (4 * t144)))) (wrap64 (16 + t145))).bind fun t157 => ((geom_Sectors.f (wrap64 (1 + t143)) (wrap64 (4 + (wrap64 (4 * t144)))) (wrap64 ((wrap64 (16 + t145)) + 1))).bind fun t158 => (if t158 = (wrap64 (t157 + (wrap64 (1 + t143)))) then ((geom_Sectors.f (wrap64 (1 + t143)) (wrap64 ((wrap64 (4 + (wrap64 (4 * t144)))) + 4)) (wrap64 (16 + t145))).bind fun t159 => (if t159 = (wrap64 (t157 + (wrap64 (1 + t143)))) then ((geom_Sectors.f (wrap64 ((wrap64 (1 + t143)) + 1)) (wrap64 (4 + (wrap64 (4 * t144)))) (wrap64 (16 + t145))).bind fun t160 => ((geom_First.f (wrap64 (1 + t143)) (wrap64 (4 + (wrap64 (4 * t144)))) (wrap64 (16 + t145)) 0).bind fun t161 => (if (wrap64 (t160 - t157)) = (wrap64 ((wrap64 (t161 - 2)) + (wrap64 (16 + t145)))) then ((geom_Group.f (wrap64 ((wrap64 (1 + t143)) + 1)) (wrap64 (4 + (wrap64 (4 * t144)))) (wrap64 (16 + t145)) (wrap64 (1 + t143))).bind fun t162 => (if t162 = t157 then (if t151 = t153 then (if t152 = t154 then (if t151 = t155 then (if t152 = t156 then ((geom_Inodes.f (wrap64 ((wrap64 (1 + t143)) + 1)) (wrap64 (4 + (wrap64 (4 * t144)))) (wrap64 (16 + t145))).bind fun t163 => ((geom_Inodes.f (wrap64 (1 + t143)) (wrap64 (4 + (wrap64 (4 * t144)))) (wrap64 (16 + t145))).bind fun t164 => (if t163 = (wrap64 (t164 + (wrap64 (4 + (wrap64 (4 * t144)))))) then ((geom_Blocks.f (wrap64 (1 + t143)) (wrap64 (4 + (wrap64 (4 * t144)))) (wrap64 ((wrap64 (16 + t145)) + 1))).bind fun t165 => ((geom_Blocks.f (wrap64 (1 + t143)) (wrap64 (4 + (wrap64 (4 * t144)))) (wrap64 (16 + t145))).bind fun t166 => (if t165 = (wrap64 (t166 + (wrap64 (1 + t143)))) then ((purlinlaw5_awake.f).bind fun t167 => (some t167)) else (some false)))) else (some false)))) else (some false)) else (some false)) else (some false)) else (some false)) else (some false))) else (some false)))) else (some false))) else (some false)))) = some r := H
  have A11 := Aside0.mk A110
  clear A110
  replace H := Option.bind_eq_some_iff.mp H
  obtain ⟨t157, A120, H⟩ := H
  replace H : ((geom_Sectors.f (wrap64 (1 + t143)) (wrap64 (4 + (wrap64 (4 * t144)))) (wrap64 ((wrap64 (16 + t145)) + 1))).bind fun t158 => (if t158 = (wrap64 (t157 + (wrap64 (1 + t143)))) then ((geom_Sectors.f (wrap64 (1 + t143)) (wrap64 ((wrap64 (4 + (wrap64 (4 * t144)))) + 4)) (wrap64 (16 + t145))).bind fun t159 => (if t159 = (wrap64 (t157 + (wrap64 (1 + t143)))) then ((geom_Sectors.f (wrap64 ((wrap64 (1 + t143)) + 1)) (wrap64 (4 + (wrap64 (4 * t144)))) (wrap64 (16 + t145))).bind fun t160 => ((geom_First.f (wrap64 (1 + t143)) (wrap64 (4 + (wrap64 (4 * t144)))) (wrap64 (16 + t145)) 0).bind fun t161 => (if (wrap64 (t160 - t157)) = (wrap64 ((wrap64 (t161 - 2)) + (wrap64 (16 + t145)))) then ((geom_Group.f (wrap64 ((wrap64 (1 + t143)) + 1)) (wrap64 (4 + (wrap64 (4 * t144)))) (wrap64 (16 + t145)) (wrap64 (1 + t143))).bind fun t162 => (if t162 = t157 then (if t151 = t153 then (if t152 = t154 then (if t151 = t155 then (if t152 = t156 then ((geom_Inodes.f (wrap64 ((wrap64 (1 + t143)) + 1)) (wrap64 (4 + (wrap64 (4 * t144)))) (wrap64 (16 + t145))).bind fun t163 => ((geom_Inodes.f (wrap64 (1 + t143)) (wrap64 (4 + (wrap64 (4 * t144)))) (wrap64 (16 + t145))).bind fun t164 => (if t163 = (wrap64 (t164 + (wrap64 (4 + (wrap64 (4 * t144)))))) then ((geom_Blocks.f (wrap64 (1 + t143)) (wrap64 (4 + (wrap64 (4 * t144)))) (wrap64 ((wrap64 (16 + t145)) + 1))).bind fun t165 => ((geom_Blocks.f (wrap64 (1 + t143)) (wrap64 (4 + (wrap64 (4 * t144)))) (wrap64 (16 + t145))).bind fun t166 => (if t165 = (wrap64 (t166 + (wrap64 (1 + t143)))) then ((purlinlaw5_awake.f).bind fun t167 => (some t167)) else (some false)))) else (some false)))) else (some false)) else (some false)) else (some false)) else (some false)) else (some false))) else (some false)))) else (some false))) else (some false))) = some r := H
  have A12 := Aside0.mk A120
  clear A120
  replace H := Option.bind_eq_some_iff.mp H
  obtain ⟨t158, A130, H⟩ := H
  replace H : (if t158 = (wrap64 (t157 + (wrap64 (1 + t143)))) then ((geom_Sectors.f (wrap64 (1 + t143)) (wrap64 ((wrap64 (4 + (wrap64 (4 * t144)))) + 4)) (wrap64 (16 + t145))).bind fun t159 => (if t159 = (wrap64 (t157 + (wrap64 (1 + t143)))) then ((geom_Sectors.f (wrap64 ((wrap64 (1 + t143)) + 1)) (wrap64 (4 + (wrap64 (4 * t144)))) (wrap64 (16 + t145))).bind fun t160 => ((geom_First.f (wrap64 (1 + t143)) (wrap64 (4 + (wrap64 (4 * t144)))) (wrap64 (16 + t145)) 0).bind fun t161 => (if (wrap64 (t160 - t157)) = (wrap64 ((wrap64 (t161 - 2)) + (wrap64 (16 + t145)))) then ((geom_Group.f (wrap64 ((wrap64 (1 + t143)) + 1)) (wrap64 (4 + (wrap64 (4 * t144)))) (wrap64 (16 + t145)) (wrap64 (1 + t143))).bind fun t162 => (if t162 = t157 then (if t151 = t153 then (if t152 = t154 then (if t151 = t155 then (if t152 = t156 then ((geom_Inodes.f (wrap64 ((wrap64 (1 + t143)) + 1)) (wrap64 (4 + (wrap64 (4 * t144)))) (wrap64 (16 + t145))).bind fun t163 => ((geom_Inodes.f (wrap64 (1 + t143)) (wrap64 (4 + (wrap64 (4 * t144)))) (wrap64 (16 + t145))).bind fun t164 => (if t163 = (wrap64 (t164 + (wrap64 (4 + (wrap64 (4 * t144)))))) then ((geom_Blocks.f (wrap64 (1 + t143)) (wrap64 (4 + (wrap64 (4 * t144)))) (wrap64 ((wrap64 (16 + t145)) + 1))).bind fun t165 => ((geom_Blocks.f (wrap64 (1 + t143)) (wrap64 (4 + (wrap64 (4 * t144)))) (wrap64 (16 + t145))).bind fun t166 => (if t165 = (wrap64 (t166 + (wrap64 (1 + t143)))) then ((purlinlaw5_awake.f).bind fun t167 => (some t167)) else (some false)))) else (some false)))) else (some false)) else (some false)) else (some false)) else (some false)) else (some false))) else (some false)))) else (some false))) else (some false)) = some r := H
  have A13 := Aside0.mk A130
  clear A130
  by_cases c14 : t158 = (wrap64 (t157 + (wrap64 (1 + t143))))
  · rw [if_pos c14] at H
    have c14b0 : (t158 == (wrap64 (t157 + (wrap64 (1 + t143))))) = true := beq_iff_eq.mpr c14
    have c14b1 : (t158 != (wrap64 (t157 + (wrap64 (1 + t143))))) = false := bne_eq_false_iff_eq.mpr c14
    clear c14
    replace H := Option.bind_eq_some_iff.mp H
    obtain ⟨t159, A150, H⟩ := H
    replace H : (if t159 = (wrap64 (t157 + (wrap64 (1 + t143)))) then ((geom_Sectors.f (wrap64 ((wrap64 (1 + t143)) + 1)) (wrap64 (4 + (wrap64 (4 * t144)))) (wrap64 (16 + t145))).bind fun t160 => ((geom_First.f (wrap64 (1 + t143)) (wrap64 (4 + (wrap64 (4 * t144)))) (wrap64 (16 + t145)) 0).bind fun t161 => (if (wrap64 (t160 - t157)) = (wrap64 ((wrap64 (t161 - 2)) + (wrap64 (16 + t145)))) then ((geom_Group.f (wrap64 ((wrap64 (1 + t143)) + 1)) (wrap64 (4 + (wrap64 (4 * t144)))) (wrap64 (16 + t145)) (wrap64 (1 + t143))).bind fun t162 => (if t162 = t157 then (if t151 = t153 then (if t152 = t154 then (if t151 = t155 then (if t152 = t156 then ((geom_Inodes.f (wrap64 ((wrap64 (1 + t143)) + 1)) (wrap64 (4 + (wrap64 (4 * t144)))) (wrap64 (16 + t145))).bind fun t163 => ((geom_Inodes.f (wrap64 (1 + t143)) (wrap64 (4 + (wrap64 (4 * t144)))) (wrap64 (16 + t145))).bind fun t164 => (if t163 = (wrap64 (t164 + (wrap64 (4 + (wrap64 (4 * t144)))))) then ((geom_Blocks.f (wrap64 (1 + t143)) (wrap64 (4 + (wrap64 (4 * t144)))) (wrap64 ((wrap64 (16 + t145)) + 1))).bind fun t165 => ((geom_Blocks.f (wrap64 (1 + t143)) (wrap64 (4 + (wrap64 (4 * t144)))) (wrap64 (16 + t145))).bind fun t166 => (if t165 = (wrap64 (t166 + (wrap64 (1 + t143)))) then ((purlinlaw5_awake.f).bind fun t167 => (some t167)) else (some false)))) else (some false)))) else (some false)) else (some false)) else (some false)) else (some false)) else (some false))) else (some false)))) else (some false)) = some r := H
    have A15 := Aside0.mk A150
    clear A150
    by_cases c16 : t159 = (wrap64 (t157 + (wrap64 (1 + t143))))
    · rw [if_pos c16] at H
      have c16b0 : (t159 == (wrap64 (t157 + (wrap64 (1 + t143))))) = true := beq_iff_eq.mpr c16
      have c16b1 : (t159 != (wrap64 (t157 + (wrap64 (1 + t143))))) = false := bne_eq_false_iff_eq.mpr c16
      clear c16
      replace H := Option.bind_eq_some_iff.mp H
      obtain ⟨t160, A170, H⟩ := H
      replace H : ((geom_First.f (wrap64 (1 + t143)) (wrap64 (4 + (wrap64 (4 * t144)))) (wrap64 (16 + t145)) 0).bind fun t161 => (if (wrap64 (t160 - t157)) = (wrap64 ((wrap64 (t161 - 2)) + (wrap64 (16 + t145)))) then ((geom_Group.f (wrap64 ((wrap64 (1 + t143)) + 1)) (wrap64 (4 + (wrap64 (4 * t144)))) (wrap64 (16 + t145)) (wrap64 (1 + t143))).bind fun t162 => (if t162 = t157 then (if t151 = t153 then (if t152 = t154 then (if t151 = t155 then (if t152 = t156 then ((geom_Inodes.f (wrap64 ((wrap64 (1 + t143)) + 1)) (wrap64 (4 + (wrap64 (4 * t144)))) (wrap64 (16 + t145))).bind fun t163 => ((geom_Inodes.f (wrap64 (1 + t143)) (wrap64 (4 + (wrap64 (4 * t144)))) (wrap64 (16 + t145))).bind fun t164 => (if t163 = (wrap64 (t164 + (wrap64 (4 + (wrap64 (4 * t144)))))) then ((geom_Blocks.f (wrap64 (1 + t143)) (wrap64 (4 + (wrap64 (4 * t144)))) (wrap64 ((wrap64 (16 + t145)) + 1))).bind fun t165 => ((geom_Blocks.f (wrap64 (1 + t143)) (wrap64 (4 + (wrap64 (4 * t144)))) (wrap64 (16 + t145))).bind fun t166 => (if t165 = (wrap64 (t166 + (wrap64 (1 + t143)))) then ((purlinlaw5_awake.f).bind fun t167 => (some t167)) else (some false)))) else (some false)))) else (some false)) else (some false)) else (some false)) else (some false)) else (some false))) else (some false))) = some r := H
      have A17 := Aside0.mk A170
      clear A170
      replace H := Option.bind_eq_some_iff.mp H
      obtain ⟨t161, A180, H⟩ := H
      replace H : (if (wrap64 (t160 - t157)) = (wrap64 ((wrap64 (t161 - 2)) + (wrap64 (16 + t145)))) then ((geom_Group.f (wrap64 ((wrap64 (1 + t143)) + 1)) (wrap64 (4 + (wrap64 (4 * t144)))) (wrap64 (16 + t145)) (wrap64 (1 + t143))).bind fun t162 => (if t162 = t157 then (if t151 = t153 then (if t152 = t154 then (if t151 = t155 then (if t152 = t156 then ((geom_Inodes.f (wrap64 ((wrap64 (1 + t143)) + 1)) (wrap64 (4 + (wrap64 (4 * t144)))) (wrap64 (16 + t145))).bind fun t163 => ((geom_Inodes.f (wrap64 (1 + t143)) (wrap64 (4 + (wrap64 (4 * t144)))) (wrap64 (16 + t145))).bind fun t164 => (if t163 = (wrap64 (t164 + (wrap64 (4 + (wrap64 (4 * t144)))))) then ((geom_Blocks.f (wrap64 (1 + t143)) (wrap64 (4 + (wrap64 (4 * t144)))) (wrap64 ((wrap64 (16 + t145)) + 1))).bind fun t165 => ((geom_Blocks.f (wrap64 (1 + t143)) (wrap64 (4 + (wrap64 (4 * t144)))) (wrap64 (16 + t145))).bind fun t166 => (if t165 = (wrap64 (t166 + (wrap64 (1 + t143)))) then ((purlinlaw5_awake.f).bind fun t167 => (some t167)) else (some false)))) else (some false)))) else (some false)) else (some false)) else (some false)) else (some false)) else (some false))) else (some false)) = some r := H
      have A18 := Aside0.mk A180
      clear A180
      by_cases c19 : (wrap64 (t160 - t157)) = (wrap64 ((wrap64 (t161 - 2)) + (wrap64 (16 + t145))))
      · rw [if_pos c19] at H
        have c19b0 : ((wrap64 (t160 - t157)) == (wrap64 ((wrap64 (t161 - 2)) + (wrap64 (16 + t145))))) = true := beq_iff_eq.mpr c19
        have c19b1 : ((wrap64 (t160 - t157)) != (wrap64 ((wrap64 (t161 - 2)) + (wrap64 (16 + t145))))) = false := bne_eq_false_iff_eq.mpr c19
        clear c19
        replace H := Option.bind_eq_some_iff.mp H
        obtain ⟨t162, A200, H⟩ := H
        replace H : (if t162 = t157 then (if t151 = t153 then (if t152 = t154 then (if t151 = t155 then (if t152 = t156 then ((geom_Inodes.f (wrap64 ((wrap64 (1 + t143)) + 1)) (wrap64 (4 + (wrap64 (4 * t144)))) (wrap64 (16 + t145))).bind fun t163 => ((geom_Inodes.f (wrap64 (1 + t143)) (wrap64 (4 + (wrap64 (4 * t144)))) (wrap64 (16 + t145))).bind fun t164 => (if t163 = (wrap64 (t164 + (wrap64 (4 + (wrap64 (4 * t144)))))) then ((geom_Blocks.f (wrap64 (1 + t143)) (wrap64 (4 + (wrap64 (4 * t144)))) (wrap64 ((wrap64 (16 + t145)) + 1))).bind fun t165 => ((geom_Blocks.f (wrap64 (1 + t143)) (wrap64 (4 + (wrap64 (4 * t144)))) (wrap64 (16 + t145))).bind fun t166 => (if t165 = (wrap64 (t166 + (wrap64 (1 + t143)))) then ((purlinlaw5_awake.f).bind fun t167 => (some t167)) else (some false)))) else (some false)))) else (some false)) else (some false)) else (some false)) else (some false)) else (some false)) = some r := H
        have A20 := Aside0.mk A200
        clear A200
        by_cases c21 : t162 = t157
        · rw [if_pos c21] at H
          have c21b0 : (t162 == t157) = true := beq_iff_eq.mpr c21
          have c21b1 : (t162 != t157) = false := bne_eq_false_iff_eq.mpr c21
          clear c21
          by_cases c22 : t151 = t153
          · rw [if_pos c22] at H
            have c22b0 : (t151 == t153) = true := beq_iff_eq.mpr c22
            have c22b1 : (t151 != t153) = false := bne_eq_false_iff_eq.mpr c22
            clear c22
            by_cases c23 : t152 = t154
            · rw [if_pos c23] at H
              have c23b0 : (t152 == t154) = true := beq_iff_eq.mpr c23
              have c23b1 : (t152 != t154) = false := bne_eq_false_iff_eq.mpr c23
              clear c23
              by_cases c24 : t151 = t155
              · rw [if_pos c24] at H
                have c24b0 : (t151 == t155) = true := beq_iff_eq.mpr c24
                have c24b1 : (t151 != t155) = false := bne_eq_false_iff_eq.mpr c24
                clear c24
                by_cases c25 : t152 = t156
                · rw [if_pos c25] at H
                  have c25b0 : (t152 == t156) = true := beq_iff_eq.mpr c25
                  have c25b1 : (t152 != t156) = false := bne_eq_false_iff_eq.mpr c25
                  clear c25
                  replace H := Option.bind_eq_some_iff.mp H
                  obtain ⟨t163, A260, H⟩ := H
                  replace H : ((geom_Inodes.f (wrap64 (1 + t143)) (wrap64 (4 + (wrap64 (4 * t144)))) (wrap64 (16 + t145))).bind fun t164 => (if t163 = (wrap64 (t164 + (wrap64 (4 + (wrap64 (4 * t144)))))) then ((geom_Blocks.f (wrap64 (1 + t143)) (wrap64 (4 + (wrap64 (4 * t144)))) (wrap64 ((wrap64 (16 + t145)) + 1))).bind fun t165 => ((geom_Blocks.f (wrap64 (1 + t143)) (wrap64 (4 + (wrap64 (4 * t144)))) (wrap64 (16 + t145))).bind fun t166 => (if t165 = (wrap64 (t166 + (wrap64 (1 + t143)))) then ((purlinlaw5_awake.f).bind fun t167 => (some t167)) else (some false)))) else (some false))) = some r := H
                  have A26 := Aside0.mk A260
                  clear A260
                  replace H := Option.bind_eq_some_iff.mp H
                  obtain ⟨t164, A270, H⟩ := H
                  replace H : (if t163 = (wrap64 (t164 + (wrap64 (4 + (wrap64 (4 * t144)))))) then ((geom_Blocks.f (wrap64 (1 + t143)) (wrap64 (4 + (wrap64 (4 * t144)))) (wrap64 ((wrap64 (16 + t145)) + 1))).bind fun t165 => ((geom_Blocks.f (wrap64 (1 + t143)) (wrap64 (4 + (wrap64 (4 * t144)))) (wrap64 (16 + t145))).bind fun t166 => (if t165 = (wrap64 (t166 + (wrap64 (1 + t143)))) then ((purlinlaw5_awake.f).bind fun t167 => (some t167)) else (some false)))) else (some false)) = some r := H
                  have A27 := Aside0.mk A270
                  clear A270
                  by_cases c28 : t163 = (wrap64 (t164 + (wrap64 (4 + (wrap64 (4 * t144))))))
                  · rw [if_pos c28] at H
                    have c28b0 : (t163 == (wrap64 (t164 + (wrap64 (4 + (wrap64 (4 * t144))))))) = true := beq_iff_eq.mpr c28
                    have c28b1 : (t163 != (wrap64 (t164 + (wrap64 (4 + (wrap64 (4 * t144))))))) = false := bne_eq_false_iff_eq.mpr c28
                    clear c28
                    replace H := Option.bind_eq_some_iff.mp H
                    obtain ⟨t165, A290, H⟩ := H
                    replace H : ((geom_Blocks.f (wrap64 (1 + t143)) (wrap64 (4 + (wrap64 (4 * t144)))) (wrap64 (16 + t145))).bind fun t166 => (if t165 = (wrap64 (t166 + (wrap64 (1 + t143)))) then ((purlinlaw5_awake.f).bind fun t167 => (some t167)) else (some false))) = some r := H
                    have A29 := Aside0.mk A290
                    clear A290
                    replace H := Option.bind_eq_some_iff.mp H
                    obtain ⟨t166, A300, H⟩ := H
                    replace H : (if t165 = (wrap64 (t166 + (wrap64 (1 + t143)))) then ((purlinlaw5_awake.f).bind fun t167 => (some t167)) else (some false)) = some r := H
                    have A30 := Aside0.mk A300
                    clear A300
                    by_cases c31 : t165 = (wrap64 (t166 + (wrap64 (1 + t143))))
                    · rw [if_pos c31] at H
                      have c31b0 : (t165 == (wrap64 (t166 + (wrap64 (1 + t143))))) = true := beq_iff_eq.mpr c31
                      have c31b1 : (t165 != (wrap64 (t166 + (wrap64 (1 + t143))))) = false := bne_eq_false_iff_eq.mpr c31
                      clear c31
                      replace H := Option.bind_eq_some_iff.mp H
                      obtain ⟨t167, A320, H⟩ := H
                      replace H : (some t167) = some r := H
                      have A32 := Aside0.mk A320
                      clear A320
                      obtain rfl := Option.some.inj H
                      go_enter Try.func5, Try.ntmps5
                      try go_wp2_with (first | ((with_reducible refine gate_callee (f := 25) rfl ?_); refine goesL_ (some 21) rfl rfl Try.func25 (by kernel_rfl) rfl #[.int .i64 a0, .int .i64 7] rfl (by (try simp only [List.map_toArray, List.map_cons, List.map_nil]); first | done | rfl | (simp only [List.length_drop, List.length_take]; rfl)) ?_; (with_reducible refine (purlinlaw0_Low.calls a0 7 t143 _ A5.out).mono ?_); rintro e w' ⟨rfl, ⟨nd, rfl⟩⟩; refine ⟨_, rfl, ?_⟩) | ((with_reducible refine gate_callee (f := 25) rfl ?_); refine goesL_ (some 24) rfl rfl Try.func25 (by kernel_rfl) rfl #[.int .i64 a1, .int .i64 7] rfl (by (try simp only [List.map_toArray, List.map_cons, List.map_nil]); first | done | rfl | (simp only [List.length_drop, List.length_take]; rfl)) ?_; (with_reducible refine (purlinlaw0_Low.calls a1 7 t144 _ A6.out).mono ?_); rintro e w' ⟨rfl, ⟨nd, rfl⟩⟩; refine ⟨_, rfl, ?_⟩) | ((with_reducible refine gate_callee (f := 25) rfl ?_); refine goesL_ (some 28) rfl rfl Try.func25 (by kernel_rfl) rfl #[.int .i64 a2, .int .i64 80] rfl (by (try simp only [List.map_toArray, List.map_cons, List.map_nil]); first | done | rfl | (simp only [List.length_drop, List.length_take]; rfl)) ?_; (with_reducible refine (purlinlaw0_Low.calls a2 80 t145 _ A7.out).mono ?_); rintro e w' ⟨rfl, ⟨nd, rfl⟩⟩; refine ⟨_, rfl, ?_⟩) | ((with_reducible refine gate_dst (N := 9) rfl ?_); refine box_event ?hg (N := 9) ?hd (cs := #[.int .i64 0, .int .i64 0, .int .i64 0]) (t := 23) ?hr ?_; (case hd => rfl); (case hg => rfl); (case hr => first | (go_simp; done) | (go_simp; rfl)); intro gb146 hg w33 hbox hb; have n0_ := Aside0.mk (below_step (by repeat (first | (with_reducible first | exact HB.out | apply below_alloc | apply pw_below_drewN | apply below_drew1) | exact HB.out)) hb); have n1_ := Aside0.mk (hbox); have n2_ := Aside0.mk ((by rw [hg]; exact (below_size (by repeat (first | (with_reducible first | exact HB.out | apply below_alloc | apply pw_below_drewN | apply below_drew1) | exact HB.out))) : w.heap.size ≤ gb146)); have n3_ := Aside0.mk ((by rw [hg]; exact (below_size (by repeat (first | (with_reducible first | exact HB.out | apply below_alloc | apply pw_below_drewN | apply below_drew1) | exact HB.out))) : w.heap.size ≤ gb146)); clear HB; have HB := n0_; have BK146 := n1_; have GW146 := n2_; have GE146 := n3_; clear n0_ n1_ n2_ n3_; clear hb hbox hg; have hcz34_0 : w33.cell? ⟨gb146, 0, none⟩ = some (.int .i64 0) := (blk_cell BK146.out 0).trans rfl; have hcz34_1 : w33.cell? ⟨gb146, 1, none⟩ = some (.int .i64 0) := (blk_cell BK146.out 1).trans rfl; have hcz34_2 : w33.cell? ⟨gb146, 2, none⟩ = some (.int .i64 0) := (blk_cell BK146.out 2).trans rfl; have hfz34_0 := blk_frozen BK146.out 0; have hfz34_1 := blk_frozen BK146.out 1; have hfz34_2 := blk_frozen BK146.out 2))
                      have n0_ : Aside0 ((((w33.setCell ⟨gb146, 0, none⟩ (.int .i64 (wrap64 (1 + t143)))).setCell ⟨gb146, 1, none⟩ (.int .i64 (wrap64 (4 + (wrap64 (4 * t144)))))).setCell ⟨gb146, 2, none⟩ (.int .i64 (wrap64 (16 + t145)))).heap[gb146]? = some (.cells #[.int .i64 (wrap64 (1 + t143)), .int .i64 (wrap64 (4 + (wrap64 (4 * t144)))), .int .i64 (wrap64 (16 + t145))] 23 (0, 0))) := ⟨by (with_reducible repeat (first | refine blk_drewN ?_ _ | refine blk_drew ?_ | refine blk_alloc ?_ _)); refine blk_put (cs := #[.int .i64 (wrap64 (1 + t143)), .int .i64 (wrap64 (4 + (wrap64 (4 * t144)))), .int .i64 0]) ?_ 2 _ rfl; (with_reducible repeat (first | refine blk_drewN ?_ _ | refine blk_drew ?_ | refine blk_alloc ?_ _)); refine blk_put (cs := #[.int .i64 (wrap64 (1 + t143)), .int .i64 0, .int .i64 0]) ?_ 1 _ rfl; (with_reducible repeat (first | refine blk_drewN ?_ _ | refine blk_drew ?_ | refine blk_alloc ?_ _)); refine blk_put (cs := #[.int .i64 0, .int .i64 0, .int .i64 0]) ?_ 0 _ rfl; (with_reducible repeat (first | refine blk_drewN ?_ _ | refine blk_drew ?_ | refine blk_alloc ?_ _)); exact BK146.out⟩
                      have n1_ : Aside0 (Below w.heap.size w (((w33.setCell ⟨gb146, 0, none⟩ (.int .i64 (wrap64 (1 + t143)))).setCell ⟨gb146, 1, none⟩ (.int .i64 (wrap64 (4 + (wrap64 (4 * t144)))))).setCell ⟨gb146, 2, none⟩ (.int .i64 (wrap64 (16 + t145))))) := ⟨by repeat (first | (with_reducible first | exact HB.out | apply below_alloc | apply pw_below_drewN | apply below_drew1 | refine below_set ?_ GE146.out) | exact HB.out)⟩
                      (try clear BK146)
                      (try clear HB)
                      generalize (((w33.setCell ⟨gb146, 0, none⟩ (.int .i64 (wrap64 (1 + t143)))).setCell ⟨gb146, 1, none⟩ (.int .i64 (wrap64 (4 + (wrap64 (4 * t144)))))).setCell ⟨gb146, 2, none⟩ (.int .i64 (wrap64 (16 + t145)))) = w35 at n0_ n1_ ⊢
                      have BK146 := n0_
                      have HB := n1_
                      clear n0_ n1_
                      have n0_ := Aside0.mk (blk_drew BK146.out)
                      have n1_ := Aside0.mk (below_drew1 HB.out)
                      clear BK146
                      clear HB
                      have BK146 := n0_
                      have HB := n1_
                      clear n0_ n1_
                      refine start_ (n := 9) (S := fun w' => w'.cell? ⟨gb146, 0, none⟩ = some (.int .i64 (wrap64 (1 + t143))) ∧ w'.cell? ⟨gb146, 1, none⟩ = some (.int .i64 (wrap64 (4 + (wrap64 (4 * t144))))) ∧ w'.cell? ⟨gb146, 2, none⟩ = some (.int .i64 (wrap64 (16 + t145)))) (ds := []) #[false, false, false, false, false, false, false, false, false] (by kernel_rfl) rfl rfl ⟨(blk_cell BK146.out 0).trans rfl, (blk_cell BK146.out 1).trans rfl, (blk_cell BK146.out 2).trans rfl⟩ (fun hHeld => ?_); refine with_tabW purlinlaw5_GeomGrows.tab2 purlinlaw5_GeomGrows.bits2 (fun HT_ HW_ => ?_)
                      generalize w35.drew = w36 at BK146 HB hHeld ⊢
                      refine take_ (i := 0) (N := some 31) (v := ?_) (a' := ?_) #[true, false, false, false, false, false, false, false, false] rfl rfl (take_ofW HT_.out HW_.out (by kernel_rfl)) (fun _ _ _ h => h) (Or.inl ⟨by rfl, ?_⟩) hHeld ?_ ?_
                      rotate_left
                      · rintro w' ⟨s0, s1, s2⟩
                        go_simp
                        with_reducible rfl
                      rotate_left
                      · simp only [Act.put, List.setIfInBounds_toArray, List.set_cons_zero, List.set_cons_succ, i64_w, i32_w]
                        rfl
                      refine take_ (i := 1) (N := some 32) (v := ?_) (a' := ?_) #[true, true, false, false, false, false, false, false, false] rfl rfl (take_ofW HT_.out HW_.out (by kernel_rfl)) (fun _ _ _ h => h) (Or.inl ⟨by rfl, ?_⟩) hHeld ?_ ?_
                      rotate_left
                      · rintro w' ⟨s0, s1, s2⟩
                        go_simp
                        with_reducible rfl
                      rotate_left
                      · simp only [Act.put, List.setIfInBounds_toArray, List.set_cons_zero, List.set_cons_succ, i64_w, i32_w]
                        rfl
                      refine take_ (i := 2) (N := some 33) (v := ?_) (a' := ?_) #[true, true, true, false, false, false, false, false, false] rfl rfl (take_ofW HT_.out HW_.out (by kernel_rfl)) (fun _ _ _ h => h) (Or.inl ⟨by rfl, ?_⟩) hHeld ?_ ?_
                      rotate_left
                      · rintro w' ⟨s0, s1, s2⟩
                        go_simp
                        with_reducible rfl
                      rotate_left
                      · simp only [Act.put, List.setIfInBounds_toArray, List.set_cons_zero, List.set_cons_succ, i64_w, i32_w]
                        rfl
                      refine join_ (σ := Nat × Nat × Nat) 3 #[true, true, true, true, true, true, false, false, false] (fun s_ => [(10, .pointer (some ⟨s_.1, 0, none⟩)), (11, .pointer (some ⟨s_.2.1, 0, none⟩)), (12, .pointer (some ⟨s_.2.2, 0, none⟩))]) (fun s_ w' => (w'.cell? ⟨gb146, 0, none⟩ = some (.int .i64 (wrap64 (1 + t143))) ∧ w'.cell? ⟨gb146, 1, none⟩ = some (.int .i64 (wrap64 (4 + (wrap64 (4 * t144))))) ∧ w'.cell? ⟨gb146, 2, none⟩ = some (.int .i64 (wrap64 (16 + t145)))) ∧ (w'.heap[gb146]? = some (.cells #[.int .i64 (wrap64 (1 + t143)), .int .i64 (wrap64 (4 + (wrap64 (4 * t144)))), .int .i64 (wrap64 (16 + t145))] 23 (0, 0))) ∧ (w'.heap[s_.1]? = some (.cells #[.int .i64 0, .int .i64 0, .int .i64 0] 23 (0, 0))) ∧ (w'.heap[s_.2.1]? = some (.cells #[.int .i64 0, .int .i64 0, .int .i64 0] 23 (0, 0))) ∧ (w'.heap[s_.2.2]? = some (.cells #[.int .i64 0, .int .i64 0, .int .i64 0] 23 (0, 0))) ∧ (w.heap.size ≤ s_.1) ∧ (w.heap.size ≤ s_.1) ∧ (gb146 ≠ s_.1) ∧ (s_.1 ≠ gb146) ∧ (s_.2.1 ≠ s_.1) ∧ (s_.1 ≠ s_.2.1) ∧ (s_.2.2 ≠ s_.1) ∧ (s_.1 ≠ s_.2.2) ∧ (w.heap.size ≤ s_.2.1) ∧ (w.heap.size ≤ s_.2.1) ∧ (gb146 ≠ s_.2.1) ∧ (s_.2.1 ≠ gb146) ∧ (s_.2.2 ≠ s_.2.1) ∧ (s_.2.1 ≠ s_.2.2) ∧ (w.heap.size ≤ s_.2.2) ∧ (w.heap.size ≤ s_.2.2) ∧ (gb146 ≠ s_.2.2) ∧ (s_.2.2 ≠ gb146) ∧ (Below w.heap.size w w')) ?_ ?_
                      rotate_left
                      · intro hJ3_4_5
                        refine join_ (σ := Nat × Nat) 4 #[true, true, true, true, true, false, false, false, false] (fun s_ => [(10, .pointer (some ⟨s_.1, 0, none⟩)), (11, .pointer (some ⟨s_.2, 0, none⟩))]) (fun s_ w' => (w'.cell? ⟨gb146, 0, none⟩ = some (.int .i64 (wrap64 (1 + t143))) ∧ w'.cell? ⟨gb146, 1, none⟩ = some (.int .i64 (wrap64 (4 + (wrap64 (4 * t144))))) ∧ w'.cell? ⟨gb146, 2, none⟩ = some (.int .i64 (wrap64 (16 + t145)))) ∧ (w'.heap[gb146]? = some (.cells #[.int .i64 (wrap64 (1 + t143)), .int .i64 (wrap64 (4 + (wrap64 (4 * t144)))), .int .i64 (wrap64 (16 + t145))] 23 (0, 0))) ∧ (w'.heap[s_.1]? = some (.cells #[.int .i64 0, .int .i64 0, .int .i64 0] 23 (0, 0))) ∧ (w'.heap[s_.2]? = some (.cells #[.int .i64 0, .int .i64 0, .int .i64 0] 23 (0, 0))) ∧ (w.heap.size ≤ s_.1) ∧ (w.heap.size ≤ s_.1) ∧ (gb146 ≠ s_.1) ∧ (s_.1 ≠ gb146) ∧ (s_.2 ≠ s_.1) ∧ (s_.1 ≠ s_.2) ∧ (w.heap.size ≤ s_.2) ∧ (w.heap.size ≤ s_.2) ∧ (gb146 ≠ s_.2) ∧ (s_.2 ≠ gb146) ∧ (Below w.heap.size w w')) ?_ ?_
                        rotate_left
                        · intro hJ3_4
                          refine join_ (σ := Nat × Nat) 4 #[true, true, true, true, false, true, false, false, false] (fun s_ => [(10, .pointer (some ⟨s_.1, 0, none⟩)), (12, .pointer (some ⟨s_.2, 0, none⟩))]) (fun s_ w' => (w'.cell? ⟨gb146, 0, none⟩ = some (.int .i64 (wrap64 (1 + t143))) ∧ w'.cell? ⟨gb146, 1, none⟩ = some (.int .i64 (wrap64 (4 + (wrap64 (4 * t144))))) ∧ w'.cell? ⟨gb146, 2, none⟩ = some (.int .i64 (wrap64 (16 + t145)))) ∧ (w'.heap[gb146]? = some (.cells #[.int .i64 (wrap64 (1 + t143)), .int .i64 (wrap64 (4 + (wrap64 (4 * t144)))), .int .i64 (wrap64 (16 + t145))] 23 (0, 0))) ∧ (w'.heap[s_.1]? = some (.cells #[.int .i64 0, .int .i64 0, .int .i64 0] 23 (0, 0))) ∧ (w'.heap[s_.2]? = some (.cells #[.int .i64 0, .int .i64 0, .int .i64 0] 23 (0, 0))) ∧ (w.heap.size ≤ s_.1) ∧ (w.heap.size ≤ s_.1) ∧ (gb146 ≠ s_.1) ∧ (s_.1 ≠ gb146) ∧ (s_.2 ≠ s_.1) ∧ (s_.1 ≠ s_.2) ∧ (w.heap.size ≤ s_.2) ∧ (w.heap.size ≤ s_.2) ∧ (gb146 ≠ s_.2) ∧ (s_.2 ≠ gb146) ∧ (Below w.heap.size w w')) ?_ ?_
                          rotate_left
                          · intro hJ3_5
                            refine join_ (σ := Nat × Nat) 4 #[true, true, true, false, true, true, false, false, false] (fun s_ => [(11, .pointer (some ⟨s_.1, 0, none⟩)), (12, .pointer (some ⟨s_.2, 0, none⟩))]) (fun s_ w' => (w'.cell? ⟨gb146, 0, none⟩ = some (.int .i64 (wrap64 (1 + t143))) ∧ w'.cell? ⟨gb146, 1, none⟩ = some (.int .i64 (wrap64 (4 + (wrap64 (4 * t144))))) ∧ w'.cell? ⟨gb146, 2, none⟩ = some (.int .i64 (wrap64 (16 + t145)))) ∧ (w'.heap[gb146]? = some (.cells #[.int .i64 (wrap64 (1 + t143)), .int .i64 (wrap64 (4 + (wrap64 (4 * t144)))), .int .i64 (wrap64 (16 + t145))] 23 (0, 0))) ∧ (w'.heap[s_.1]? = some (.cells #[.int .i64 0, .int .i64 0, .int .i64 0] 23 (0, 0))) ∧ (w'.heap[s_.2]? = some (.cells #[.int .i64 0, .int .i64 0, .int .i64 0] 23 (0, 0))) ∧ (w.heap.size ≤ s_.1) ∧ (w.heap.size ≤ s_.1) ∧ (gb146 ≠ s_.1) ∧ (s_.1 ≠ gb146) ∧ (s_.2 ≠ s_.1) ∧ (s_.1 ≠ s_.2) ∧ (w.heap.size ≤ s_.2) ∧ (w.heap.size ≤ s_.2) ∧ (gb146 ≠ s_.2) ∧ (s_.2 ≠ gb146) ∧ (Below w.heap.size w w')) ?_ ?_
                            rotate_left
                            · intro hJ4_5
                              refine join_ (σ := Nat) 5 #[true, true, true, true, false, false, false, false, false] (fun s_ => [(10, .pointer (some ⟨s_, 0, none⟩))]) (fun s_ w' => (w'.cell? ⟨gb146, 0, none⟩ = some (.int .i64 (wrap64 (1 + t143))) ∧ w'.cell? ⟨gb146, 1, none⟩ = some (.int .i64 (wrap64 (4 + (wrap64 (4 * t144))))) ∧ w'.cell? ⟨gb146, 2, none⟩ = some (.int .i64 (wrap64 (16 + t145)))) ∧ (w'.heap[gb146]? = some (.cells #[.int .i64 (wrap64 (1 + t143)), .int .i64 (wrap64 (4 + (wrap64 (4 * t144)))), .int .i64 (wrap64 (16 + t145))] 23 (0, 0))) ∧ (w'.heap[s_]? = some (.cells #[.int .i64 0, .int .i64 0, .int .i64 0] 23 (0, 0))) ∧ (w.heap.size ≤ s_) ∧ (w.heap.size ≤ s_) ∧ (gb146 ≠ s_) ∧ (s_ ≠ gb146) ∧ (Below w.heap.size w w')) ?_ ?_
                              rotate_left
                              · intro hJ3
                                refine join_ (σ := Nat) 5 #[true, true, true, false, true, false, false, false, false] (fun s_ => [(11, .pointer (some ⟨s_, 0, none⟩))]) (fun s_ w' => (w'.cell? ⟨gb146, 0, none⟩ = some (.int .i64 (wrap64 (1 + t143))) ∧ w'.cell? ⟨gb146, 1, none⟩ = some (.int .i64 (wrap64 (4 + (wrap64 (4 * t144))))) ∧ w'.cell? ⟨gb146, 2, none⟩ = some (.int .i64 (wrap64 (16 + t145)))) ∧ (w'.heap[gb146]? = some (.cells #[.int .i64 (wrap64 (1 + t143)), .int .i64 (wrap64 (4 + (wrap64 (4 * t144)))), .int .i64 (wrap64 (16 + t145))] 23 (0, 0))) ∧ (w'.heap[s_]? = some (.cells #[.int .i64 0, .int .i64 0, .int .i64 0] 23 (0, 0))) ∧ (w.heap.size ≤ s_) ∧ (w.heap.size ≤ s_) ∧ (gb146 ≠ s_) ∧ (s_ ≠ gb146) ∧ (Below w.heap.size w w')) ?_ ?_
                                rotate_left
                                · intro hJ4
                                  refine join_ (σ := Nat) 5 #[true, true, true, false, false, true, false, false, false] (fun s_ => [(12, .pointer (some ⟨s_, 0, none⟩))]) (fun s_ w' => (w'.cell? ⟨gb146, 0, none⟩ = some (.int .i64 (wrap64 (1 + t143))) ∧ w'.cell? ⟨gb146, 1, none⟩ = some (.int .i64 (wrap64 (4 + (wrap64 (4 * t144))))) ∧ w'.cell? ⟨gb146, 2, none⟩ = some (.int .i64 (wrap64 (16 + t145)))) ∧ (w'.heap[gb146]? = some (.cells #[.int .i64 (wrap64 (1 + t143)), .int .i64 (wrap64 (4 + (wrap64 (4 * t144)))), .int .i64 (wrap64 (16 + t145))] 23 (0, 0))) ∧ (w'.heap[s_]? = some (.cells #[.int .i64 0, .int .i64 0, .int .i64 0] 23 (0, 0))) ∧ (w.heap.size ≤ s_) ∧ (w.heap.size ≤ s_) ∧ (gb146 ≠ s_) ∧ (s_ ≠ gb146) ∧ (Below w.heap.size w w')) ?_ ?_
                                  rotate_left
                                  · intro hJ5
                                    refine three_ (i := 3) (j := 4) (k := 5) (Ni := some 10) (Nj := some 11) (Nk := some 12) #[true, true, true, true, false, false, false, false, false] #[true, true, true, false, true, false, false, false, false] #[true, true, true, false, false, true, false, false, false] rfl rfl rfl rfl rfl rfl (three_of HT_.out (by kernel_rfl)) (by decide) (by decide) (by decide) (fun K hK => ?_) (fun K hK => ?_) (fun K hK => ?_)
                                    · skip
                                      refine box_step ?hg (N := 10) ?hd (cs := #[.int .i64 0, .int .i64 0, .int .i64 0]) (t := 23) ?hr ?_; (case hd => rfl); (case hg => rfl); (case hr => first | (go_simp; done) | (go_simp; rfl))
                                      intro gb147 hg w37 hbox hb
                                      have n0_ := Aside0.mk (blk_below (g := gb146) (o := .cells #[.int .i64 (wrap64 (1 + t143)), .int .i64 (wrap64 (4 + (wrap64 (4 * t144)))), .int .i64 (wrap64 (16 + t145))] 23 (0, 0)) (by (with_reducible repeat (first | refine blk_drewN ?_ _ | refine blk_drew ?_ | refine blk_alloc ?_ _)); exact BK146.out) hb)
                                      have n1_ := Aside0.mk (below_step (by repeat (first | (with_reducible first | exact HB.out | apply below_alloc | apply pw_below_drewN | apply below_drew1 | refine below_set ?_ GE146.out) | exact HB.out)) hb)
                                      have n2_ := Aside0.mk (hbox)
                                      have n3_ := Aside0.mk ((by rw [hg]; exact (below_size (by repeat (first | (with_reducible first | exact HB.out | apply below_alloc | apply pw_below_drewN | apply below_drew1 | refine below_set ?_ GE146.out) | exact HB.out))) : w.heap.size ≤ gb147))
                                      have n4_ := Aside0.mk ((by rw [hg]; exact (below_size (by repeat (first | (with_reducible first | exact HB.out | apply below_alloc | apply pw_below_drewN | apply below_drew1 | refine below_set ?_ GE146.out) | exact HB.out))) : w.heap.size ≤ gb147))
                                      have n5_ := Aside0.mk ((by rw [hg]; exact Nat.ne_of_lt (blk_lt (g := gb146) (o := .cells #[.int .i64 (wrap64 (1 + t143)), .int .i64 (wrap64 (4 + (wrap64 (4 * t144)))), .int .i64 (wrap64 (16 + t145))] 23 (0, 0)) (by (with_reducible repeat (first | refine blk_drewN ?_ _ | refine blk_drew ?_ | refine blk_alloc ?_ _)); exact BK146.out)) : gb146 ≠ gb147))
                                      have n6_ := Aside0.mk ((by rw [hg]; exact Nat.ne_of_gt (blk_lt (g := gb146) (o := .cells #[.int .i64 (wrap64 (1 + t143)), .int .i64 (wrap64 (4 + (wrap64 (4 * t144)))), .int .i64 (wrap64 (16 + t145))] 23 (0, 0)) (by (with_reducible repeat (first | refine blk_drewN ?_ _ | refine blk_drew ?_ | refine blk_alloc ?_ _)); exact BK146.out)) : gb147 ≠ gb146))
                                      clear BK146
                                      clear HB
                                      have BK146 := n0_
                                      have HB := n1_
                                      have BK147 := n2_
                                      have GW147 := n3_
                                      have GE147 := n4_
                                      have NB146_147 := n5_
                                      have NB147_146 := n6_
                                      clear n0_ n1_ n2_ n3_ n4_ n5_ n6_
                                      clear hb hbox hg
                                      refine hK.out _ _ ⟨(blk_cell BK146.out 0).trans rfl, (blk_cell BK146.out 1).trans rfl, (blk_cell BK146.out 2).trans rfl⟩ (fun hHeld => ?_)
                                      clear hK K
                                      refine norm_ (a' := ?_) ?_ ?_
                                      rotate_left
                                      · show Act.put _ (some 10) _ = _
                                        simp only [Act.put, List.setIfInBounds_toArray, List.set_cons_zero, List.set_cons_succ, i64_w, i32_w]
                                        rfl
                                      exact norm_ (by first | (simp only [putAll, Act.put, List.setIfInBounds_toArray, List.set_cons_zero, List.set_cons_succ]; done) | (simp only [putAll, Act.put, List.setIfInBounds_toArray, List.set_cons_zero, List.set_cons_succ]; rfl)) (hJ3 (gb147) _ ⟨hHeld, (by (with_reducible repeat (first | refine blk_drewN ?_ _ | refine blk_drew ?_ | refine blk_alloc ?_ _)); exact BK146.out), (by (with_reducible repeat (first | refine blk_drewN ?_ _ | refine blk_drew ?_ | refine blk_alloc ?_ _)); exact BK147.out), GW147.out, GE147.out, NB146_147.out, NB147_146.out, (by repeat (first | (with_reducible first | exact HB.out | apply below_alloc | apply pw_below_drewN | apply below_drew1 | refine below_set ?_ GE146.out | refine below_set ?_ GE147.out) | exact HB.out))⟩)
                                    · skip
                                      refine box_step ?hg (N := 11) ?hd (cs := #[.int .i64 0, .int .i64 0, .int .i64 0]) (t := 23) ?hr ?_; (case hd => rfl); (case hg => rfl); (case hr => first | (go_simp; done) | (go_simp; rfl))
                                      intro gb148 hg w37 hbox hb
                                      have n0_ := Aside0.mk (blk_below (g := gb146) (o := .cells #[.int .i64 (wrap64 (1 + t143)), .int .i64 (wrap64 (4 + (wrap64 (4 * t144)))), .int .i64 (wrap64 (16 + t145))] 23 (0, 0)) (by (with_reducible repeat (first | refine blk_drewN ?_ _ | refine blk_drew ?_ | refine blk_alloc ?_ _)); exact BK146.out) hb)
                                      have n1_ := Aside0.mk (below_step (by repeat (first | (with_reducible first | exact HB.out | apply below_alloc | apply pw_below_drewN | apply below_drew1 | refine below_set ?_ GE146.out) | exact HB.out)) hb)
                                      have n2_ := Aside0.mk (hbox)
                                      have n3_ := Aside0.mk ((by rw [hg]; exact (below_size (by repeat (first | (with_reducible first | exact HB.out | apply below_alloc | apply pw_below_drewN | apply below_drew1 | refine below_set ?_ GE146.out) | exact HB.out))) : w.heap.size ≤ gb148))
                                      have n4_ := Aside0.mk ((by rw [hg]; exact (below_size (by repeat (first | (with_reducible first | exact HB.out | apply below_alloc | apply pw_below_drewN | apply below_drew1 | refine below_set ?_ GE146.out) | exact HB.out))) : w.heap.size ≤ gb148))
                                      have n5_ := Aside0.mk ((by rw [hg]; exact Nat.ne_of_lt (blk_lt (g := gb146) (o := .cells #[.int .i64 (wrap64 (1 + t143)), .int .i64 (wrap64 (4 + (wrap64 (4 * t144)))), .int .i64 (wrap64 (16 + t145))] 23 (0, 0)) (by (with_reducible repeat (first | refine blk_drewN ?_ _ | refine blk_drew ?_ | refine blk_alloc ?_ _)); exact BK146.out)) : gb146 ≠ gb148))
                                      have n6_ := Aside0.mk ((by rw [hg]; exact Nat.ne_of_gt (blk_lt (g := gb146) (o := .cells #[.int .i64 (wrap64 (1 + t143)), .int .i64 (wrap64 (4 + (wrap64 (4 * t144)))), .int .i64 (wrap64 (16 + t145))] 23 (0, 0)) (by (with_reducible repeat (first | refine blk_drewN ?_ _ | refine blk_drew ?_ | refine blk_alloc ?_ _)); exact BK146.out)) : gb148 ≠ gb146))
                                      clear BK146
                                      clear HB
                                      have BK146 := n0_
                                      have HB := n1_
                                      have BK148 := n2_
                                      have GW148 := n3_
                                      have GE148 := n4_
                                      have NB146_148 := n5_
                                      have NB148_146 := n6_
                                      clear n0_ n1_ n2_ n3_ n4_ n5_ n6_
                                      clear hb hbox hg
                                      refine hK.out _ _ ⟨(blk_cell BK146.out 0).trans rfl, (blk_cell BK146.out 1).trans rfl, (blk_cell BK146.out 2).trans rfl⟩ (fun hHeld => ?_)
                                      clear hK K
                                      refine norm_ (a' := ?_) ?_ ?_
                                      rotate_left
                                      · show Act.put _ (some 11) _ = _
                                        simp only [Act.put, List.setIfInBounds_toArray, List.set_cons_zero, List.set_cons_succ, i64_w, i32_w]
                                        rfl
                                      exact norm_ (by first | (simp only [putAll, Act.put, List.setIfInBounds_toArray, List.set_cons_zero, List.set_cons_succ]; done) | (simp only [putAll, Act.put, List.setIfInBounds_toArray, List.set_cons_zero, List.set_cons_succ]; rfl)) (hJ4 (gb148) _ ⟨hHeld, (by (with_reducible repeat (first | refine blk_drewN ?_ _ | refine blk_drew ?_ | refine blk_alloc ?_ _)); exact BK146.out), (by (with_reducible repeat (first | refine blk_drewN ?_ _ | refine blk_drew ?_ | refine blk_alloc ?_ _)); exact BK148.out), GW148.out, GE148.out, NB146_148.out, NB148_146.out, (by repeat (first | (with_reducible first | exact HB.out | apply below_alloc | apply pw_below_drewN | apply below_drew1 | refine below_set ?_ GE146.out | refine below_set ?_ GE148.out) | exact HB.out))⟩)
                                    · skip
                                      refine box_step ?hg (N := 12) ?hd (cs := #[.int .i64 0, .int .i64 0, .int .i64 0]) (t := 23) ?hr ?_; (case hd => rfl); (case hg => rfl); (case hr => first | (go_simp; done) | (go_simp; rfl))
                                      intro gb149 hg w37 hbox hb
                                      have n0_ := Aside0.mk (blk_below (g := gb146) (o := .cells #[.int .i64 (wrap64 (1 + t143)), .int .i64 (wrap64 (4 + (wrap64 (4 * t144)))), .int .i64 (wrap64 (16 + t145))] 23 (0, 0)) (by (with_reducible repeat (first | refine blk_drewN ?_ _ | refine blk_drew ?_ | refine blk_alloc ?_ _)); exact BK146.out) hb)
                                      have n1_ := Aside0.mk (below_step (by repeat (first | (with_reducible first | exact HB.out | apply below_alloc | apply pw_below_drewN | apply below_drew1 | refine below_set ?_ GE146.out) | exact HB.out)) hb)
                                      have n2_ := Aside0.mk (hbox)
                                      have n3_ := Aside0.mk ((by rw [hg]; exact (below_size (by repeat (first | (with_reducible first | exact HB.out | apply below_alloc | apply pw_below_drewN | apply below_drew1 | refine below_set ?_ GE146.out) | exact HB.out))) : w.heap.size ≤ gb149))
                                      have n4_ := Aside0.mk ((by rw [hg]; exact (below_size (by repeat (first | (with_reducible first | exact HB.out | apply below_alloc | apply pw_below_drewN | apply below_drew1 | refine below_set ?_ GE146.out) | exact HB.out))) : w.heap.size ≤ gb149))
                                      have n5_ := Aside0.mk ((by rw [hg]; exact Nat.ne_of_lt (blk_lt (g := gb146) (o := .cells #[.int .i64 (wrap64 (1 + t143)), .int .i64 (wrap64 (4 + (wrap64 (4 * t144)))), .int .i64 (wrap64 (16 + t145))] 23 (0, 0)) (by (with_reducible repeat (first | refine blk_drewN ?_ _ | refine blk_drew ?_ | refine blk_alloc ?_ _)); exact BK146.out)) : gb146 ≠ gb149))
                                      have n6_ := Aside0.mk ((by rw [hg]; exact Nat.ne_of_gt (blk_lt (g := gb146) (o := .cells #[.int .i64 (wrap64 (1 + t143)), .int .i64 (wrap64 (4 + (wrap64 (4 * t144)))), .int .i64 (wrap64 (16 + t145))] 23 (0, 0)) (by (with_reducible repeat (first | refine blk_drewN ?_ _ | refine blk_drew ?_ | refine blk_alloc ?_ _)); exact BK146.out)) : gb149 ≠ gb146))
                                      clear BK146
                                      clear HB
                                      have BK146 := n0_
                                      have HB := n1_
                                      have BK149 := n2_
                                      have GW149 := n3_
                                      have GE149 := n4_
                                      have NB146_149 := n5_
                                      have NB149_146 := n6_
                                      clear n0_ n1_ n2_ n3_ n4_ n5_ n6_
                                      clear hb hbox hg
                                      refine hK.out _ _ ⟨(blk_cell BK146.out 0).trans rfl, (blk_cell BK146.out 1).trans rfl, (blk_cell BK146.out 2).trans rfl⟩ (fun hHeld => ?_)
                                      clear hK K
                                      refine norm_ (a' := ?_) ?_ ?_
                                      rotate_left
                                      · show Act.put _ (some 12) _ = _
                                        simp only [Act.put, List.setIfInBounds_toArray, List.set_cons_zero, List.set_cons_succ, i64_w, i32_w]
                                        rfl
                                      exact norm_ (by first | (simp only [putAll, Act.put, List.setIfInBounds_toArray, List.set_cons_zero, List.set_cons_succ]; done) | (simp only [putAll, Act.put, List.setIfInBounds_toArray, List.set_cons_zero, List.set_cons_succ]; rfl)) (hJ5 (gb149) _ ⟨hHeld, (by (with_reducible repeat (first | refine blk_drewN ?_ _ | refine blk_drew ?_ | refine blk_alloc ?_ _)); exact BK146.out), (by (with_reducible repeat (first | refine blk_drewN ?_ _ | refine blk_drew ?_ | refine blk_alloc ?_ _)); exact BK149.out), GW149.out, GE149.out, NB146_149.out, NB149_146.out, (by repeat (first | (with_reducible first | exact HB.out | apply below_alloc | apply pw_below_drewN | apply below_drew1 | refine below_set ?_ GE146.out | refine below_set ?_ GE149.out) | exact HB.out))⟩)
                                  · skip
                                    rintro gb149 w38 ⟨hS_, h0_, h1_, h2_, h3_, h4_, h5_, h6_⟩
                                    have n0_ : Aside0 (w38.heap[gb146]? = some (.cells #[.int .i64 (wrap64 (1 + t143)), .int .i64 (wrap64 (4 + (wrap64 (4 * t144)))), .int .i64 (wrap64 (16 + t145))] 23 (0, 0))) := ⟨h0_⟩
                                    have n1_ : Aside0 (w38.heap[gb149]? = some (.cells #[.int .i64 0, .int .i64 0, .int .i64 0] 23 (0, 0))) := ⟨h1_⟩
                                    have n2_ : Aside0 (w.heap.size ≤ gb149) := ⟨h2_⟩
                                    have n3_ : Aside0 (w.heap.size ≤ gb149) := ⟨h3_⟩
                                    have n4_ : Aside0 (gb146 ≠ gb149) := ⟨h4_⟩
                                    have n5_ : Aside0 (gb149 ≠ gb146) := ⟨h5_⟩
                                    have n6_ : Aside0 (Below w.heap.size w w38) := ⟨h6_⟩
                                    clear BK146
                                    clear HB
                                    clear h0_ h1_ h2_ h3_ h4_ h5_ h6_
                                    have BK146 := n0_
                                    have BK149 := n1_
                                    have GW149 := n2_
                                    have GE149 := n3_
                                    have NB146_149 := n4_
                                    have NB149_146 := n5_
                                    have HB := n6_
                                    clear n0_ n1_ n2_ n3_ n4_ n5_ n6_
                                    have hHeld : w38.cell? ⟨gb146, 0, none⟩ = some (.int .i64 (wrap64 (1 + t143))) ∧ w38.cell? ⟨gb146, 1, none⟩ = some (.int .i64 (wrap64 (4 + (wrap64 (4 * t144))))) ∧ w38.cell? ⟨gb146, 2, none⟩ = some (.int .i64 (wrap64 (16 + t145))) := hS_
                                    refine norm_ (a' := ?_) ?_ ?_
                                    rotate_left
                                    · simp only [putAll, Act.put, List.setIfInBounds_toArray, List.set_cons_zero, List.set_cons_succ]
                                      rfl
                                    refine two_ (i := 3) (j := 4) (Ni := some 10) (Nj := some 11) #[true, true, true, true, false, true, false, false, false] #[true, true, true, false, true, true, false, false, false] rfl rfl rfl rfl (two_of HT_.out (by kernel_rfl)) (by decide) (by decide) (fun K hK => ?_) (fun K hK => ?_)
                                    · skip
                                      refine box_step ?hg (N := 10) ?hd (cs := #[.int .i64 0, .int .i64 0, .int .i64 0]) (t := 23) ?hr ?_; (case hd => rfl); (case hg => rfl); (case hr => first | (go_simp; done) | (go_simp; rfl))
                                      intro gb147 hg w39 hbox hb
                                      have n0_ := Aside0.mk (blk_below (g := gb146) (o := .cells #[.int .i64 (wrap64 (1 + t143)), .int .i64 (wrap64 (4 + (wrap64 (4 * t144)))), .int .i64 (wrap64 (16 + t145))] 23 (0, 0)) (by (with_reducible repeat (first | refine blk_drewN ?_ _ | refine blk_drew ?_ | refine blk_alloc ?_ _)); exact BK146.out) hb)
                                      have n1_ := Aside0.mk (blk_below (g := gb149) (o := .cells #[.int .i64 0, .int .i64 0, .int .i64 0] 23 (0, 0)) (by (with_reducible repeat (first | refine blk_drewN ?_ _ | refine blk_drew ?_ | refine blk_alloc ?_ _)); exact BK149.out) hb)
                                      have n2_ := Aside0.mk (below_step (by repeat (first | (with_reducible first | exact HB.out | apply below_alloc | apply pw_below_drewN | apply below_drew1 | refine below_set ?_ GE146.out | refine below_set ?_ GE149.out) | exact HB.out)) hb)
                                      have n3_ := Aside0.mk (hbox)
                                      have n4_ := Aside0.mk ((by rw [hg]; exact (below_size (by repeat (first | (with_reducible first | exact HB.out | apply below_alloc | apply pw_below_drewN | apply below_drew1 | refine below_set ?_ GE146.out | refine below_set ?_ GE149.out) | exact HB.out))) : w.heap.size ≤ gb147))
                                      have n5_ := Aside0.mk ((by rw [hg]; exact (below_size (by repeat (first | (with_reducible first | exact HB.out | apply below_alloc | apply pw_below_drewN | apply below_drew1 | refine below_set ?_ GE146.out | refine below_set ?_ GE149.out) | exact HB.out))) : w.heap.size ≤ gb147))
                                      have n6_ := Aside0.mk ((by rw [hg]; exact Nat.ne_of_lt (blk_lt (g := gb146) (o := .cells #[.int .i64 (wrap64 (1 + t143)), .int .i64 (wrap64 (4 + (wrap64 (4 * t144)))), .int .i64 (wrap64 (16 + t145))] 23 (0, 0)) (by (with_reducible repeat (first | refine blk_drewN ?_ _ | refine blk_drew ?_ | refine blk_alloc ?_ _)); exact BK146.out)) : gb146 ≠ gb147))
                                      have n7_ := Aside0.mk ((by rw [hg]; exact Nat.ne_of_gt (blk_lt (g := gb146) (o := .cells #[.int .i64 (wrap64 (1 + t143)), .int .i64 (wrap64 (4 + (wrap64 (4 * t144)))), .int .i64 (wrap64 (16 + t145))] 23 (0, 0)) (by (with_reducible repeat (first | refine blk_drewN ?_ _ | refine blk_drew ?_ | refine blk_alloc ?_ _)); exact BK146.out)) : gb147 ≠ gb146))
                                      have n8_ := Aside0.mk ((by rw [hg]; exact Nat.ne_of_lt (blk_lt (g := gb149) (o := .cells #[.int .i64 0, .int .i64 0, .int .i64 0] 23 (0, 0)) (by (with_reducible repeat (first | refine blk_drewN ?_ _ | refine blk_drew ?_ | refine blk_alloc ?_ _)); exact BK149.out)) : gb149 ≠ gb147))
                                      have n9_ := Aside0.mk ((by rw [hg]; exact Nat.ne_of_gt (blk_lt (g := gb149) (o := .cells #[.int .i64 0, .int .i64 0, .int .i64 0] 23 (0, 0)) (by (with_reducible repeat (first | refine blk_drewN ?_ _ | refine blk_drew ?_ | refine blk_alloc ?_ _)); exact BK149.out)) : gb147 ≠ gb149))
                                      clear BK146
                                      clear BK149
                                      clear HB
                                      have BK146 := n0_
                                      have BK149 := n1_
                                      have HB := n2_
                                      have BK147 := n3_
                                      have GW147 := n4_
                                      have GE147 := n5_
                                      have NB146_147 := n6_
                                      have NB147_146 := n7_
                                      have NB149_147 := n8_
                                      have NB147_149 := n9_
                                      clear n0_ n1_ n2_ n3_ n4_ n5_ n6_ n7_ n8_ n9_
                                      clear hb hbox hg
                                      refine hK.out _ _ ⟨(blk_cell BK146.out 0).trans rfl, (blk_cell BK146.out 1).trans rfl, (blk_cell BK146.out 2).trans rfl⟩ (fun hHeld => ?_)
                                      clear hK K
                                      refine norm_ (a' := ?_) ?_ ?_
                                      rotate_left
                                      · show Act.put _ (some 10) _ = _
                                        simp only [Act.put, List.setIfInBounds_toArray, List.set_cons_zero, List.set_cons_succ, i64_w, i32_w]
                                        rfl
                                      exact norm_ (by first | (simp only [putAll, Act.put, List.setIfInBounds_toArray, List.set_cons_zero, List.set_cons_succ]; done) | (simp only [putAll, Act.put, List.setIfInBounds_toArray, List.set_cons_zero, List.set_cons_succ]; rfl)) (hJ3_5 (gb147, gb149) _ ⟨hHeld, (by (with_reducible repeat (first | refine blk_drewN ?_ _ | refine blk_drew ?_ | refine blk_alloc ?_ _)); exact BK146.out), (by (with_reducible repeat (first | refine blk_drewN ?_ _ | refine blk_drew ?_ | refine blk_alloc ?_ _)); exact BK147.out), (by (with_reducible repeat (first | refine blk_drewN ?_ _ | refine blk_drew ?_ | refine blk_alloc ?_ _)); exact BK149.out), GW147.out, GE147.out, NB146_147.out, NB147_146.out, NB149_147.out, NB147_149.out, GW149.out, GE149.out, NB146_149.out, NB149_146.out, (by repeat (first | (with_reducible first | exact HB.out | apply below_alloc | apply pw_below_drewN | apply below_drew1 | refine below_set ?_ GE146.out | refine below_set ?_ GE149.out | refine below_set ?_ GE147.out) | exact HB.out))⟩)
                                    · skip
                                      refine box_step ?hg (N := 11) ?hd (cs := #[.int .i64 0, .int .i64 0, .int .i64 0]) (t := 23) ?hr ?_; (case hd => rfl); (case hg => rfl); (case hr => first | (go_simp; done) | (go_simp; rfl))
                                      intro gb148 hg w39 hbox hb
                                      have n0_ := Aside0.mk (blk_below (g := gb146) (o := .cells #[.int .i64 (wrap64 (1 + t143)), .int .i64 (wrap64 (4 + (wrap64 (4 * t144)))), .int .i64 (wrap64 (16 + t145))] 23 (0, 0)) (by (with_reducible repeat (first | refine blk_drewN ?_ _ | refine blk_drew ?_ | refine blk_alloc ?_ _)); exact BK146.out) hb)
                                      have n1_ := Aside0.mk (blk_below (g := gb149) (o := .cells #[.int .i64 0, .int .i64 0, .int .i64 0] 23 (0, 0)) (by (with_reducible repeat (first | refine blk_drewN ?_ _ | refine blk_drew ?_ | refine blk_alloc ?_ _)); exact BK149.out) hb)
                                      have n2_ := Aside0.mk (below_step (by repeat (first | (with_reducible first | exact HB.out | apply below_alloc | apply pw_below_drewN | apply below_drew1 | refine below_set ?_ GE146.out | refine below_set ?_ GE149.out) | exact HB.out)) hb)
                                      have n3_ := Aside0.mk (hbox)
                                      have n4_ := Aside0.mk ((by rw [hg]; exact (below_size (by repeat (first | (with_reducible first | exact HB.out | apply below_alloc | apply pw_below_drewN | apply below_drew1 | refine below_set ?_ GE146.out | refine below_set ?_ GE149.out) | exact HB.out))) : w.heap.size ≤ gb148))
                                      have n5_ := Aside0.mk ((by rw [hg]; exact (below_size (by repeat (first | (with_reducible first | exact HB.out | apply below_alloc | apply pw_below_drewN | apply below_drew1 | refine below_set ?_ GE146.out | refine below_set ?_ GE149.out) | exact HB.out))) : w.heap.size ≤ gb148))
                                      have n6_ := Aside0.mk ((by rw [hg]; exact Nat.ne_of_lt (blk_lt (g := gb146) (o := .cells #[.int .i64 (wrap64 (1 + t143)), .int .i64 (wrap64 (4 + (wrap64 (4 * t144)))), .int .i64 (wrap64 (16 + t145))] 23 (0, 0)) (by (with_reducible repeat (first | refine blk_drewN ?_ _ | refine blk_drew ?_ | refine blk_alloc ?_ _)); exact BK146.out)) : gb146 ≠ gb148))
                                      have n7_ := Aside0.mk ((by rw [hg]; exact Nat.ne_of_gt (blk_lt (g := gb146) (o := .cells #[.int .i64 (wrap64 (1 + t143)), .int .i64 (wrap64 (4 + (wrap64 (4 * t144)))), .int .i64 (wrap64 (16 + t145))] 23 (0, 0)) (by (with_reducible repeat (first | refine blk_drewN ?_ _ | refine blk_drew ?_ | refine blk_alloc ?_ _)); exact BK146.out)) : gb148 ≠ gb146))
                                      have n8_ := Aside0.mk ((by rw [hg]; exact Nat.ne_of_lt (blk_lt (g := gb149) (o := .cells #[.int .i64 0, .int .i64 0, .int .i64 0] 23 (0, 0)) (by (with_reducible repeat (first | refine blk_drewN ?_ _ | refine blk_drew ?_ | refine blk_alloc ?_ _)); exact BK149.out)) : gb149 ≠ gb148))
                                      have n9_ := Aside0.mk ((by rw [hg]; exact Nat.ne_of_gt (blk_lt (g := gb149) (o := .cells #[.int .i64 0, .int .i64 0, .int .i64 0] 23 (0, 0)) (by (with_reducible repeat (first | refine blk_drewN ?_ _ | refine blk_drew ?_ | refine blk_alloc ?_ _)); exact BK149.out)) : gb148 ≠ gb149))
                                      clear BK146
                                      clear BK149
                                      clear HB
                                      have BK146 := n0_
                                      have BK149 := n1_
                                      have HB := n2_
                                      have BK148 := n3_
                                      have GW148 := n4_
                                      have GE148 := n5_
                                      have NB146_148 := n6_
                                      have NB148_146 := n7_
                                      have NB149_148 := n8_
                                      have NB148_149 := n9_
                                      clear n0_ n1_ n2_ n3_ n4_ n5_ n6_ n7_ n8_ n9_
                                      clear hb hbox hg
                                      refine hK.out _ _ ⟨(blk_cell BK146.out 0).trans rfl, (blk_cell BK146.out 1).trans rfl, (blk_cell BK146.out 2).trans rfl⟩ (fun hHeld => ?_)
                                      clear hK K
                                      refine norm_ (a' := ?_) ?_ ?_
                                      rotate_left
                                      · show Act.put _ (some 11) _ = _
                                        simp only [Act.put, List.setIfInBounds_toArray, List.set_cons_zero, List.set_cons_succ, i64_w, i32_w]
                                        rfl
                                      exact norm_ (by first | (simp only [putAll, Act.put, List.setIfInBounds_toArray, List.set_cons_zero, List.set_cons_succ]; done) | (simp only [putAll, Act.put, List.setIfInBounds_toArray, List.set_cons_zero, List.set_cons_succ]; rfl)) (hJ4_5 (gb148, gb149) _ ⟨hHeld, (by (with_reducible repeat (first | refine blk_drewN ?_ _ | refine blk_drew ?_ | refine blk_alloc ?_ _)); exact BK146.out), (by (with_reducible repeat (first | refine blk_drewN ?_ _ | refine blk_drew ?_ | refine blk_alloc ?_ _)); exact BK148.out), (by (with_reducible repeat (first | refine blk_drewN ?_ _ | refine blk_drew ?_ | refine blk_alloc ?_ _)); exact BK149.out), GW148.out, GE148.out, NB146_148.out, NB148_146.out, NB149_148.out, NB148_149.out, GW149.out, GE149.out, NB146_149.out, NB149_146.out, (by repeat (first | (with_reducible first | exact HB.out | apply below_alloc | apply pw_below_drewN | apply below_drew1 | refine below_set ?_ GE146.out | refine below_set ?_ GE149.out | refine below_set ?_ GE148.out) | exact HB.out))⟩)
                                · skip
                                  rintro gb148 w38 ⟨hS_, h0_, h1_, h2_, h3_, h4_, h5_, h6_⟩
                                  have n0_ : Aside0 (w38.heap[gb146]? = some (.cells #[.int .i64 (wrap64 (1 + t143)), .int .i64 (wrap64 (4 + (wrap64 (4 * t144)))), .int .i64 (wrap64 (16 + t145))] 23 (0, 0))) := ⟨h0_⟩
                                  have n1_ : Aside0 (w38.heap[gb148]? = some (.cells #[.int .i64 0, .int .i64 0, .int .i64 0] 23 (0, 0))) := ⟨h1_⟩
                                  have n2_ : Aside0 (w.heap.size ≤ gb148) := ⟨h2_⟩
                                  have n3_ : Aside0 (w.heap.size ≤ gb148) := ⟨h3_⟩
                                  have n4_ : Aside0 (gb146 ≠ gb148) := ⟨h4_⟩
                                  have n5_ : Aside0 (gb148 ≠ gb146) := ⟨h5_⟩
                                  have n6_ : Aside0 (Below w.heap.size w w38) := ⟨h6_⟩
                                  clear BK146
                                  clear HB
                                  clear h0_ h1_ h2_ h3_ h4_ h5_ h6_
                                  have BK146 := n0_
                                  have BK148 := n1_
                                  have GW148 := n2_
                                  have GE148 := n3_
                                  have NB146_148 := n4_
                                  have NB148_146 := n5_
                                  have HB := n6_
                                  clear n0_ n1_ n2_ n3_ n4_ n5_ n6_
                                  have hHeld : w38.cell? ⟨gb146, 0, none⟩ = some (.int .i64 (wrap64 (1 + t143))) ∧ w38.cell? ⟨gb146, 1, none⟩ = some (.int .i64 (wrap64 (4 + (wrap64 (4 * t144))))) ∧ w38.cell? ⟨gb146, 2, none⟩ = some (.int .i64 (wrap64 (16 + t145))) := hS_
                                  refine norm_ (a' := ?_) ?_ ?_
                                  rotate_left
                                  · simp only [putAll, Act.put, List.setIfInBounds_toArray, List.set_cons_zero, List.set_cons_succ]
                                    rfl
                                  refine two_ (i := 3) (j := 5) (Ni := some 10) (Nj := some 12) #[true, true, true, true, true, false, false, false, false] #[true, true, true, false, true, true, false, false, false] rfl rfl rfl rfl (two_of HT_.out (by kernel_rfl)) (by decide) (by decide) (fun K hK => ?_) (fun K hK => ?_)
                                  · skip
                                    refine box_step ?hg (N := 10) ?hd (cs := #[.int .i64 0, .int .i64 0, .int .i64 0]) (t := 23) ?hr ?_; (case hd => rfl); (case hg => rfl); (case hr => first | (go_simp; done) | (go_simp; rfl))
                                    intro gb147 hg w39 hbox hb
                                    have n0_ := Aside0.mk (blk_below (g := gb146) (o := .cells #[.int .i64 (wrap64 (1 + t143)), .int .i64 (wrap64 (4 + (wrap64 (4 * t144)))), .int .i64 (wrap64 (16 + t145))] 23 (0, 0)) (by (with_reducible repeat (first | refine blk_drewN ?_ _ | refine blk_drew ?_ | refine blk_alloc ?_ _)); exact BK146.out) hb)
                                    have n1_ := Aside0.mk (blk_below (g := gb148) (o := .cells #[.int .i64 0, .int .i64 0, .int .i64 0] 23 (0, 0)) (by (with_reducible repeat (first | refine blk_drewN ?_ _ | refine blk_drew ?_ | refine blk_alloc ?_ _)); exact BK148.out) hb)
                                    have n2_ := Aside0.mk (below_step (by repeat (first | (with_reducible first | exact HB.out | apply below_alloc | apply pw_below_drewN | apply below_drew1 | refine below_set ?_ GE146.out | refine below_set ?_ GE148.out) | exact HB.out)) hb)
                                    have n3_ := Aside0.mk (hbox)
                                    have n4_ := Aside0.mk ((by rw [hg]; exact (below_size (by repeat (first | (with_reducible first | exact HB.out | apply below_alloc | apply pw_below_drewN | apply below_drew1 | refine below_set ?_ GE146.out | refine below_set ?_ GE148.out) | exact HB.out))) : w.heap.size ≤ gb147))
                                    have n5_ := Aside0.mk ((by rw [hg]; exact (below_size (by repeat (first | (with_reducible first | exact HB.out | apply below_alloc | apply pw_below_drewN | apply below_drew1 | refine below_set ?_ GE146.out | refine below_set ?_ GE148.out) | exact HB.out))) : w.heap.size ≤ gb147))
                                    have n6_ := Aside0.mk ((by rw [hg]; exact Nat.ne_of_lt (blk_lt (g := gb146) (o := .cells #[.int .i64 (wrap64 (1 + t143)), .int .i64 (wrap64 (4 + (wrap64 (4 * t144)))), .int .i64 (wrap64 (16 + t145))] 23 (0, 0)) (by (with_reducible repeat (first | refine blk_drewN ?_ _ | refine blk_drew ?_ | refine blk_alloc ?_ _)); exact BK146.out)) : gb146 ≠ gb147))
                                    have n7_ := Aside0.mk ((by rw [hg]; exact Nat.ne_of_gt (blk_lt (g := gb146) (o := .cells #[.int .i64 (wrap64 (1 + t143)), .int .i64 (wrap64 (4 + (wrap64 (4 * t144)))), .int .i64 (wrap64 (16 + t145))] 23 (0, 0)) (by (with_reducible repeat (first | refine blk_drewN ?_ _ | refine blk_drew ?_ | refine blk_alloc ?_ _)); exact BK146.out)) : gb147 ≠ gb146))
                                    have n8_ := Aside0.mk ((by rw [hg]; exact Nat.ne_of_lt (blk_lt (g := gb148) (o := .cells #[.int .i64 0, .int .i64 0, .int .i64 0] 23 (0, 0)) (by (with_reducible repeat (first | refine blk_drewN ?_ _ | refine blk_drew ?_ | refine blk_alloc ?_ _)); exact BK148.out)) : gb148 ≠ gb147))
                                    have n9_ := Aside0.mk ((by rw [hg]; exact Nat.ne_of_gt (blk_lt (g := gb148) (o := .cells #[.int .i64 0, .int .i64 0, .int .i64 0] 23 (0, 0)) (by (with_reducible repeat (first | refine blk_drewN ?_ _ | refine blk_drew ?_ | refine blk_alloc ?_ _)); exact BK148.out)) : gb147 ≠ gb148))
                                    clear BK146
                                    clear BK148
                                    clear HB
                                    have BK146 := n0_
                                    have BK148 := n1_
                                    have HB := n2_
                                    have BK147 := n3_
                                    have GW147 := n4_
                                    have GE147 := n5_
                                    have NB146_147 := n6_
                                    have NB147_146 := n7_
                                    have NB148_147 := n8_
                                    have NB147_148 := n9_
                                    clear n0_ n1_ n2_ n3_ n4_ n5_ n6_ n7_ n8_ n9_
                                    clear hb hbox hg
                                    refine hK.out _ _ ⟨(blk_cell BK146.out 0).trans rfl, (blk_cell BK146.out 1).trans rfl, (blk_cell BK146.out 2).trans rfl⟩ (fun hHeld => ?_)
                                    clear hK K
                                    refine norm_ (a' := ?_) ?_ ?_
                                    rotate_left
                                    · show Act.put _ (some 10) _ = _
                                      simp only [Act.put, List.setIfInBounds_toArray, List.set_cons_zero, List.set_cons_succ, i64_w, i32_w]
                                      rfl
                                    exact norm_ (by first | (simp only [putAll, Act.put, List.setIfInBounds_toArray, List.set_cons_zero, List.set_cons_succ]; done) | (simp only [putAll, Act.put, List.setIfInBounds_toArray, List.set_cons_zero, List.set_cons_succ]; rfl)) (hJ3_4 (gb147, gb148) _ ⟨hHeld, (by (with_reducible repeat (first | refine blk_drewN ?_ _ | refine blk_drew ?_ | refine blk_alloc ?_ _)); exact BK146.out), (by (with_reducible repeat (first | refine blk_drewN ?_ _ | refine blk_drew ?_ | refine blk_alloc ?_ _)); exact BK147.out), (by (with_reducible repeat (first | refine blk_drewN ?_ _ | refine blk_drew ?_ | refine blk_alloc ?_ _)); exact BK148.out), GW147.out, GE147.out, NB146_147.out, NB147_146.out, NB148_147.out, NB147_148.out, GW148.out, GE148.out, NB146_148.out, NB148_146.out, (by repeat (first | (with_reducible first | exact HB.out | apply below_alloc | apply pw_below_drewN | apply below_drew1 | refine below_set ?_ GE146.out | refine below_set ?_ GE148.out | refine below_set ?_ GE147.out) | exact HB.out))⟩)
                                  · skip
                                    refine box_step ?hg (N := 12) ?hd (cs := #[.int .i64 0, .int .i64 0, .int .i64 0]) (t := 23) ?hr ?_; (case hd => rfl); (case hg => rfl); (case hr => first | (go_simp; done) | (go_simp; rfl))
                                    intro gb149 hg w39 hbox hb
                                    have n0_ := Aside0.mk (blk_below (g := gb146) (o := .cells #[.int .i64 (wrap64 (1 + t143)), .int .i64 (wrap64 (4 + (wrap64 (4 * t144)))), .int .i64 (wrap64 (16 + t145))] 23 (0, 0)) (by (with_reducible repeat (first | refine blk_drewN ?_ _ | refine blk_drew ?_ | refine blk_alloc ?_ _)); exact BK146.out) hb)
                                    have n1_ := Aside0.mk (blk_below (g := gb148) (o := .cells #[.int .i64 0, .int .i64 0, .int .i64 0] 23 (0, 0)) (by (with_reducible repeat (first | refine blk_drewN ?_ _ | refine blk_drew ?_ | refine blk_alloc ?_ _)); exact BK148.out) hb)
                                    have n2_ := Aside0.mk (below_step (by repeat (first | (with_reducible first | exact HB.out | apply below_alloc | apply pw_below_drewN | apply below_drew1 | refine below_set ?_ GE146.out | refine below_set ?_ GE148.out) | exact HB.out)) hb)
                                    have n3_ := Aside0.mk (hbox)
                                    have n4_ := Aside0.mk ((by rw [hg]; exact (below_size (by repeat (first | (with_reducible first | exact HB.out | apply below_alloc | apply pw_below_drewN | apply below_drew1 | refine below_set ?_ GE146.out | refine below_set ?_ GE148.out) | exact HB.out))) : w.heap.size ≤ gb149))
                                    have n5_ := Aside0.mk ((by rw [hg]; exact (below_size (by repeat (first | (with_reducible first | exact HB.out | apply below_alloc | apply pw_below_drewN | apply below_drew1 | refine below_set ?_ GE146.out | refine below_set ?_ GE148.out) | exact HB.out))) : w.heap.size ≤ gb149))
                                    have n6_ := Aside0.mk ((by rw [hg]; exact Nat.ne_of_lt (blk_lt (g := gb146) (o := .cells #[.int .i64 (wrap64 (1 + t143)), .int .i64 (wrap64 (4 + (wrap64 (4 * t144)))), .int .i64 (wrap64 (16 + t145))] 23 (0, 0)) (by (with_reducible repeat (first | refine blk_drewN ?_ _ | refine blk_drew ?_ | refine blk_alloc ?_ _)); exact BK146.out)) : gb146 ≠ gb149))
                                    have n7_ := Aside0.mk ((by rw [hg]; exact Nat.ne_of_gt (blk_lt (g := gb146) (o := .cells #[.int .i64 (wrap64 (1 + t143)), .int .i64 (wrap64 (4 + (wrap64 (4 * t144)))), .int .i64 (wrap64 (16 + t145))] 23 (0, 0)) (by (with_reducible repeat (first | refine blk_drewN ?_ _ | refine blk_drew ?_ | refine blk_alloc ?_ _)); exact BK146.out)) : gb149 ≠ gb146))
                                    have n8_ := Aside0.mk ((by rw [hg]; exact Nat.ne_of_lt (blk_lt (g := gb148) (o := .cells #[.int .i64 0, .int .i64 0, .int .i64 0] 23 (0, 0)) (by (with_reducible repeat (first | refine blk_drewN ?_ _ | refine blk_drew ?_ | refine blk_alloc ?_ _)); exact BK148.out)) : gb148 ≠ gb149))
                                    have n9_ := Aside0.mk ((by rw [hg]; exact Nat.ne_of_gt (blk_lt (g := gb148) (o := .cells #[.int .i64 0, .int .i64 0, .int .i64 0] 23 (0, 0)) (by (with_reducible repeat (first | refine blk_drewN ?_ _ | refine blk_drew ?_ | refine blk_alloc ?_ _)); exact BK148.out)) : gb149 ≠ gb148))
                                    clear BK146
                                    clear BK148
                                    clear HB
                                    have BK146 := n0_
                                    have BK148 := n1_
                                    have HB := n2_
                                    have BK149 := n3_
                                    have GW149 := n4_
                                    have GE149 := n5_
                                    have NB146_149 := n6_
                                    have NB149_146 := n7_
                                    have NB148_149 := n8_
                                    have NB149_148 := n9_
                                    clear n0_ n1_ n2_ n3_ n4_ n5_ n6_ n7_ n8_ n9_
                                    clear hb hbox hg
                                    refine hK.out _ _ ⟨(blk_cell BK146.out 0).trans rfl, (blk_cell BK146.out 1).trans rfl, (blk_cell BK146.out 2).trans rfl⟩ (fun hHeld => ?_)
                                    clear hK K
                                    refine norm_ (a' := ?_) ?_ ?_
                                    rotate_left
                                    · show Act.put _ (some 12) _ = _
                                      simp only [Act.put, List.setIfInBounds_toArray, List.set_cons_zero, List.set_cons_succ, i64_w, i32_w]
                                      rfl
                                    exact norm_ (by first | (simp only [putAll, Act.put, List.setIfInBounds_toArray, List.set_cons_zero, List.set_cons_succ]; done) | (simp only [putAll, Act.put, List.setIfInBounds_toArray, List.set_cons_zero, List.set_cons_succ]; rfl)) (hJ4_5 (gb148, gb149) _ ⟨hHeld, (by (with_reducible repeat (first | refine blk_drewN ?_ _ | refine blk_drew ?_ | refine blk_alloc ?_ _)); exact BK146.out), (by (with_reducible repeat (first | refine blk_drewN ?_ _ | refine blk_drew ?_ | refine blk_alloc ?_ _)); exact BK148.out), (by (with_reducible repeat (first | refine blk_drewN ?_ _ | refine blk_drew ?_ | refine blk_alloc ?_ _)); exact BK149.out), GW148.out, GE148.out, NB146_148.out, NB148_146.out, NB149_148.out, NB148_149.out, GW149.out, GE149.out, NB146_149.out, NB149_146.out, (by repeat (first | (with_reducible first | exact HB.out | apply below_alloc | apply pw_below_drewN | apply below_drew1 | refine below_set ?_ GE146.out | refine below_set ?_ GE148.out | refine below_set ?_ GE149.out) | exact HB.out))⟩)
                              · skip
                                rintro gb147 w38 ⟨hS_, h0_, h1_, h2_, h3_, h4_, h5_, h6_⟩
                                have n0_ : Aside0 (w38.heap[gb146]? = some (.cells #[.int .i64 (wrap64 (1 + t143)), .int .i64 (wrap64 (4 + (wrap64 (4 * t144)))), .int .i64 (wrap64 (16 + t145))] 23 (0, 0))) := ⟨h0_⟩
                                have n1_ : Aside0 (w38.heap[gb147]? = some (.cells #[.int .i64 0, .int .i64 0, .int .i64 0] 23 (0, 0))) := ⟨h1_⟩
                                have n2_ : Aside0 (w.heap.size ≤ gb147) := ⟨h2_⟩
                                have n3_ : Aside0 (w.heap.size ≤ gb147) := ⟨h3_⟩
                                have n4_ : Aside0 (gb146 ≠ gb147) := ⟨h4_⟩
                                have n5_ : Aside0 (gb147 ≠ gb146) := ⟨h5_⟩
                                have n6_ : Aside0 (Below w.heap.size w w38) := ⟨h6_⟩
                                clear BK146
                                clear HB
                                clear h0_ h1_ h2_ h3_ h4_ h5_ h6_
                                have BK146 := n0_
                                have BK147 := n1_
                                have GW147 := n2_
                                have GE147 := n3_
                                have NB146_147 := n4_
                                have NB147_146 := n5_
                                have HB := n6_
                                clear n0_ n1_ n2_ n3_ n4_ n5_ n6_
                                have hHeld : w38.cell? ⟨gb146, 0, none⟩ = some (.int .i64 (wrap64 (1 + t143))) ∧ w38.cell? ⟨gb146, 1, none⟩ = some (.int .i64 (wrap64 (4 + (wrap64 (4 * t144))))) ∧ w38.cell? ⟨gb146, 2, none⟩ = some (.int .i64 (wrap64 (16 + t145))) := hS_
                                refine norm_ (a' := ?_) ?_ ?_
                                rotate_left
                                · simp only [putAll, Act.put, List.setIfInBounds_toArray, List.set_cons_zero, List.set_cons_succ]
                                  rfl
                                refine two_ (i := 4) (j := 5) (Ni := some 11) (Nj := some 12) #[true, true, true, true, true, false, false, false, false] #[true, true, true, true, false, true, false, false, false] rfl rfl rfl rfl (two_of HT_.out (by kernel_rfl)) (by decide) (by decide) (fun K hK => ?_) (fun K hK => ?_)
                                · skip
                                  refine box_step ?hg (N := 11) ?hd (cs := #[.int .i64 0, .int .i64 0, .int .i64 0]) (t := 23) ?hr ?_; (case hd => rfl); (case hg => rfl); (case hr => first | (go_simp; done) | (go_simp; rfl))
                                  intro gb148 hg w39 hbox hb
                                  have n0_ := Aside0.mk (blk_below (g := gb146) (o := .cells #[.int .i64 (wrap64 (1 + t143)), .int .i64 (wrap64 (4 + (wrap64 (4 * t144)))), .int .i64 (wrap64 (16 + t145))] 23 (0, 0)) (by (with_reducible repeat (first | refine blk_drewN ?_ _ | refine blk_drew ?_ | refine blk_alloc ?_ _)); exact BK146.out) hb)
                                  have n1_ := Aside0.mk (blk_below (g := gb147) (o := .cells #[.int .i64 0, .int .i64 0, .int .i64 0] 23 (0, 0)) (by (with_reducible repeat (first | refine blk_drewN ?_ _ | refine blk_drew ?_ | refine blk_alloc ?_ _)); exact BK147.out) hb)
                                  have n2_ := Aside0.mk (below_step (by repeat (first | (with_reducible first | exact HB.out | apply below_alloc | apply pw_below_drewN | apply below_drew1 | refine below_set ?_ GE146.out | refine below_set ?_ GE147.out) | exact HB.out)) hb)
                                  have n3_ := Aside0.mk (hbox)
                                  have n4_ := Aside0.mk ((by rw [hg]; exact (below_size (by repeat (first | (with_reducible first | exact HB.out | apply below_alloc | apply pw_below_drewN | apply below_drew1 | refine below_set ?_ GE146.out | refine below_set ?_ GE147.out) | exact HB.out))) : w.heap.size ≤ gb148))
                                  have n5_ := Aside0.mk ((by rw [hg]; exact (below_size (by repeat (first | (with_reducible first | exact HB.out | apply below_alloc | apply pw_below_drewN | apply below_drew1 | refine below_set ?_ GE146.out | refine below_set ?_ GE147.out) | exact HB.out))) : w.heap.size ≤ gb148))
                                  have n6_ := Aside0.mk ((by rw [hg]; exact Nat.ne_of_lt (blk_lt (g := gb146) (o := .cells #[.int .i64 (wrap64 (1 + t143)), .int .i64 (wrap64 (4 + (wrap64 (4 * t144)))), .int .i64 (wrap64 (16 + t145))] 23 (0, 0)) (by (with_reducible repeat (first | refine blk_drewN ?_ _ | refine blk_drew ?_ | refine blk_alloc ?_ _)); exact BK146.out)) : gb146 ≠ gb148))
                                  have n7_ := Aside0.mk ((by rw [hg]; exact Nat.ne_of_gt (blk_lt (g := gb146) (o := .cells #[.int .i64 (wrap64 (1 + t143)), .int .i64 (wrap64 (4 + (wrap64 (4 * t144)))), .int .i64 (wrap64 (16 + t145))] 23 (0, 0)) (by (with_reducible repeat (first | refine blk_drewN ?_ _ | refine blk_drew ?_ | refine blk_alloc ?_ _)); exact BK146.out)) : gb148 ≠ gb146))
                                  have n8_ := Aside0.mk ((by rw [hg]; exact Nat.ne_of_lt (blk_lt (g := gb147) (o := .cells #[.int .i64 0, .int .i64 0, .int .i64 0] 23 (0, 0)) (by (with_reducible repeat (first | refine blk_drewN ?_ _ | refine blk_drew ?_ | refine blk_alloc ?_ _)); exact BK147.out)) : gb147 ≠ gb148))
                                  have n9_ := Aside0.mk ((by rw [hg]; exact Nat.ne_of_gt (blk_lt (g := gb147) (o := .cells #[.int .i64 0, .int .i64 0, .int .i64 0] 23 (0, 0)) (by (with_reducible repeat (first | refine blk_drewN ?_ _ | refine blk_drew ?_ | refine blk_alloc ?_ _)); exact BK147.out)) : gb148 ≠ gb147))
                                  clear BK146
                                  clear BK147
                                  clear HB
                                  have BK146 := n0_
                                  have BK147 := n1_
                                  have HB := n2_
                                  have BK148 := n3_
                                  have GW148 := n4_
                                  have GE148 := n5_
                                  have NB146_148 := n6_
                                  have NB148_146 := n7_
                                  have NB147_148 := n8_
                                  have NB148_147 := n9_
                                  clear n0_ n1_ n2_ n3_ n4_ n5_ n6_ n7_ n8_ n9_
                                  clear hb hbox hg
                                  refine hK.out _ _ ⟨(blk_cell BK146.out 0).trans rfl, (blk_cell BK146.out 1).trans rfl, (blk_cell BK146.out 2).trans rfl⟩ (fun hHeld => ?_)
                                  clear hK K
                                  refine norm_ (a' := ?_) ?_ ?_
                                  rotate_left
                                  · show Act.put _ (some 11) _ = _
                                    simp only [Act.put, List.setIfInBounds_toArray, List.set_cons_zero, List.set_cons_succ, i64_w, i32_w]
                                    rfl
                                  exact norm_ (by first | (simp only [putAll, Act.put, List.setIfInBounds_toArray, List.set_cons_zero, List.set_cons_succ]; done) | (simp only [putAll, Act.put, List.setIfInBounds_toArray, List.set_cons_zero, List.set_cons_succ]; rfl)) (hJ3_4 (gb147, gb148) _ ⟨hHeld, (by (with_reducible repeat (first | refine blk_drewN ?_ _ | refine blk_drew ?_ | refine blk_alloc ?_ _)); exact BK146.out), (by (with_reducible repeat (first | refine blk_drewN ?_ _ | refine blk_drew ?_ | refine blk_alloc ?_ _)); exact BK147.out), (by (with_reducible repeat (first | refine blk_drewN ?_ _ | refine blk_drew ?_ | refine blk_alloc ?_ _)); exact BK148.out), GW147.out, GE147.out, NB146_147.out, NB147_146.out, NB148_147.out, NB147_148.out, GW148.out, GE148.out, NB146_148.out, NB148_146.out, (by repeat (first | (with_reducible first | exact HB.out | apply below_alloc | apply pw_below_drewN | apply below_drew1 | refine below_set ?_ GE146.out | refine below_set ?_ GE147.out | refine below_set ?_ GE148.out) | exact HB.out))⟩)
                                · skip
                                  refine box_step ?hg (N := 12) ?hd (cs := #[.int .i64 0, .int .i64 0, .int .i64 0]) (t := 23) ?hr ?_; (case hd => rfl); (case hg => rfl); (case hr => first | (go_simp; done) | (go_simp; rfl))
                                  intro gb149 hg w39 hbox hb
                                  have n0_ := Aside0.mk (blk_below (g := gb146) (o := .cells #[.int .i64 (wrap64 (1 + t143)), .int .i64 (wrap64 (4 + (wrap64 (4 * t144)))), .int .i64 (wrap64 (16 + t145))] 23 (0, 0)) (by (with_reducible repeat (first | refine blk_drewN ?_ _ | refine blk_drew ?_ | refine blk_alloc ?_ _)); exact BK146.out) hb)
                                  have n1_ := Aside0.mk (blk_below (g := gb147) (o := .cells #[.int .i64 0, .int .i64 0, .int .i64 0] 23 (0, 0)) (by (with_reducible repeat (first | refine blk_drewN ?_ _ | refine blk_drew ?_ | refine blk_alloc ?_ _)); exact BK147.out) hb)
                                  have n2_ := Aside0.mk (below_step (by repeat (first | (with_reducible first | exact HB.out | apply below_alloc | apply pw_below_drewN | apply below_drew1 | refine below_set ?_ GE146.out | refine below_set ?_ GE147.out) | exact HB.out)) hb)
                                  have n3_ := Aside0.mk (hbox)
                                  have n4_ := Aside0.mk ((by rw [hg]; exact (below_size (by repeat (first | (with_reducible first | exact HB.out | apply below_alloc | apply pw_below_drewN | apply below_drew1 | refine below_set ?_ GE146.out | refine below_set ?_ GE147.out) | exact HB.out))) : w.heap.size ≤ gb149))
                                  have n5_ := Aside0.mk ((by rw [hg]; exact (below_size (by repeat (first | (with_reducible first | exact HB.out | apply below_alloc | apply pw_below_drewN | apply below_drew1 | refine below_set ?_ GE146.out | refine below_set ?_ GE147.out) | exact HB.out))) : w.heap.size ≤ gb149))
                                  have n6_ := Aside0.mk ((by rw [hg]; exact Nat.ne_of_lt (blk_lt (g := gb146) (o := .cells #[.int .i64 (wrap64 (1 + t143)), .int .i64 (wrap64 (4 + (wrap64 (4 * t144)))), .int .i64 (wrap64 (16 + t145))] 23 (0, 0)) (by (with_reducible repeat (first | refine blk_drewN ?_ _ | refine blk_drew ?_ | refine blk_alloc ?_ _)); exact BK146.out)) : gb146 ≠ gb149))
                                  have n7_ := Aside0.mk ((by rw [hg]; exact Nat.ne_of_gt (blk_lt (g := gb146) (o := .cells #[.int .i64 (wrap64 (1 + t143)), .int .i64 (wrap64 (4 + (wrap64 (4 * t144)))), .int .i64 (wrap64 (16 + t145))] 23 (0, 0)) (by (with_reducible repeat (first | refine blk_drewN ?_ _ | refine blk_drew ?_ | refine blk_alloc ?_ _)); exact BK146.out)) : gb149 ≠ gb146))
                                  have n8_ := Aside0.mk ((by rw [hg]; exact Nat.ne_of_lt (blk_lt (g := gb147) (o := .cells #[.int .i64 0, .int .i64 0, .int .i64 0] 23 (0, 0)) (by (with_reducible repeat (first | refine blk_drewN ?_ _ | refine blk_drew ?_ | refine blk_alloc ?_ _)); exact BK147.out)) : gb147 ≠ gb149))
                                  have n9_ := Aside0.mk ((by rw [hg]; exact Nat.ne_of_gt (blk_lt (g := gb147) (o := .cells #[.int .i64 0, .int .i64 0, .int .i64 0] 23 (0, 0)) (by (with_reducible repeat (first | refine blk_drewN ?_ _ | refine blk_drew ?_ | refine blk_alloc ?_ _)); exact BK147.out)) : gb149 ≠ gb147))
                                  clear BK146
                                  clear BK147
                                  clear HB
                                  have BK146 := n0_
                                  have BK147 := n1_
                                  have HB := n2_
                                  have BK149 := n3_
                                  have GW149 := n4_
                                  have GE149 := n5_
                                  have NB146_149 := n6_
                                  have NB149_146 := n7_
                                  have NB147_149 := n8_
                                  have NB149_147 := n9_
                                  clear n0_ n1_ n2_ n3_ n4_ n5_ n6_ n7_ n8_ n9_
                                  clear hb hbox hg
                                  refine hK.out _ _ ⟨(blk_cell BK146.out 0).trans rfl, (blk_cell BK146.out 1).trans rfl, (blk_cell BK146.out 2).trans rfl⟩ (fun hHeld => ?_)
                                  clear hK K
                                  refine norm_ (a' := ?_) ?_ ?_
                                  rotate_left
                                  · show Act.put _ (some 12) _ = _
                                    simp only [Act.put, List.setIfInBounds_toArray, List.set_cons_zero, List.set_cons_succ, i64_w, i32_w]
                                    rfl
                                  exact norm_ (by first | (simp only [putAll, Act.put, List.setIfInBounds_toArray, List.set_cons_zero, List.set_cons_succ]; done) | (simp only [putAll, Act.put, List.setIfInBounds_toArray, List.set_cons_zero, List.set_cons_succ]; rfl)) (hJ3_5 (gb147, gb149) _ ⟨hHeld, (by (with_reducible repeat (first | refine blk_drewN ?_ _ | refine blk_drew ?_ | refine blk_alloc ?_ _)); exact BK146.out), (by (with_reducible repeat (first | refine blk_drewN ?_ _ | refine blk_drew ?_ | refine blk_alloc ?_ _)); exact BK147.out), (by (with_reducible repeat (first | refine blk_drewN ?_ _ | refine blk_drew ?_ | refine blk_alloc ?_ _)); exact BK149.out), GW147.out, GE147.out, NB146_147.out, NB147_146.out, NB149_147.out, NB147_149.out, GW149.out, GE149.out, NB146_149.out, NB149_146.out, (by repeat (first | (with_reducible first | exact HB.out | apply below_alloc | apply pw_below_drewN | apply below_drew1 | refine below_set ?_ GE146.out | refine below_set ?_ GE147.out | refine below_set ?_ GE149.out) | exact HB.out))⟩)
                            · skip
                              rintro ⟨gb148, gb149⟩ w39 ⟨hS_, h0_, h1_, h2_, h3_, h4_, h5_, h6_, h7_, h8_, h9_, h10_, h11_, h12_, h13_⟩
                              have n0_ : Aside0 (w39.heap[gb146]? = some (.cells #[.int .i64 (wrap64 (1 + t143)), .int .i64 (wrap64 (4 + (wrap64 (4 * t144)))), .int .i64 (wrap64 (16 + t145))] 23 (0, 0))) := ⟨h0_⟩
                              have n1_ : Aside0 (w39.heap[gb148]? = some (.cells #[.int .i64 0, .int .i64 0, .int .i64 0] 23 (0, 0))) := ⟨h1_⟩
                              have n2_ : Aside0 (w39.heap[gb149]? = some (.cells #[.int .i64 0, .int .i64 0, .int .i64 0] 23 (0, 0))) := ⟨h2_⟩
                              have n3_ : Aside0 (w.heap.size ≤ gb148) := ⟨h3_⟩
                              have n4_ : Aside0 (w.heap.size ≤ gb148) := ⟨h4_⟩
                              have n5_ : Aside0 (gb146 ≠ gb148) := ⟨h5_⟩
                              have n6_ : Aside0 (gb148 ≠ gb146) := ⟨h6_⟩
                              have n7_ : Aside0 (gb149 ≠ gb148) := ⟨h7_⟩
                              have n8_ : Aside0 (gb148 ≠ gb149) := ⟨h8_⟩
                              have n9_ : Aside0 (w.heap.size ≤ gb149) := ⟨h9_⟩
                              have n10_ : Aside0 (w.heap.size ≤ gb149) := ⟨h10_⟩
                              have n11_ : Aside0 (gb146 ≠ gb149) := ⟨h11_⟩
                              have n12_ : Aside0 (gb149 ≠ gb146) := ⟨h12_⟩
                              have n13_ : Aside0 (Below w.heap.size w w39) := ⟨h13_⟩
                              clear BK146
                              clear HB
                              clear h0_ h1_ h2_ h3_ h4_ h5_ h6_ h7_ h8_ h9_ h10_ h11_ h12_ h13_
                              have BK146 := n0_
                              have BK148 := n1_
                              have BK149 := n2_
                              have GW148 := n3_
                              have GE148 := n4_
                              have NB146_148 := n5_
                              have NB148_146 := n6_
                              have NB149_148 := n7_
                              have NB148_149 := n8_
                              have GW149 := n9_
                              have GE149 := n10_
                              have NB146_149 := n11_
                              have NB149_146 := n12_
                              have HB := n13_
                              clear n0_ n1_ n2_ n3_ n4_ n5_ n6_ n7_ n8_ n9_ n10_ n11_ n12_ n13_
                              have hHeld : w39.cell? ⟨gb146, 0, none⟩ = some (.int .i64 (wrap64 (1 + t143))) ∧ w39.cell? ⟨gb146, 1, none⟩ = some (.int .i64 (wrap64 (4 + (wrap64 (4 * t144))))) ∧ w39.cell? ⟨gb146, 2, none⟩ = some (.int .i64 (wrap64 (16 + t145))) := hS_
                              refine norm_ (a' := ?_) ?_ ?_
                              rotate_left
                              · simp only [putAll, Act.put, List.setIfInBounds_toArray, List.set_cons_zero, List.set_cons_succ]
                                rfl
                              refine one_ (i := 3) (N := some 10) #[true, true, true, true, true, true, false, false, false] rfl rfl (one_of HT_.out (by kernel_rfl)) (by decide) (fun K hK => ?_)
                              refine box_step ?hg (N := 10) ?hd (cs := #[.int .i64 0, .int .i64 0, .int .i64 0]) (t := 23) ?hr ?_; (case hd => rfl); (case hg => rfl); (case hr => first | (go_simp; done) | (go_simp; rfl))
                              intro gb147 hg w40 hbox hb
                              have n0_ := Aside0.mk (blk_below (g := gb146) (o := .cells #[.int .i64 (wrap64 (1 + t143)), .int .i64 (wrap64 (4 + (wrap64 (4 * t144)))), .int .i64 (wrap64 (16 + t145))] 23 (0, 0)) (by (with_reducible repeat (first | refine blk_drewN ?_ _ | refine blk_drew ?_ | refine blk_alloc ?_ _)); exact BK146.out) hb)
                              have n1_ := Aside0.mk (blk_below (g := gb148) (o := .cells #[.int .i64 0, .int .i64 0, .int .i64 0] 23 (0, 0)) (by (with_reducible repeat (first | refine blk_drewN ?_ _ | refine blk_drew ?_ | refine blk_alloc ?_ _)); exact BK148.out) hb)
                              have n2_ := Aside0.mk (blk_below (g := gb149) (o := .cells #[.int .i64 0, .int .i64 0, .int .i64 0] 23 (0, 0)) (by (with_reducible repeat (first | refine blk_drewN ?_ _ | refine blk_drew ?_ | refine blk_alloc ?_ _)); exact BK149.out) hb)
                              have n3_ := Aside0.mk (below_step (by repeat (first | (with_reducible first | exact HB.out | apply below_alloc | apply pw_below_drewN | apply below_drew1 | refine below_set ?_ GE146.out | refine below_set ?_ GE148.out | refine below_set ?_ GE149.out) | exact HB.out)) hb)
                              have n4_ := Aside0.mk (hbox)
                              have n5_ := Aside0.mk ((by rw [hg]; exact (below_size (by repeat (first | (with_reducible first | exact HB.out | apply below_alloc | apply pw_below_drewN | apply below_drew1 | refine below_set ?_ GE146.out | refine below_set ?_ GE148.out | refine below_set ?_ GE149.out) | exact HB.out))) : w.heap.size ≤ gb147))
                              have n6_ := Aside0.mk ((by rw [hg]; exact (below_size (by repeat (first | (with_reducible first | exact HB.out | apply below_alloc | apply pw_below_drewN | apply below_drew1 | refine below_set ?_ GE146.out | refine below_set ?_ GE148.out | refine below_set ?_ GE149.out) | exact HB.out))) : w.heap.size ≤ gb147))
                              have n7_ := Aside0.mk ((by rw [hg]; exact Nat.ne_of_lt (blk_lt (g := gb146) (o := .cells #[.int .i64 (wrap64 (1 + t143)), .int .i64 (wrap64 (4 + (wrap64 (4 * t144)))), .int .i64 (wrap64 (16 + t145))] 23 (0, 0)) (by (with_reducible repeat (first | refine blk_drewN ?_ _ | refine blk_drew ?_ | refine blk_alloc ?_ _)); exact BK146.out)) : gb146 ≠ gb147))
                              have n8_ := Aside0.mk ((by rw [hg]; exact Nat.ne_of_gt (blk_lt (g := gb146) (o := .cells #[.int .i64 (wrap64 (1 + t143)), .int .i64 (wrap64 (4 + (wrap64 (4 * t144)))), .int .i64 (wrap64 (16 + t145))] 23 (0, 0)) (by (with_reducible repeat (first | refine blk_drewN ?_ _ | refine blk_drew ?_ | refine blk_alloc ?_ _)); exact BK146.out)) : gb147 ≠ gb146))
                              have n9_ := Aside0.mk ((by rw [hg]; exact Nat.ne_of_lt (blk_lt (g := gb148) (o := .cells #[.int .i64 0, .int .i64 0, .int .i64 0] 23 (0, 0)) (by (with_reducible repeat (first | refine blk_drewN ?_ _ | refine blk_drew ?_ | refine blk_alloc ?_ _)); exact BK148.out)) : gb148 ≠ gb147))
                              have n10_ := Aside0.mk ((by rw [hg]; exact Nat.ne_of_gt (blk_lt (g := gb148) (o := .cells #[.int .i64 0, .int .i64 0, .int .i64 0] 23 (0, 0)) (by (with_reducible repeat (first | refine blk_drewN ?_ _ | refine blk_drew ?_ | refine blk_alloc ?_ _)); exact BK148.out)) : gb147 ≠ gb148))
                              have n11_ := Aside0.mk ((by rw [hg]; exact Nat.ne_of_lt (blk_lt (g := gb149) (o := .cells #[.int .i64 0, .int .i64 0, .int .i64 0] 23 (0, 0)) (by (with_reducible repeat (first | refine blk_drewN ?_ _ | refine blk_drew ?_ | refine blk_alloc ?_ _)); exact BK149.out)) : gb149 ≠ gb147))
                              have n12_ := Aside0.mk ((by rw [hg]; exact Nat.ne_of_gt (blk_lt (g := gb149) (o := .cells #[.int .i64 0, .int .i64 0, .int .i64 0] 23 (0, 0)) (by (with_reducible repeat (first | refine blk_drewN ?_ _ | refine blk_drew ?_ | refine blk_alloc ?_ _)); exact BK149.out)) : gb147 ≠ gb149))
                              clear BK146
                              clear BK148
                              clear BK149
                              clear HB
                              have BK146 := n0_
                              have BK148 := n1_
                              have BK149 := n2_
                              have HB := n3_
                              have BK147 := n4_
                              have GW147 := n5_
                              have GE147 := n6_
                              have NB146_147 := n7_
                              have NB147_146 := n8_
                              have NB148_147 := n9_
                              have NB147_148 := n10_
                              have NB149_147 := n11_
                              have NB147_149 := n12_
                              clear n0_ n1_ n2_ n3_ n4_ n5_ n6_ n7_ n8_ n9_ n10_ n11_ n12_
                              clear hb hbox hg
                              refine hK.out _ _ ⟨(blk_cell BK146.out 0).trans rfl, (blk_cell BK146.out 1).trans rfl, (blk_cell BK146.out 2).trans rfl⟩ (fun hHeld => ?_)
                              clear hK K
                              refine norm_ (a' := ?_) ?_ ?_
                              rotate_left
                              · show Act.put _ (some 10) _ = _
                                simp only [Act.put, List.setIfInBounds_toArray, List.set_cons_zero, List.set_cons_succ, i64_w, i32_w]
                                rfl
                              exact norm_ (by first | (simp only [putAll, Act.put, List.setIfInBounds_toArray, List.set_cons_zero, List.set_cons_succ]; done) | (simp only [putAll, Act.put, List.setIfInBounds_toArray, List.set_cons_zero, List.set_cons_succ]; rfl)) (hJ3_4_5 (gb147, gb148, gb149) _ ⟨hHeld, (by (with_reducible repeat (first | refine blk_drewN ?_ _ | refine blk_drew ?_ | refine blk_alloc ?_ _)); exact BK146.out), (by (with_reducible repeat (first | refine blk_drewN ?_ _ | refine blk_drew ?_ | refine blk_alloc ?_ _)); exact BK147.out), (by (with_reducible repeat (first | refine blk_drewN ?_ _ | refine blk_drew ?_ | refine blk_alloc ?_ _)); exact BK148.out), (by (with_reducible repeat (first | refine blk_drewN ?_ _ | refine blk_drew ?_ | refine blk_alloc ?_ _)); exact BK149.out), GW147.out, GE147.out, NB146_147.out, NB147_146.out, NB148_147.out, NB147_148.out, NB149_147.out, NB147_149.out, GW148.out, GE148.out, NB146_148.out, NB148_146.out, NB149_148.out, NB148_149.out, GW149.out, GE149.out, NB146_149.out, NB149_146.out, (by repeat (first | (with_reducible first | exact HB.out | apply below_alloc | apply pw_below_drewN | apply below_drew1 | refine below_set ?_ GE146.out | refine below_set ?_ GE148.out | refine below_set ?_ GE149.out | refine below_set ?_ GE147.out) | exact HB.out))⟩)
                          · skip
                            rintro ⟨gb147, gb149⟩ w39 ⟨hS_, h0_, h1_, h2_, h3_, h4_, h5_, h6_, h7_, h8_, h9_, h10_, h11_, h12_, h13_⟩
                            have n0_ : Aside0 (w39.heap[gb146]? = some (.cells #[.int .i64 (wrap64 (1 + t143)), .int .i64 (wrap64 (4 + (wrap64 (4 * t144)))), .int .i64 (wrap64 (16 + t145))] 23 (0, 0))) := ⟨h0_⟩
                            have n1_ : Aside0 (w39.heap[gb147]? = some (.cells #[.int .i64 0, .int .i64 0, .int .i64 0] 23 (0, 0))) := ⟨h1_⟩
                            have n2_ : Aside0 (w39.heap[gb149]? = some (.cells #[.int .i64 0, .int .i64 0, .int .i64 0] 23 (0, 0))) := ⟨h2_⟩
                            have n3_ : Aside0 (w.heap.size ≤ gb147) := ⟨h3_⟩
                            have n4_ : Aside0 (w.heap.size ≤ gb147) := ⟨h4_⟩
                            have n5_ : Aside0 (gb146 ≠ gb147) := ⟨h5_⟩
                            have n6_ : Aside0 (gb147 ≠ gb146) := ⟨h6_⟩
                            have n7_ : Aside0 (gb149 ≠ gb147) := ⟨h7_⟩
                            have n8_ : Aside0 (gb147 ≠ gb149) := ⟨h8_⟩
                            have n9_ : Aside0 (w.heap.size ≤ gb149) := ⟨h9_⟩
                            have n10_ : Aside0 (w.heap.size ≤ gb149) := ⟨h10_⟩
                            have n11_ : Aside0 (gb146 ≠ gb149) := ⟨h11_⟩
                            have n12_ : Aside0 (gb149 ≠ gb146) := ⟨h12_⟩
                            have n13_ : Aside0 (Below w.heap.size w w39) := ⟨h13_⟩
                            clear BK146
                            clear HB
                            clear h0_ h1_ h2_ h3_ h4_ h5_ h6_ h7_ h8_ h9_ h10_ h11_ h12_ h13_
                            have BK146 := n0_
                            have BK147 := n1_
                            have BK149 := n2_
                            have GW147 := n3_
                            have GE147 := n4_
                            have NB146_147 := n5_
                            have NB147_146 := n6_
                            have NB149_147 := n7_
                            have NB147_149 := n8_
                            have GW149 := n9_
                            have GE149 := n10_
                            have NB146_149 := n11_
                            have NB149_146 := n12_
                            have HB := n13_
                            clear n0_ n1_ n2_ n3_ n4_ n5_ n6_ n7_ n8_ n9_ n10_ n11_ n12_ n13_
                            have hHeld : w39.cell? ⟨gb146, 0, none⟩ = some (.int .i64 (wrap64 (1 + t143))) ∧ w39.cell? ⟨gb146, 1, none⟩ = some (.int .i64 (wrap64 (4 + (wrap64 (4 * t144))))) ∧ w39.cell? ⟨gb146, 2, none⟩ = some (.int .i64 (wrap64 (16 + t145))) := hS_
                            refine norm_ (a' := ?_) ?_ ?_
                            rotate_left
                            · simp only [putAll, Act.put, List.setIfInBounds_toArray, List.set_cons_zero, List.set_cons_succ]
                              rfl
                            refine one_ (i := 4) (N := some 11) #[true, true, true, true, true, true, false, false, false] rfl rfl (one_of HT_.out (by kernel_rfl)) (by decide) (fun K hK => ?_)
                            refine box_step ?hg (N := 11) ?hd (cs := #[.int .i64 0, .int .i64 0, .int .i64 0]) (t := 23) ?hr ?_; (case hd => rfl); (case hg => rfl); (case hr => first | (go_simp; done) | (go_simp; rfl))
                            intro gb148 hg w40 hbox hb
                            have n0_ := Aside0.mk (blk_below (g := gb146) (o := .cells #[.int .i64 (wrap64 (1 + t143)), .int .i64 (wrap64 (4 + (wrap64 (4 * t144)))), .int .i64 (wrap64 (16 + t145))] 23 (0, 0)) (by (with_reducible repeat (first | refine blk_drewN ?_ _ | refine blk_drew ?_ | refine blk_alloc ?_ _)); exact BK146.out) hb)
                            have n1_ := Aside0.mk (blk_below (g := gb147) (o := .cells #[.int .i64 0, .int .i64 0, .int .i64 0] 23 (0, 0)) (by (with_reducible repeat (first | refine blk_drewN ?_ _ | refine blk_drew ?_ | refine blk_alloc ?_ _)); exact BK147.out) hb)
                            have n2_ := Aside0.mk (blk_below (g := gb149) (o := .cells #[.int .i64 0, .int .i64 0, .int .i64 0] 23 (0, 0)) (by (with_reducible repeat (first | refine blk_drewN ?_ _ | refine blk_drew ?_ | refine blk_alloc ?_ _)); exact BK149.out) hb)
                            have n3_ := Aside0.mk (below_step (by repeat (first | (with_reducible first | exact HB.out | apply below_alloc | apply pw_below_drewN | apply below_drew1 | refine below_set ?_ GE146.out | refine below_set ?_ GE147.out | refine below_set ?_ GE149.out) | exact HB.out)) hb)
                            have n4_ := Aside0.mk (hbox)
                            have n5_ := Aside0.mk ((by rw [hg]; exact (below_size (by repeat (first | (with_reducible first | exact HB.out | apply below_alloc | apply pw_below_drewN | apply below_drew1 | refine below_set ?_ GE146.out | refine below_set ?_ GE147.out | refine below_set ?_ GE149.out) | exact HB.out))) : w.heap.size ≤ gb148))
                            have n6_ := Aside0.mk ((by rw [hg]; exact (below_size (by repeat (first | (with_reducible first | exact HB.out | apply below_alloc | apply pw_below_drewN | apply below_drew1 | refine below_set ?_ GE146.out | refine below_set ?_ GE147.out | refine below_set ?_ GE149.out) | exact HB.out))) : w.heap.size ≤ gb148))
                            have n7_ := Aside0.mk ((by rw [hg]; exact Nat.ne_of_lt (blk_lt (g := gb146) (o := .cells #[.int .i64 (wrap64 (1 + t143)), .int .i64 (wrap64 (4 + (wrap64 (4 * t144)))), .int .i64 (wrap64 (16 + t145))] 23 (0, 0)) (by (with_reducible repeat (first | refine blk_drewN ?_ _ | refine blk_drew ?_ | refine blk_alloc ?_ _)); exact BK146.out)) : gb146 ≠ gb148))
                            have n8_ := Aside0.mk ((by rw [hg]; exact Nat.ne_of_gt (blk_lt (g := gb146) (o := .cells #[.int .i64 (wrap64 (1 + t143)), .int .i64 (wrap64 (4 + (wrap64 (4 * t144)))), .int .i64 (wrap64 (16 + t145))] 23 (0, 0)) (by (with_reducible repeat (first | refine blk_drewN ?_ _ | refine blk_drew ?_ | refine blk_alloc ?_ _)); exact BK146.out)) : gb148 ≠ gb146))
                            have n9_ := Aside0.mk ((by rw [hg]; exact Nat.ne_of_lt (blk_lt (g := gb147) (o := .cells #[.int .i64 0, .int .i64 0, .int .i64 0] 23 (0, 0)) (by (with_reducible repeat (first | refine blk_drewN ?_ _ | refine blk_drew ?_ | refine blk_alloc ?_ _)); exact BK147.out)) : gb147 ≠ gb148))
                            have n10_ := Aside0.mk ((by rw [hg]; exact Nat.ne_of_gt (blk_lt (g := gb147) (o := .cells #[.int .i64 0, .int .i64 0, .int .i64 0] 23 (0, 0)) (by (with_reducible repeat (first | refine blk_drewN ?_ _ | refine blk_drew ?_ | refine blk_alloc ?_ _)); exact BK147.out)) : gb148 ≠ gb147))
                            have n11_ := Aside0.mk ((by rw [hg]; exact Nat.ne_of_lt (blk_lt (g := gb149) (o := .cells #[.int .i64 0, .int .i64 0, .int .i64 0] 23 (0, 0)) (by (with_reducible repeat (first | refine blk_drewN ?_ _ | refine blk_drew ?_ | refine blk_alloc ?_ _)); exact BK149.out)) : gb149 ≠ gb148))
                            have n12_ := Aside0.mk ((by rw [hg]; exact Nat.ne_of_gt (blk_lt (g := gb149) (o := .cells #[.int .i64 0, .int .i64 0, .int .i64 0] 23 (0, 0)) (by (with_reducible repeat (first | refine blk_drewN ?_ _ | refine blk_drew ?_ | refine blk_alloc ?_ _)); exact BK149.out)) : gb148 ≠ gb149))
                            clear BK146
                            clear BK147
                            clear BK149
                            clear HB
                            have BK146 := n0_
                            have BK147 := n1_
                            have BK149 := n2_
                            have HB := n3_
                            have BK148 := n4_
                            have GW148 := n5_
                            have GE148 := n6_
                            have NB146_148 := n7_
                            have NB148_146 := n8_
                            have NB147_148 := n9_
                            have NB148_147 := n10_
                            have NB149_148 := n11_
                            have NB148_149 := n12_
                            clear n0_ n1_ n2_ n3_ n4_ n5_ n6_ n7_ n8_ n9_ n10_ n11_ n12_
                            clear hb hbox hg
                            refine hK.out _ _ ⟨(blk_cell BK146.out 0).trans rfl, (blk_cell BK146.out 1).trans rfl, (blk_cell BK146.out 2).trans rfl⟩ (fun hHeld => ?_)
                            clear hK K
                            refine norm_ (a' := ?_) ?_ ?_
                            rotate_left
                            · show Act.put _ (some 11) _ = _
                              simp only [Act.put, List.setIfInBounds_toArray, List.set_cons_zero, List.set_cons_succ, i64_w, i32_w]
                              rfl
                            exact norm_ (by first | (simp only [putAll, Act.put, List.setIfInBounds_toArray, List.set_cons_zero, List.set_cons_succ]; done) | (simp only [putAll, Act.put, List.setIfInBounds_toArray, List.set_cons_zero, List.set_cons_succ]; rfl)) (hJ3_4_5 (gb147, gb148, gb149) _ ⟨hHeld, (by (with_reducible repeat (first | refine blk_drewN ?_ _ | refine blk_drew ?_ | refine blk_alloc ?_ _)); exact BK146.out), (by (with_reducible repeat (first | refine blk_drewN ?_ _ | refine blk_drew ?_ | refine blk_alloc ?_ _)); exact BK147.out), (by (with_reducible repeat (first | refine blk_drewN ?_ _ | refine blk_drew ?_ | refine blk_alloc ?_ _)); exact BK148.out), (by (with_reducible repeat (first | refine blk_drewN ?_ _ | refine blk_drew ?_ | refine blk_alloc ?_ _)); exact BK149.out), GW147.out, GE147.out, NB146_147.out, NB147_146.out, NB148_147.out, NB147_148.out, NB149_147.out, NB147_149.out, GW148.out, GE148.out, NB146_148.out, NB148_146.out, NB149_148.out, NB148_149.out, GW149.out, GE149.out, NB146_149.out, NB149_146.out, (by repeat (first | (with_reducible first | exact HB.out | apply below_alloc | apply pw_below_drewN | apply below_drew1 | refine below_set ?_ GE146.out | refine below_set ?_ GE147.out | refine below_set ?_ GE149.out | refine below_set ?_ GE148.out) | exact HB.out))⟩)
                        · skip
                          rintro ⟨gb147, gb148⟩ w39 ⟨hS_, h0_, h1_, h2_, h3_, h4_, h5_, h6_, h7_, h8_, h9_, h10_, h11_, h12_, h13_⟩
                          have n0_ : Aside0 (w39.heap[gb146]? = some (.cells #[.int .i64 (wrap64 (1 + t143)), .int .i64 (wrap64 (4 + (wrap64 (4 * t144)))), .int .i64 (wrap64 (16 + t145))] 23 (0, 0))) := ⟨h0_⟩
                          have n1_ : Aside0 (w39.heap[gb147]? = some (.cells #[.int .i64 0, .int .i64 0, .int .i64 0] 23 (0, 0))) := ⟨h1_⟩
                          have n2_ : Aside0 (w39.heap[gb148]? = some (.cells #[.int .i64 0, .int .i64 0, .int .i64 0] 23 (0, 0))) := ⟨h2_⟩
                          have n3_ : Aside0 (w.heap.size ≤ gb147) := ⟨h3_⟩
                          have n4_ : Aside0 (w.heap.size ≤ gb147) := ⟨h4_⟩
                          have n5_ : Aside0 (gb146 ≠ gb147) := ⟨h5_⟩
                          have n6_ : Aside0 (gb147 ≠ gb146) := ⟨h6_⟩
                          have n7_ : Aside0 (gb148 ≠ gb147) := ⟨h7_⟩
                          have n8_ : Aside0 (gb147 ≠ gb148) := ⟨h8_⟩
                          have n9_ : Aside0 (w.heap.size ≤ gb148) := ⟨h9_⟩
                          have n10_ : Aside0 (w.heap.size ≤ gb148) := ⟨h10_⟩
                          have n11_ : Aside0 (gb146 ≠ gb148) := ⟨h11_⟩
                          have n12_ : Aside0 (gb148 ≠ gb146) := ⟨h12_⟩
                          have n13_ : Aside0 (Below w.heap.size w w39) := ⟨h13_⟩
                          clear BK146
                          clear HB
                          clear h0_ h1_ h2_ h3_ h4_ h5_ h6_ h7_ h8_ h9_ h10_ h11_ h12_ h13_
                          have BK146 := n0_
                          have BK147 := n1_
                          have BK148 := n2_
                          have GW147 := n3_
                          have GE147 := n4_
                          have NB146_147 := n5_
                          have NB147_146 := n6_
                          have NB148_147 := n7_
                          have NB147_148 := n8_
                          have GW148 := n9_
                          have GE148 := n10_
                          have NB146_148 := n11_
                          have NB148_146 := n12_
                          have HB := n13_
                          clear n0_ n1_ n2_ n3_ n4_ n5_ n6_ n7_ n8_ n9_ n10_ n11_ n12_ n13_
                          have hHeld : w39.cell? ⟨gb146, 0, none⟩ = some (.int .i64 (wrap64 (1 + t143))) ∧ w39.cell? ⟨gb146, 1, none⟩ = some (.int .i64 (wrap64 (4 + (wrap64 (4 * t144))))) ∧ w39.cell? ⟨gb146, 2, none⟩ = some (.int .i64 (wrap64 (16 + t145))) := hS_
                          refine norm_ (a' := ?_) ?_ ?_
                          rotate_left
                          · simp only [putAll, Act.put, List.setIfInBounds_toArray, List.set_cons_zero, List.set_cons_succ]
                            rfl
                          refine one_ (i := 5) (N := some 12) #[true, true, true, true, true, true, false, false, false] rfl rfl (one_of HT_.out (by kernel_rfl)) (by decide) (fun K hK => ?_)
                          refine box_step ?hg (N := 12) ?hd (cs := #[.int .i64 0, .int .i64 0, .int .i64 0]) (t := 23) ?hr ?_; (case hd => rfl); (case hg => rfl); (case hr => first | (go_simp; done) | (go_simp; rfl))
                          intro gb149 hg w40 hbox hb
                          have n0_ := Aside0.mk (blk_below (g := gb146) (o := .cells #[.int .i64 (wrap64 (1 + t143)), .int .i64 (wrap64 (4 + (wrap64 (4 * t144)))), .int .i64 (wrap64 (16 + t145))] 23 (0, 0)) (by (with_reducible repeat (first | refine blk_drewN ?_ _ | refine blk_drew ?_ | refine blk_alloc ?_ _)); exact BK146.out) hb)
                          have n1_ := Aside0.mk (blk_below (g := gb147) (o := .cells #[.int .i64 0, .int .i64 0, .int .i64 0] 23 (0, 0)) (by (with_reducible repeat (first | refine blk_drewN ?_ _ | refine blk_drew ?_ | refine blk_alloc ?_ _)); exact BK147.out) hb)
                          have n2_ := Aside0.mk (blk_below (g := gb148) (o := .cells #[.int .i64 0, .int .i64 0, .int .i64 0] 23 (0, 0)) (by (with_reducible repeat (first | refine blk_drewN ?_ _ | refine blk_drew ?_ | refine blk_alloc ?_ _)); exact BK148.out) hb)
                          have n3_ := Aside0.mk (below_step (by repeat (first | (with_reducible first | exact HB.out | apply below_alloc | apply pw_below_drewN | apply below_drew1 | refine below_set ?_ GE146.out | refine below_set ?_ GE147.out | refine below_set ?_ GE148.out) | exact HB.out)) hb)
                          have n4_ := Aside0.mk (hbox)
                          have n5_ := Aside0.mk ((by rw [hg]; exact (below_size (by repeat (first | (with_reducible first | exact HB.out | apply below_alloc | apply pw_below_drewN | apply below_drew1 | refine below_set ?_ GE146.out | refine below_set ?_ GE147.out | refine below_set ?_ GE148.out) | exact HB.out))) : w.heap.size ≤ gb149))
                          have n6_ := Aside0.mk ((by rw [hg]; exact (below_size (by repeat (first | (with_reducible first | exact HB.out | apply below_alloc | apply pw_below_drewN | apply below_drew1 | refine below_set ?_ GE146.out | refine below_set ?_ GE147.out | refine below_set ?_ GE148.out) | exact HB.out))) : w.heap.size ≤ gb149))
                          have n7_ := Aside0.mk ((by rw [hg]; exact Nat.ne_of_lt (blk_lt (g := gb146) (o := .cells #[.int .i64 (wrap64 (1 + t143)), .int .i64 (wrap64 (4 + (wrap64 (4 * t144)))), .int .i64 (wrap64 (16 + t145))] 23 (0, 0)) (by (with_reducible repeat (first | refine blk_drewN ?_ _ | refine blk_drew ?_ | refine blk_alloc ?_ _)); exact BK146.out)) : gb146 ≠ gb149))
                          have n8_ := Aside0.mk ((by rw [hg]; exact Nat.ne_of_gt (blk_lt (g := gb146) (o := .cells #[.int .i64 (wrap64 (1 + t143)), .int .i64 (wrap64 (4 + (wrap64 (4 * t144)))), .int .i64 (wrap64 (16 + t145))] 23 (0, 0)) (by (with_reducible repeat (first | refine blk_drewN ?_ _ | refine blk_drew ?_ | refine blk_alloc ?_ _)); exact BK146.out)) : gb149 ≠ gb146))
                          have n9_ := Aside0.mk ((by rw [hg]; exact Nat.ne_of_lt (blk_lt (g := gb147) (o := .cells #[.int .i64 0, .int .i64 0, .int .i64 0] 23 (0, 0)) (by (with_reducible repeat (first | refine blk_drewN ?_ _ | refine blk_drew ?_ | refine blk_alloc ?_ _)); exact BK147.out)) : gb147 ≠ gb149))
                          have n10_ := Aside0.mk ((by rw [hg]; exact Nat.ne_of_gt (blk_lt (g := gb147) (o := .cells #[.int .i64 0, .int .i64 0, .int .i64 0] 23 (0, 0)) (by (with_reducible repeat (first | refine blk_drewN ?_ _ | refine blk_drew ?_ | refine blk_alloc ?_ _)); exact BK147.out)) : gb149 ≠ gb147))
                          have n11_ := Aside0.mk ((by rw [hg]; exact Nat.ne_of_lt (blk_lt (g := gb148) (o := .cells #[.int .i64 0, .int .i64 0, .int .i64 0] 23 (0, 0)) (by (with_reducible repeat (first | refine blk_drewN ?_ _ | refine blk_drew ?_ | refine blk_alloc ?_ _)); exact BK148.out)) : gb148 ≠ gb149))
                          have n12_ := Aside0.mk ((by rw [hg]; exact Nat.ne_of_gt (blk_lt (g := gb148) (o := .cells #[.int .i64 0, .int .i64 0, .int .i64 0] 23 (0, 0)) (by (with_reducible repeat (first | refine blk_drewN ?_ _ | refine blk_drew ?_ | refine blk_alloc ?_ _)); exact BK148.out)) : gb149 ≠ gb148))
                          clear BK146
                          clear BK147
                          clear BK148
                          clear HB
                          have BK146 := n0_
                          have BK147 := n1_
                          have BK148 := n2_
                          have HB := n3_
                          have BK149 := n4_
                          have GW149 := n5_
                          have GE149 := n6_
                          have NB146_149 := n7_
                          have NB149_146 := n8_
                          have NB147_149 := n9_
                          have NB149_147 := n10_
                          have NB148_149 := n11_
                          have NB149_148 := n12_
                          clear n0_ n1_ n2_ n3_ n4_ n5_ n6_ n7_ n8_ n9_ n10_ n11_ n12_
                          clear hb hbox hg
                          refine hK.out _ _ ⟨(blk_cell BK146.out 0).trans rfl, (blk_cell BK146.out 1).trans rfl, (blk_cell BK146.out 2).trans rfl⟩ (fun hHeld => ?_)
                          clear hK K
                          refine norm_ (a' := ?_) ?_ ?_
                          rotate_left
                          · show Act.put _ (some 12) _ = _
                            simp only [Act.put, List.setIfInBounds_toArray, List.set_cons_zero, List.set_cons_succ, i64_w, i32_w]
                            rfl
                          exact norm_ (by first | (simp only [putAll, Act.put, List.setIfInBounds_toArray, List.set_cons_zero, List.set_cons_succ]; done) | (simp only [putAll, Act.put, List.setIfInBounds_toArray, List.set_cons_zero, List.set_cons_succ]; rfl)) (hJ3_4_5 (gb147, gb148, gb149) _ ⟨hHeld, (by (with_reducible repeat (first | refine blk_drewN ?_ _ | refine blk_drew ?_ | refine blk_alloc ?_ _)); exact BK146.out), (by (with_reducible repeat (first | refine blk_drewN ?_ _ | refine blk_drew ?_ | refine blk_alloc ?_ _)); exact BK147.out), (by (with_reducible repeat (first | refine blk_drewN ?_ _ | refine blk_drew ?_ | refine blk_alloc ?_ _)); exact BK148.out), (by (with_reducible repeat (first | refine blk_drewN ?_ _ | refine blk_drew ?_ | refine blk_alloc ?_ _)); exact BK149.out), GW147.out, GE147.out, NB146_147.out, NB147_146.out, NB148_147.out, NB147_148.out, NB149_147.out, NB147_149.out, GW148.out, GE148.out, NB146_148.out, NB148_146.out, NB149_148.out, NB148_149.out, GW149.out, GE149.out, NB146_149.out, NB149_146.out, (by repeat (first | (with_reducible first | exact HB.out | apply below_alloc | apply pw_below_drewN | apply below_drew1 | refine below_set ?_ GE146.out | refine below_set ?_ GE147.out | refine below_set ?_ GE148.out | refine below_set ?_ GE149.out) | exact HB.out))⟩)
                      rintro ⟨gb147, gb148, gb149⟩ w40 ⟨hS_, h0_, h1_, h2_, h3_, h4_, h5_, h6_, h7_, h8_, h9_, h10_, h11_, h12_, h13_, h14_, h15_, h16_, h17_, h18_, h19_, h20_, h21_, h22_⟩
                      have n0_ : Aside0 (w40.heap[gb146]? = some (.cells #[.int .i64 (wrap64 (1 + t143)), .int .i64 (wrap64 (4 + (wrap64 (4 * t144)))), .int .i64 (wrap64 (16 + t145))] 23 (0, 0))) := ⟨h0_⟩
                      have n1_ : Aside0 (w40.heap[gb147]? = some (.cells #[.int .i64 0, .int .i64 0, .int .i64 0] 23 (0, 0))) := ⟨h1_⟩
                      have n2_ : Aside0 (w40.heap[gb148]? = some (.cells #[.int .i64 0, .int .i64 0, .int .i64 0] 23 (0, 0))) := ⟨h2_⟩
                      have n3_ : Aside0 (w40.heap[gb149]? = some (.cells #[.int .i64 0, .int .i64 0, .int .i64 0] 23 (0, 0))) := ⟨h3_⟩
                      have n4_ : Aside0 (w.heap.size ≤ gb147) := ⟨h4_⟩
                      have n5_ : Aside0 (w.heap.size ≤ gb147) := ⟨h5_⟩
                      have n6_ : Aside0 (gb146 ≠ gb147) := ⟨h6_⟩
                      have n7_ : Aside0 (gb147 ≠ gb146) := ⟨h7_⟩
                      have n8_ : Aside0 (gb148 ≠ gb147) := ⟨h8_⟩
                      have n9_ : Aside0 (gb147 ≠ gb148) := ⟨h9_⟩
                      have n10_ : Aside0 (gb149 ≠ gb147) := ⟨h10_⟩
                      have n11_ : Aside0 (gb147 ≠ gb149) := ⟨h11_⟩
                      have n12_ : Aside0 (w.heap.size ≤ gb148) := ⟨h12_⟩
                      have n13_ : Aside0 (w.heap.size ≤ gb148) := ⟨h13_⟩
                      have n14_ : Aside0 (gb146 ≠ gb148) := ⟨h14_⟩
                      have n15_ : Aside0 (gb148 ≠ gb146) := ⟨h15_⟩
                      have n16_ : Aside0 (gb149 ≠ gb148) := ⟨h16_⟩
                      have n17_ : Aside0 (gb148 ≠ gb149) := ⟨h17_⟩
                      have n18_ : Aside0 (w.heap.size ≤ gb149) := ⟨h18_⟩
                      have n19_ : Aside0 (w.heap.size ≤ gb149) := ⟨h19_⟩
                      have n20_ : Aside0 (gb146 ≠ gb149) := ⟨h20_⟩
                      have n21_ : Aside0 (gb149 ≠ gb146) := ⟨h21_⟩
                      have n22_ : Aside0 (Below w.heap.size w w40) := ⟨h22_⟩
                      clear BK146
                      clear HB
                      clear h0_ h1_ h2_ h3_ h4_ h5_ h6_ h7_ h8_ h9_ h10_ h11_ h12_ h13_ h14_ h15_ h16_ h17_ h18_ h19_ h20_ h21_ h22_
                      have BK146 := n0_
                      have BK147 := n1_
                      have BK148 := n2_
                      have BK149 := n3_
                      have GW147 := n4_
                      have GE147 := n5_
                      have NB146_147 := n6_
                      have NB147_146 := n7_
                      have NB148_147 := n8_
                      have NB147_148 := n9_
                      have NB149_147 := n10_
                      have NB147_149 := n11_
                      have GW148 := n12_
                      have GE148 := n13_
                      have NB146_148 := n14_
                      have NB148_146 := n15_
                      have NB149_148 := n16_
                      have NB148_149 := n17_
                      have GW149 := n18_
                      have GE149 := n19_
                      have NB146_149 := n20_
                      have NB149_146 := n21_
                      have HB := n22_
                      clear n0_ n1_ n2_ n3_ n4_ n5_ n6_ n7_ n8_ n9_ n10_ n11_ n12_ n13_ n14_ n15_ n16_ n17_ n18_ n19_ n20_ n21_ n22_
                      have hHeld : w40.cell? ⟨gb146, 0, none⟩ = some (.int .i64 (wrap64 (1 + t143))) ∧ w40.cell? ⟨gb146, 1, none⟩ = some (.int .i64 (wrap64 (4 + (wrap64 (4 * t144))))) ∧ w40.cell? ⟨gb146, 2, none⟩ = some (.int .i64 (wrap64 (16 + t145))) := hS_
                      refine norm_ (a' := ?_) ?_ ?_
                      rotate_left
                      · simp only [putAll, Act.put, List.setIfInBounds_toArray, List.set_cons_zero, List.set_cons_succ]
                        rfl
                      refine one_ (i := 6) (N := none) #[true, true, true, true, true, true, true, false, false] rfl rfl (one_of HT_.out (by kernel_rfl)) (by decide) (fun K hK => ?_)
                      have hs41 : w40.cell? ⟨gb147, 0, none⟩ = some (.int .i64 0) := (blk_cell BK147.out 0).trans rfl
                      have hfs41 := blk_frozen BK147.out 0
                      have hns41_0 := NB146_147.out
                      have hns41_2 := NB148_147.out
                      have hns41_3 := NB149_147.out
                      have hms41_0 := NB147_146.out
                      have hms41_2 := NB147_148.out
                      have hms41_3 := NB147_149.out
                      have hs42 : w40.cell? ⟨gb147, 1, none⟩ = some (.int .i64 0) := (blk_cell BK147.out 1).trans rfl
                      have hfs42 := blk_frozen BK147.out 1
                      have hns42_0 := NB146_147.out
                      have hns42_2 := NB148_147.out
                      have hns42_3 := NB149_147.out
                      have hms42_0 := NB147_146.out
                      have hms42_2 := NB147_148.out
                      have hms42_3 := NB147_149.out
                      have hs43 : w40.cell? ⟨gb147, 2, none⟩ = some (.int .i64 0) := (blk_cell BK147.out 2).trans rfl
                      have hfs43 := blk_frozen BK147.out 2
                      have hns43_0 := NB146_147.out
                      have hns43_2 := NB148_147.out
                      have hns43_3 := NB149_147.out
                      have hms43_0 := NB147_146.out
                      have hms43_2 := NB147_148.out
                      have hms43_3 := NB147_149.out
                      refine skip_ (w1 := ?_) (by rfl) rfl ?_ ?_
                      rotate_left
                      · go_simp
                        rfl
                      refine hK.out _ _ ⟨((cell_far (p := ⟨gb147, _, none⟩) NB146_147.out _).trans (((cell_far (p := ⟨gb147, _, none⟩) NB146_147.out _).trans (((cell_far (p := ⟨gb147, _, none⟩) NB146_147.out _).trans (hHeld.1)))))), ((cell_far (p := ⟨gb147, _, none⟩) NB146_147.out _).trans (((cell_far (p := ⟨gb147, _, none⟩) NB146_147.out _).trans (((cell_far (p := ⟨gb147, _, none⟩) NB146_147.out _).trans (hHeld.2.1)))))), ((cell_far (p := ⟨gb147, _, none⟩) NB146_147.out _).trans (((cell_far (p := ⟨gb147, _, none⟩) NB146_147.out _).trans (((cell_far (p := ⟨gb147, _, none⟩) NB146_147.out _).trans (hHeld.2.2))))))⟩ (fun hHeld => ?_)
                      clear hK K
                      refine one_ (i := 7) (N := none) #[true, true, true, true, true, true, true, true, false] rfl rfl (one_of HT_.out (by kernel_rfl)) (by decide) (fun K hK => ?_)
                      have hs44 : w40.cell? ⟨gb148, 0, none⟩ = some (.int .i64 0) := (blk_cell BK148.out 0).trans rfl
                      have hfs44 := blk_frozen BK148.out 0
                      have hns44_0 := NB146_148.out
                      have hns44_1 := NB147_148.out
                      have hns44_3 := NB149_148.out
                      have hms44_0 := NB148_146.out
                      have hms44_1 := NB148_147.out
                      have hms44_3 := NB148_149.out
                      have hs45 : w40.cell? ⟨gb148, 1, none⟩ = some (.int .i64 0) := (blk_cell BK148.out 1).trans rfl
                      have hfs45 := blk_frozen BK148.out 1
                      have hns45_0 := NB146_148.out
                      have hns45_1 := NB147_148.out
                      have hns45_3 := NB149_148.out
                      have hms45_0 := NB148_146.out
                      have hms45_1 := NB148_147.out
                      have hms45_3 := NB148_149.out
                      have hs46 : w40.cell? ⟨gb148, 2, none⟩ = some (.int .i64 0) := (blk_cell BK148.out 2).trans rfl
                      have hfs46 := blk_frozen BK148.out 2
                      have hns46_0 := NB146_148.out
                      have hns46_1 := NB147_148.out
                      have hns46_3 := NB149_148.out
                      have hms46_0 := NB148_146.out
                      have hms46_1 := NB148_147.out
                      have hms46_3 := NB148_149.out
                      refine skip_ (w1 := ?_) (by rfl) rfl ?_ ?_
                      rotate_left
                      · go_simp
                        rfl
                      refine hK.out _ _ ⟨((cell_far (p := ⟨gb148, _, none⟩) NB146_148.out _).trans (((cell_far (p := ⟨gb148, _, none⟩) NB146_148.out _).trans (((cell_far (p := ⟨gb148, _, none⟩) NB146_148.out _).trans (hHeld.1)))))), ((cell_far (p := ⟨gb148, _, none⟩) NB146_148.out _).trans (((cell_far (p := ⟨gb148, _, none⟩) NB146_148.out _).trans (((cell_far (p := ⟨gb148, _, none⟩) NB146_148.out _).trans (hHeld.2.1)))))), ((cell_far (p := ⟨gb148, _, none⟩) NB146_148.out _).trans (((cell_far (p := ⟨gb148, _, none⟩) NB146_148.out _).trans (((cell_far (p := ⟨gb148, _, none⟩) NB146_148.out _).trans (hHeld.2.2))))))⟩ (fun hHeld => ?_)
                      clear hK K
                      refine one_ (i := 8) (N := none) #[true, true, true, true, true, true, true, true, true] rfl rfl (one_of HT_.out (by kernel_rfl)) (by decide) (fun K hK => ?_)
                      have hs47 : w40.cell? ⟨gb149, 0, none⟩ = some (.int .i64 0) := (blk_cell BK149.out 0).trans rfl
                      have hfs47 := blk_frozen BK149.out 0
                      have hns47_0 := NB146_149.out
                      have hns47_1 := NB147_149.out
                      have hns47_2 := NB148_149.out
                      have hms47_0 := NB149_146.out
                      have hms47_1 := NB149_147.out
                      have hms47_2 := NB149_148.out
                      have hs48 : w40.cell? ⟨gb149, 1, none⟩ = some (.int .i64 0) := (blk_cell BK149.out 1).trans rfl
                      have hfs48 := blk_frozen BK149.out 1
                      have hns48_0 := NB146_149.out
                      have hns48_1 := NB147_149.out
                      have hns48_2 := NB148_149.out
                      have hms48_0 := NB149_146.out
                      have hms48_1 := NB149_147.out
                      have hms48_2 := NB149_148.out
                      have hs49 : w40.cell? ⟨gb149, 2, none⟩ = some (.int .i64 0) := (blk_cell BK149.out 2).trans rfl
                      have hfs49 := blk_frozen BK149.out 2
                      have hns49_0 := NB146_149.out
                      have hns49_1 := NB147_149.out
                      have hns49_2 := NB148_149.out
                      have hms49_0 := NB149_146.out
                      have hms49_1 := NB149_147.out
                      have hms49_2 := NB149_148.out
                      refine skip_ (w1 := ?_) (by rfl) rfl ?_ ?_
                      rotate_left
                      · go_simp
                        rfl
                      refine hK.out _ _ ⟨((cell_far (p := ⟨gb149, _, none⟩) NB146_149.out _).trans (((cell_far (p := ⟨gb149, _, none⟩) NB146_149.out _).trans (((cell_far (p := ⟨gb149, _, none⟩) NB146_149.out _).trans (hHeld.1)))))), ((cell_far (p := ⟨gb149, _, none⟩) NB146_149.out _).trans (((cell_far (p := ⟨gb149, _, none⟩) NB146_149.out _).trans (((cell_far (p := ⟨gb149, _, none⟩) NB146_149.out _).trans (hHeld.2.1)))))), ((cell_far (p := ⟨gb149, _, none⟩) NB146_149.out _).trans (((cell_far (p := ⟨gb149, _, none⟩) NB146_149.out _).trans (((cell_far (p := ⟨gb149, _, none⟩) NB146_149.out _).trans (hHeld.2.2))))))⟩ (fun hHeld => ?_)
                      clear hK K
                      refine done_ (done_of HT_.out (by kernel_rfl)) ?_
                      have hnb50 := NB147_146.out
                      have hnc50 := NB146_147.out
                      have hnb51 := NB147_148.out
                      have hnc51 := NB148_147.out
                      have hnb52 := NB147_149.out
                      have hnc52 := NB149_147.out
                      have hcz53_0 : w40.cell? ⟨gb147, 0, none⟩ = some (.int .i64 0) := (blk_cell BK147.out 0).trans rfl
                      have hcz53_1 : w40.cell? ⟨gb147, 1, none⟩ = some (.int .i64 0) := (blk_cell BK147.out 1).trans rfl
                      have hcz53_2 : w40.cell? ⟨gb147, 2, none⟩ = some (.int .i64 0) := (blk_cell BK147.out 2).trans rfl
                      have hfz53_0 := blk_frozen BK147.out 0
                      have hfz53_1 := blk_frozen BK147.out 1
                      have hfz53_2 := blk_frozen BK147.out 2
                      have hnb54 := NB148_146.out
                      have hnc54 := NB146_148.out
                      have hnb55 := NB148_149.out
                      have hnc55 := NB149_148.out
                      have hcz56_0 : w40.cell? ⟨gb148, 0, none⟩ = some (.int .i64 0) := (blk_cell BK148.out 0).trans rfl
                      have hcz56_1 : w40.cell? ⟨gb148, 1, none⟩ = some (.int .i64 0) := (blk_cell BK148.out 1).trans rfl
                      have hcz56_2 : w40.cell? ⟨gb148, 2, none⟩ = some (.int .i64 0) := (blk_cell BK148.out 2).trans rfl
                      have hfz56_0 := blk_frozen BK148.out 0
                      have hfz56_1 := blk_frozen BK148.out 1
                      have hfz56_2 := blk_frozen BK148.out 2
                      have hnb57 := NB149_146.out
                      have hnc57 := NB146_149.out
                      have hcz58_0 : w40.cell? ⟨gb149, 0, none⟩ = some (.int .i64 0) := (blk_cell BK149.out 0).trans rfl
                      have hcz58_1 : w40.cell? ⟨gb149, 1, none⟩ = some (.int .i64 0) := (blk_cell BK149.out 1).trans rfl
                      have hcz58_2 : w40.cell? ⟨gb149, 2, none⟩ = some (.int .i64 0) := (blk_cell BK149.out 2).trans rfl
                      have hfz58_0 := blk_frozen BK149.out 0
                      have hfz58_1 := blk_frozen BK149.out 1
                      have hfz58_2 := blk_frozen BK149.out 2
                      have hcz59_0 : w40.cell? ⟨gb146, 0, none⟩ = some (.int .i64 (wrap64 (1 + t143))) := (blk_cell BK146.out 0).trans rfl
                      have hcz59_1 : w40.cell? ⟨gb146, 1, none⟩ = some (.int .i64 (wrap64 (4 + (wrap64 (4 * t144))))) := (blk_cell BK146.out 1).trans rfl
                      have hcz59_2 : w40.cell? ⟨gb146, 2, none⟩ = some (.int .i64 (wrap64 (16 + t145))) := (blk_cell BK146.out 2).trans rfl
                      have hfz59_0 := blk_frozen BK146.out 0
                      have hfz59_1 := blk_frozen BK146.out 1
                      have hfz59_2 := blk_frozen BK146.out 2
                      try go_wp2_with (first | ((with_reducible refine gate_callee (f := 25) rfl ?_); refine goesL_ (some 49) rfl rfl Try.func25 (by kernel_rfl) rfl #[.int .i64 a3, .int .i64 (wrap64 (4 + (wrap64 (4 * t144))))] rfl (by (try simp only [List.map_toArray, List.map_cons, List.map_nil]); first | done | rfl | (simp only [List.length_drop, List.length_take]; rfl)) ?_; (with_reducible refine (purlinlaw0_Low.calls a3 (wrap64 (4 + (wrap64 (4 * t144)))) t150 _ A8.out).mono ?_); rintro e w' ⟨rfl, ⟨nd, rfl⟩⟩; refine ⟨_, rfl, ?_⟩) | ((with_reducible refine gate_callee (f := 6) rfl ?_); refine goesL_ (some 54) rfl rfl Try.func6 (by kernel_rfl) rfl #[.agg #[.int .i64 (wrap64 (1 + t143)), .int .i64 (wrap64 (4 + (wrap64 (4 * t144)))), .int .i64 (wrap64 (16 + t145))], .int .i64 (wrap64 (1 + t150))] rfl (by (try simp only [List.map_toArray, List.map_cons, List.map_nil]); first | done | rfl | (simp only [List.length_drop, List.length_take]; rfl)) ?_; (with_reducible refine (geom_Inode.calls (wrap64 (1 + t143)) (wrap64 (4 + (wrap64 (4 * t144)))) (wrap64 (16 + t145)) (wrap64 (1 + t150)) t151 t152 _ A9.out).mono ?_); rintro e w60 ⟨rfl, hb⟩; refine ⟨_, rfl, ?_⟩; have n0_ := Aside0.mk (blk_below (g := gb146) (o := .cells #[.int .i64 (wrap64 (1 + t143)), .int .i64 (wrap64 (4 + (wrap64 (4 * t144)))), .int .i64 (wrap64 (16 + t145))] 23 (0, 0)) (by (with_reducible repeat (first | refine blk_drewN ?_ _ | refine blk_drew ?_ | refine blk_alloc ?_ _)); refine blk_far ?_ NB146_149.out _; (with_reducible repeat (first | refine blk_drewN ?_ _ | refine blk_drew ?_ | refine blk_alloc ?_ _)); refine blk_far ?_ NB146_148.out _; (with_reducible repeat (first | refine blk_drewN ?_ _ | refine blk_drew ?_ | refine blk_alloc ?_ _)); refine blk_far ?_ NB146_147.out _; (with_reducible repeat (first | refine blk_drewN ?_ _ | refine blk_drew ?_ | refine blk_alloc ?_ _)); refine blk_far ?_ NB146_149.out _; (with_reducible repeat (first | refine blk_drewN ?_ _ | refine blk_drew ?_ | refine blk_alloc ?_ _)); refine blk_far ?_ NB146_149.out _; (with_reducible repeat (first | refine blk_drewN ?_ _ | refine blk_drew ?_ | refine blk_alloc ?_ _)); refine blk_far ?_ NB146_149.out _; (with_reducible repeat (first | refine blk_drewN ?_ _ | refine blk_drew ?_ | refine blk_alloc ?_ _)); refine blk_far ?_ NB146_148.out _; (with_reducible repeat (first | refine blk_drewN ?_ _ | refine blk_drew ?_ | refine blk_alloc ?_ _)); refine blk_far ?_ NB146_148.out _; (with_reducible repeat (first | refine blk_drewN ?_ _ | refine blk_drew ?_ | refine blk_alloc ?_ _)); refine blk_far ?_ NB146_148.out _; (with_reducible repeat (first | refine blk_drewN ?_ _ | refine blk_drew ?_ | refine blk_alloc ?_ _)); refine blk_far ?_ NB146_147.out _; (with_reducible repeat (first | refine blk_drewN ?_ _ | refine blk_drew ?_ | refine blk_alloc ?_ _)); refine blk_far ?_ NB146_147.out _; (with_reducible repeat (first | refine blk_drewN ?_ _ | refine blk_drew ?_ | refine blk_alloc ?_ _)); refine blk_far ?_ NB146_147.out _; (with_reducible repeat (first | refine blk_drewN ?_ _ | refine blk_drew ?_ | refine blk_alloc ?_ _)); exact BK146.out) hb); have n1_ := Aside0.mk (blk_below (g := gb147) (o := .cells #[.int .i64 (wrap64 (1 + t143)), .int .i64 (wrap64 (4 + (wrap64 (4 * t144)))), .int .i64 (wrap64 ((wrap64 (16 + t145)) + 1))] 23 (0, 0)) (by (with_reducible repeat (first | refine blk_drewN ?_ _ | refine blk_drew ?_ | refine blk_alloc ?_ _)); refine blk_far ?_ NB147_149.out _; (with_reducible repeat (first | refine blk_drewN ?_ _ | refine blk_drew ?_ | refine blk_alloc ?_ _)); refine blk_far ?_ NB147_148.out _; (with_reducible repeat (first | refine blk_drewN ?_ _ | refine blk_drew ?_ | refine blk_alloc ?_ _)); refine blk_put (cs := #[.int .i64 (wrap64 (1 + t143)), .int .i64 (wrap64 (4 + (wrap64 (4 * t144)))), .int .i64 (wrap64 (16 + t145))]) ?_ 2 _ rfl; (with_reducible repeat (first | refine blk_drewN ?_ _ | refine blk_drew ?_ | refine blk_alloc ?_ _)); refine blk_far ?_ NB147_149.out _; (with_reducible repeat (first | refine blk_drewN ?_ _ | refine blk_drew ?_ | refine blk_alloc ?_ _)); refine blk_far ?_ NB147_149.out _; (with_reducible repeat (first | refine blk_drewN ?_ _ | refine blk_drew ?_ | refine blk_alloc ?_ _)); refine blk_far ?_ NB147_149.out _; (with_reducible repeat (first | refine blk_drewN ?_ _ | refine blk_drew ?_ | refine blk_alloc ?_ _)); refine blk_far ?_ NB147_148.out _; (with_reducible repeat (first | refine blk_drewN ?_ _ | refine blk_drew ?_ | refine blk_alloc ?_ _)); refine blk_far ?_ NB147_148.out _; (with_reducible repeat (first | refine blk_drewN ?_ _ | refine blk_drew ?_ | refine blk_alloc ?_ _)); refine blk_far ?_ NB147_148.out _; (with_reducible repeat (first | refine blk_drewN ?_ _ | refine blk_drew ?_ | refine blk_alloc ?_ _)); refine blk_put (cs := #[.int .i64 (wrap64 (1 + t143)), .int .i64 (wrap64 (4 + (wrap64 (4 * t144)))), .int .i64 0]) ?_ 2 _ rfl; (with_reducible repeat (first | refine blk_drewN ?_ _ | refine blk_drew ?_ | refine blk_alloc ?_ _)); refine blk_put (cs := #[.int .i64 (wrap64 (1 + t143)), .int .i64 0, .int .i64 0]) ?_ 1 _ rfl; (with_reducible repeat (first | refine blk_drewN ?_ _ | refine blk_drew ?_ | refine blk_alloc ?_ _)); refine blk_put (cs := #[.int .i64 0, .int .i64 0, .int .i64 0]) ?_ 0 _ rfl; (with_reducible repeat (first | refine blk_drewN ?_ _ | refine blk_drew ?_ | refine blk_alloc ?_ _)); exact BK147.out) hb); have n2_ := Aside0.mk (blk_below (g := gb148) (o := .cells #[.int .i64 (wrap64 (1 + t143)), .int .i64 (wrap64 ((wrap64 (4 + (wrap64 (4 * t144)))) + 4)), .int .i64 (wrap64 (16 + t145))] 23 (0, 0)) (by (with_reducible repeat (first | refine blk_drewN ?_ _ | refine blk_drew ?_ | refine blk_alloc ?_ _)); refine blk_far ?_ NB148_149.out _; (with_reducible repeat (first | refine blk_drewN ?_ _ | refine blk_drew ?_ | refine blk_alloc ?_ _)); refine blk_put (cs := #[.int .i64 (wrap64 (1 + t143)), .int .i64 (wrap64 (4 + (wrap64 (4 * t144)))), .int .i64 (wrap64 (16 + t145))]) ?_ 1 _ rfl; (with_reducible repeat (first | refine blk_drewN ?_ _ | refine blk_drew ?_ | refine blk_alloc ?_ _)); refine blk_far ?_ NB148_147.out _; (with_reducible repeat (first | refine blk_drewN ?_ _ | refine blk_drew ?_ | refine blk_alloc ?_ _)); refine blk_far ?_ NB148_149.out _; (with_reducible repeat (first | refine blk_drewN ?_ _ | refine blk_drew ?_ | refine blk_alloc ?_ _)); refine blk_far ?_ NB148_149.out _; (with_reducible repeat (first | refine blk_drewN ?_ _ | refine blk_drew ?_ | refine blk_alloc ?_ _)); refine blk_far ?_ NB148_149.out _; (with_reducible repeat (first | refine blk_drewN ?_ _ | refine blk_drew ?_ | refine blk_alloc ?_ _)); refine blk_put (cs := #[.int .i64 (wrap64 (1 + t143)), .int .i64 (wrap64 (4 + (wrap64 (4 * t144)))), .int .i64 0]) ?_ 2 _ rfl; (with_reducible repeat (first | refine blk_drewN ?_ _ | refine blk_drew ?_ | refine blk_alloc ?_ _)); refine blk_put (cs := #[.int .i64 (wrap64 (1 + t143)), .int .i64 0, .int .i64 0]) ?_ 1 _ rfl; (with_reducible repeat (first | refine blk_drewN ?_ _ | refine blk_drew ?_ | refine blk_alloc ?_ _)); refine blk_put (cs := #[.int .i64 0, .int .i64 0, .int .i64 0]) ?_ 0 _ rfl; (with_reducible repeat (first | refine blk_drewN ?_ _ | refine blk_drew ?_ | refine blk_alloc ?_ _)); refine blk_far ?_ NB148_147.out _; (with_reducible repeat (first | refine blk_drewN ?_ _ | refine blk_drew ?_ | refine blk_alloc ?_ _)); refine blk_far ?_ NB148_147.out _; (with_reducible repeat (first | refine blk_drewN ?_ _ | refine blk_drew ?_ | refine blk_alloc ?_ _)); refine blk_far ?_ NB148_147.out _; (with_reducible repeat (first | refine blk_drewN ?_ _ | refine blk_drew ?_ | refine blk_alloc ?_ _)); exact BK148.out) hb); have n3_ := Aside0.mk (blk_below (g := gb149) (o := .cells #[.int .i64 (wrap64 ((wrap64 (1 + t143)) + 1)), .int .i64 (wrap64 (4 + (wrap64 (4 * t144)))), .int .i64 (wrap64 (16 + t145))] 23 (0, 0)) (by (with_reducible repeat (first | refine blk_drewN ?_ _ | refine blk_drew ?_ | refine blk_alloc ?_ _)); refine blk_put (cs := #[.int .i64 (wrap64 (1 + t143)), .int .i64 (wrap64 (4 + (wrap64 (4 * t144)))), .int .i64 (wrap64 (16 + t145))]) ?_ 0 _ rfl; (with_reducible repeat (first | refine blk_drewN ?_ _ | refine blk_drew ?_ | refine blk_alloc ?_ _)); refine blk_far ?_ NB149_148.out _; (with_reducible repeat (first | refine blk_drewN ?_ _ | refine blk_drew ?_ | refine blk_alloc ?_ _)); refine blk_far ?_ NB149_147.out _; (with_reducible repeat (first | refine blk_drewN ?_ _ | refine blk_drew ?_ | refine blk_alloc ?_ _)); refine blk_put (cs := #[.int .i64 (wrap64 (1 + t143)), .int .i64 (wrap64 (4 + (wrap64 (4 * t144)))), .int .i64 0]) ?_ 2 _ rfl; (with_reducible repeat (first | refine blk_drewN ?_ _ | refine blk_drew ?_ | refine blk_alloc ?_ _)); refine blk_put (cs := #[.int .i64 (wrap64 (1 + t143)), .int .i64 0, .int .i64 0]) ?_ 1 _ rfl; (with_reducible repeat (first | refine blk_drewN ?_ _ | refine blk_drew ?_ | refine blk_alloc ?_ _)); refine blk_put (cs := #[.int .i64 0, .int .i64 0, .int .i64 0]) ?_ 0 _ rfl; (with_reducible repeat (first | refine blk_drewN ?_ _ | refine blk_drew ?_ | refine blk_alloc ?_ _)); refine blk_far ?_ NB149_148.out _; (with_reducible repeat (first | refine blk_drewN ?_ _ | refine blk_drew ?_ | refine blk_alloc ?_ _)); refine blk_far ?_ NB149_148.out _; (with_reducible repeat (first | refine blk_drewN ?_ _ | refine blk_drew ?_ | refine blk_alloc ?_ _)); refine blk_far ?_ NB149_148.out _; (with_reducible repeat (first | refine blk_drewN ?_ _ | refine blk_drew ?_ | refine blk_alloc ?_ _)); refine blk_far ?_ NB149_147.out _; (with_reducible repeat (first | refine blk_drewN ?_ _ | refine blk_drew ?_ | refine blk_alloc ?_ _)); refine blk_far ?_ NB149_147.out _; (with_reducible repeat (first | refine blk_drewN ?_ _ | refine blk_drew ?_ | refine blk_alloc ?_ _)); refine blk_far ?_ NB149_147.out _; (with_reducible repeat (first | refine blk_drewN ?_ _ | refine blk_drew ?_ | refine blk_alloc ?_ _)); exact BK149.out) hb); have n4_ := Aside0.mk (below_step (by repeat (first | (with_reducible first | exact HB.out | apply below_alloc | apply pw_below_drewN | apply below_drew1 | refine below_set ?_ GE146.out | refine below_set ?_ GE147.out | refine below_set ?_ GE148.out | refine below_set ?_ GE149.out) | exact HB.out)) hb); clear BK146; clear BK147; clear BK148; clear BK149; clear HB; have BK146 := n0_; have BK147 := n1_; have BK148 := n2_; have BK149 := n3_; have HB := n4_; clear n0_ n1_ n2_ n3_ n4_; (try clear hb); (try clear hb2); (try clear hk); (try clear hi); have hcz61_0 : w60.cell? ⟨gb149, 0, none⟩ = some (.int .i64 (wrap64 ((wrap64 (1 + t143)) + 1))) := (blk_cell BK149.out 0).trans rfl; have hcz61_1 : w60.cell? ⟨gb149, 1, none⟩ = some (.int .i64 (wrap64 (4 + (wrap64 (4 * t144))))) := (blk_cell BK149.out 1).trans rfl; have hcz61_2 : w60.cell? ⟨gb149, 2, none⟩ = some (.int .i64 (wrap64 (16 + t145))) := (blk_cell BK149.out 2).trans rfl; have hfz61_0 := blk_frozen BK149.out 0; have hfz61_1 := blk_frozen BK149.out 1; have hfz61_2 := blk_frozen BK149.out 2) | ((with_reducible refine gate_callee (f := 6) rfl ?_); refine goesL_ (some 60) rfl rfl Try.func6 (by kernel_rfl) rfl #[.agg #[.int .i64 (wrap64 ((wrap64 (1 + t143)) + 1)), .int .i64 (wrap64 (4 + (wrap64 (4 * t144)))), .int .i64 (wrap64 (16 + t145))], .int .i64 (wrap64 (1 + t150))] rfl (by (try simp only [List.map_toArray, List.map_cons, List.map_nil]); first | done | rfl | (simp only [List.length_drop, List.length_take]; rfl)) ?_; (with_reducible refine (geom_Inode.calls (wrap64 ((wrap64 (1 + t143)) + 1)) (wrap64 (4 + (wrap64 (4 * t144)))) (wrap64 (16 + t145)) (wrap64 (1 + t150)) t153 t154 _ A10.out).mono ?_); rintro e w62 ⟨rfl, hb⟩; refine ⟨_, rfl, ?_⟩; have n0_ := Aside0.mk (blk_below (g := gb146) (o := .cells #[.int .i64 (wrap64 (1 + t143)), .int .i64 (wrap64 (4 + (wrap64 (4 * t144)))), .int .i64 (wrap64 (16 + t145))] 23 (0, 0)) (by (with_reducible repeat (first | refine blk_drewN ?_ _ | refine blk_drew ?_ | refine blk_alloc ?_ _)); exact BK146.out) hb); have n1_ := Aside0.mk (blk_below (g := gb147) (o := .cells #[.int .i64 (wrap64 (1 + t143)), .int .i64 (wrap64 (4 + (wrap64 (4 * t144)))), .int .i64 (wrap64 ((wrap64 (16 + t145)) + 1))] 23 (0, 0)) (by (with_reducible repeat (first | refine blk_drewN ?_ _ | refine blk_drew ?_ | refine blk_alloc ?_ _)); exact BK147.out) hb); have n2_ := Aside0.mk (blk_below (g := gb148) (o := .cells #[.int .i64 (wrap64 (1 + t143)), .int .i64 (wrap64 ((wrap64 (4 + (wrap64 (4 * t144)))) + 4)), .int .i64 (wrap64 (16 + t145))] 23 (0, 0)) (by (with_reducible repeat (first | refine blk_drewN ?_ _ | refine blk_drew ?_ | refine blk_alloc ?_ _)); exact BK148.out) hb); have n3_ := Aside0.mk (blk_below (g := gb149) (o := .cells #[.int .i64 (wrap64 ((wrap64 (1 + t143)) + 1)), .int .i64 (wrap64 (4 + (wrap64 (4 * t144)))), .int .i64 (wrap64 (16 + t145))] 23 (0, 0)) (by (with_reducible repeat (first | refine blk_drewN ?_ _ | refine blk_drew ?_ | refine blk_alloc ?_ _)); exact BK149.out) hb); have n4_ := Aside0.mk (below_step (by repeat (first | (with_reducible first | exact HB.out | apply below_alloc | apply pw_below_drewN | apply below_drew1 | refine below_set ?_ GE146.out | refine below_set ?_ GE147.out | refine below_set ?_ GE148.out | refine below_set ?_ GE149.out) | exact HB.out)) hb); clear BK146; clear BK147; clear BK148; clear BK149; clear HB; have BK146 := n0_; have BK147 := n1_; have BK148 := n2_; have BK149 := n3_; have HB := n4_; clear n0_ n1_ n2_ n3_ n4_; (try clear hb); (try clear hb2); (try clear hk); (try clear hi); have hcz63_0 : w62.cell? ⟨gb147, 0, none⟩ = some (.int .i64 (wrap64 (1 + t143))) := (blk_cell BK147.out 0).trans rfl; have hcz63_1 : w62.cell? ⟨gb147, 1, none⟩ = some (.int .i64 (wrap64 (4 + (wrap64 (4 * t144))))) := (blk_cell BK147.out 1).trans rfl; have hcz63_2 : w62.cell? ⟨gb147, 2, none⟩ = some (.int .i64 (wrap64 ((wrap64 (16 + t145)) + 1))) := (blk_cell BK147.out 2).trans rfl; have hfz63_0 := blk_frozen BK147.out 0; have hfz63_1 := blk_frozen BK147.out 1; have hfz63_2 := blk_frozen BK147.out 2) | ((with_reducible refine gate_callee (f := 6) rfl ?_); refine goesL_ (some 66) rfl rfl Try.func6 (by kernel_rfl) rfl #[.agg #[.int .i64 (wrap64 (1 + t143)), .int .i64 (wrap64 (4 + (wrap64 (4 * t144)))), .int .i64 (wrap64 ((wrap64 (16 + t145)) + 1))], .int .i64 (wrap64 (1 + t150))] rfl (by (try simp only [List.map_toArray, List.map_cons, List.map_nil]); first | done | rfl | (simp only [List.length_drop, List.length_take]; rfl)) ?_; (with_reducible refine (geom_Inode.calls (wrap64 (1 + t143)) (wrap64 (4 + (wrap64 (4 * t144)))) (wrap64 ((wrap64 (16 + t145)) + 1)) (wrap64 (1 + t150)) t155 t156 _ A11.out).mono ?_); rintro e w64 ⟨rfl, hb⟩; refine ⟨_, rfl, ?_⟩; have n0_ := Aside0.mk (blk_below (g := gb146) (o := .cells #[.int .i64 (wrap64 (1 + t143)), .int .i64 (wrap64 (4 + (wrap64 (4 * t144)))), .int .i64 (wrap64 (16 + t145))] 23 (0, 0)) (by (with_reducible repeat (first | refine blk_drewN ?_ _ | refine blk_drew ?_ | refine blk_alloc ?_ _)); exact BK146.out) hb); have n1_ := Aside0.mk (blk_below (g := gb147) (o := .cells #[.int .i64 (wrap64 (1 + t143)), .int .i64 (wrap64 (4 + (wrap64 (4 * t144)))), .int .i64 (wrap64 ((wrap64 (16 + t145)) + 1))] 23 (0, 0)) (by (with_reducible repeat (first | refine blk_drewN ?_ _ | refine blk_drew ?_ | refine blk_alloc ?_ _)); exact BK147.out) hb); have n2_ := Aside0.mk (blk_below (g := gb148) (o := .cells #[.int .i64 (wrap64 (1 + t143)), .int .i64 (wrap64 ((wrap64 (4 + (wrap64 (4 * t144)))) + 4)), .int .i64 (wrap64 (16 + t145))] 23 (0, 0)) (by (with_reducible repeat (first | refine blk_drewN ?_ _ | refine blk_drew ?_ | refine blk_alloc ?_ _)); exact BK148.out) hb); have n3_ := Aside0.mk (blk_below (g := gb149) (o := .cells #[.int .i64 (wrap64 ((wrap64 (1 + t143)) + 1)), .int .i64 (wrap64 (4 + (wrap64 (4 * t144)))), .int .i64 (wrap64 (16 + t145))] 23 (0, 0)) (by (with_reducible repeat (first | refine blk_drewN ?_ _ | refine blk_drew ?_ | refine blk_alloc ?_ _)); exact BK149.out) hb); have n4_ := Aside0.mk (below_step (by repeat (first | (with_reducible first | exact HB.out | apply below_alloc | apply pw_below_drewN | apply below_drew1 | refine below_set ?_ GE146.out | refine below_set ?_ GE147.out | refine below_set ?_ GE148.out | refine below_set ?_ GE149.out) | exact HB.out)) hb); clear BK146; clear BK147; clear BK148; clear BK149; clear HB; have BK146 := n0_; have BK147 := n1_; have BK148 := n2_; have BK149 := n3_; have HB := n4_; clear n0_ n1_ n2_ n3_ n4_; (try clear hb); (try clear hb2); (try clear hk); (try clear hi); have hcz65_0 : w64.cell? ⟨gb146, 0, none⟩ = some (.int .i64 (wrap64 (1 + t143))) := (blk_cell BK146.out 0).trans rfl; have hcz65_1 : w64.cell? ⟨gb146, 1, none⟩ = some (.int .i64 (wrap64 (4 + (wrap64 (4 * t144))))) := (blk_cell BK146.out 1).trans rfl; have hcz65_2 : w64.cell? ⟨gb146, 2, none⟩ = some (.int .i64 (wrap64 (16 + t145))) := (blk_cell BK146.out 2).trans rfl; have hfz65_0 := blk_frozen BK146.out 0; have hfz65_1 := blk_frozen BK146.out 1; have hfz65_2 := blk_frozen BK146.out 2) | ((with_reducible refine gate_callee (f := 14) rfl ?_); refine goesL_ (some 70) rfl rfl Try.func14 (by kernel_rfl) rfl #[.agg #[.int .i64 (wrap64 (1 + t143)), .int .i64 (wrap64 (4 + (wrap64 (4 * t144)))), .int .i64 (wrap64 (16 + t145))]] rfl (by (try simp only [List.map_toArray, List.map_cons, List.map_nil]); first | done | rfl | (simp only [List.length_drop, List.length_take]; rfl)) ?_; (with_reducible refine (geom_Sectors.calls (wrap64 (1 + t143)) (wrap64 (4 + (wrap64 (4 * t144)))) (wrap64 (16 + t145)) t157 _ A12.out).mono ?_); rintro e w66 ⟨rfl, hb⟩; refine ⟨_, rfl, ?_⟩; have n0_ := Aside0.mk (blk_below (g := gb146) (o := .cells #[.int .i64 (wrap64 (1 + t143)), .int .i64 (wrap64 (4 + (wrap64 (4 * t144)))), .int .i64 (wrap64 (16 + t145))] 23 (0, 0)) (by (with_reducible repeat (first | refine blk_drewN ?_ _ | refine blk_drew ?_ | refine blk_alloc ?_ _)); exact BK146.out) hb); have n1_ := Aside0.mk (blk_below (g := gb147) (o := .cells #[.int .i64 (wrap64 (1 + t143)), .int .i64 (wrap64 (4 + (wrap64 (4 * t144)))), .int .i64 (wrap64 ((wrap64 (16 + t145)) + 1))] 23 (0, 0)) (by (with_reducible repeat (first | refine blk_drewN ?_ _ | refine blk_drew ?_ | refine blk_alloc ?_ _)); exact BK147.out) hb); have n2_ := Aside0.mk (blk_below (g := gb148) (o := .cells #[.int .i64 (wrap64 (1 + t143)), .int .i64 (wrap64 ((wrap64 (4 + (wrap64 (4 * t144)))) + 4)), .int .i64 (wrap64 (16 + t145))] 23 (0, 0)) (by (with_reducible repeat (first | refine blk_drewN ?_ _ | refine blk_drew ?_ | refine blk_alloc ?_ _)); exact BK148.out) hb); have n3_ := Aside0.mk (blk_below (g := gb149) (o := .cells #[.int .i64 (wrap64 ((wrap64 (1 + t143)) + 1)), .int .i64 (wrap64 (4 + (wrap64 (4 * t144)))), .int .i64 (wrap64 (16 + t145))] 23 (0, 0)) (by (with_reducible repeat (first | refine blk_drewN ?_ _ | refine blk_drew ?_ | refine blk_alloc ?_ _)); exact BK149.out) hb); have n4_ := Aside0.mk (below_step (by repeat (first | (with_reducible first | exact HB.out | apply below_alloc | apply pw_below_drewN | apply below_drew1 | refine below_set ?_ GE146.out | refine below_set ?_ GE147.out | refine below_set ?_ GE148.out | refine below_set ?_ GE149.out) | exact HB.out)) hb); clear BK146; clear BK147; clear BK148; clear BK149; clear HB; have BK146 := n0_; have BK147 := n1_; have BK148 := n2_; have BK149 := n3_; have HB := n4_; clear n0_ n1_ n2_ n3_ n4_; (try clear hb); (try clear hb2); (try clear hk); (try clear hi)))
                      have n0_ := Aside0.mk (blk_drew BK146.out)
                      have n1_ := Aside0.mk (blk_drew BK147.out)
                      have n2_ := Aside0.mk (blk_drew BK148.out)
                      have n3_ := Aside0.mk (blk_drew BK149.out)
                      have n4_ := Aside0.mk (below_drew1 HB.out)
                      clear BK146
                      clear BK147
                      clear BK148
                      clear BK149
                      clear HB
                      have BK146 := n0_
                      have BK147 := n1_
                      have BK148 := n2_
                      have BK149 := n3_
                      have HB := n4_
                      clear n0_ n1_ n2_ n3_ n4_
                      refine start_ (n := 81) (S := fun w' => w'.cell? ⟨gb147, 0, none⟩ = some (.int .i64 (wrap64 (1 + t143))) ∧ w'.cell? ⟨gb147, 1, none⟩ = some (.int .i64 (wrap64 (4 + (wrap64 (4 * t144))))) ∧ w'.cell? ⟨gb147, 2, none⟩ = some (.int .i64 (wrap64 ((wrap64 (16 + t145)) + 1))) ∧ w'.cell? ⟨gb146, 0, none⟩ = some (.int .i64 (wrap64 (1 + t143))) ∧ w'.cell? ⟨gb146, 1, none⟩ = some (.int .i64 (wrap64 (4 + (wrap64 (4 * t144))))) ∧ w'.cell? ⟨gb146, 2, none⟩ = some (.int .i64 (wrap64 (16 + t145))) ∧ w'.cell? ⟨gb148, 0, none⟩ = some (.int .i64 (wrap64 (1 + t143))) ∧ w'.cell? ⟨gb148, 1, none⟩ = some (.int .i64 (wrap64 ((wrap64 (4 + (wrap64 (4 * t144)))) + 4))) ∧ w'.cell? ⟨gb148, 2, none⟩ = some (.int .i64 (wrap64 (16 + t145))) ∧ w'.cell? ⟨gb149, 0, none⟩ = some (.int .i64 (wrap64 ((wrap64 (1 + t143)) + 1))) ∧ w'.cell? ⟨gb149, 1, none⟩ = some (.int .i64 (wrap64 (4 + (wrap64 (4 * t144))))) ∧ w'.cell? ⟨gb149, 2, none⟩ = some (.int .i64 (wrap64 (16 + t145)))) (ds := []) #[false, false, false, false, false, false, false, false, false, false, false, false, false, false, false, false, false, false, false, false, false, false, false, false, false, false, false, false, false, false, false, false, false, false, false, false, false, false, false, false, false, false, false, false, false, false, false, false, false, false, false, false, false, false, false, false, false, false, false, false, false, false, false, false, false, false, false, false, false, false, false, false, false, false, false, false, false, false, false, false, false] (by kernel_rfl) rfl rfl ⟨(blk_cell BK147.out 0).trans rfl, (blk_cell BK147.out 1).trans rfl, (blk_cell BK147.out 2).trans rfl, (blk_cell BK146.out 0).trans rfl, (blk_cell BK146.out 1).trans rfl, (blk_cell BK146.out 2).trans rfl, (blk_cell BK148.out 0).trans rfl, (blk_cell BK148.out 1).trans rfl, (blk_cell BK148.out 2).trans rfl, (blk_cell BK149.out 0).trans rfl, (blk_cell BK149.out 1).trans rfl, (blk_cell BK149.out 2).trans rfl⟩ (fun hHeld => ?_); refine with_tabW purlinlaw5_GeomGrows.tab11 purlinlaw5_GeomGrows.bits11 (fun HT_ HW_ => ?_)
                      generalize w66.drew = w67 at BK146 BK147 BK148 BK149 HB hHeld ⊢
                      refine pure_ (i := 2) (N := some 73) (v := ?_) (a' := ?_) #[false, false, true, false, false, false, false, false, false, false, false, false, false, false, false, false, false, false, false, false, false, false, false, false, false, false, false, false, false, false, false, false, false, false, false, false, false, false, false, false, false, false, false, false, false, false, false, false, false, false, false, false, false, false, false, false, false, false, false, false, false, false, false, false, false, false, false, false, false, false, false, false, false, false, false, false, false, false, false, false, false] rfl rfl (any_of HT_.out (by kernel_rfl)) (fun _ _ _ h => h) (Or.inl ⟨by rfl, ?_⟩) ?_ ?_
                      rotate_left
                      · intro w'
                        go_simp
                        with_reducible rfl
                      rotate_left
                      · simp only [Act.put, List.setIfInBounds_toArray, List.set_cons_zero, List.set_cons_succ, i64_w, i32_w]
                        rfl
                      refine pure_ (i := 3) (N := some 74) (v := ?_) (a' := ?_) #[false, false, true, true, false, false, false, false, false, false, false, false, false, false, false, false, false, false, false, false, false, false, false, false, false, false, false, false, false, false, false, false, false, false, false, false, false, false, false, false, false, false, false, false, false, false, false, false, false, false, false, false, false, false, false, false, false, false, false, false, false, false, false, false, false, false, false, false, false, false, false, false, false, false, false, false, false, false, false, false, false] rfl rfl (any_of HT_.out (by kernel_rfl)) (fun _ _ _ h => h) (Or.inl ⟨by rfl, ?_⟩) ?_ ?_
                      rotate_left
                      · intro w'
                        go_simp
                        with_reducible rfl
                      rotate_left
                      · simp only [Act.put, List.setIfInBounds_toArray, List.set_cons_zero, List.set_cons_succ, i64_w, i32_w]
                        rfl
                      refine take_ (i := 0) (N := some 71) (v := ?_) (a' := ?_) #[true, false, true, true, false, false, false, false, false, false, false, false, false, false, false, false, false, false, false, false, false, false, false, false, false, false, false, false, false, false, false, false, false, false, false, false, false, false, false, false, false, false, false, false, false, false, false, false, false, false, false, false, false, false, false, false, false, false, false, false, false, false, false, false, false, false, false, false, false, false, false, false, false, false, false, false, false, false, false, false, false] rfl rfl (take_ofW HT_.out HW_.out (by kernel_rfl)) (fun _ _ _ h => h) (Or.inl ⟨by rfl, ?_⟩) hHeld ?_ ?_
                      rotate_left
                      · rintro w' ⟨s0, s1, s2, s3, s4, s5, s6, s7, s8, s9, s10, s11⟩
                        go_simp
                        with_reducible rfl
                      rotate_left
                      · simp only [Act.put, List.setIfInBounds_toArray, List.set_cons_zero, List.set_cons_succ, i64_w, i32_w]
                        rfl
                      refine take_ (i := 4) (N := some 75) (v := ?_) (a' := ?_) #[true, false, true, true, true, false, false, false, false, false, false, false, false, false, false, false, false, false, false, false, false, false, false, false, false, false, false, false, false, false, false, false, false, false, false, false, false, false, false, false, false, false, false, false, false, false, false, false, false, false, false, false, false, false, false, false, false, false, false, false, false, false, false, false, false, false, false, false, false, false, false, false, false, false, false, false, false, false, false, false, false] rfl rfl (take_ofW HT_.out HW_.out (by kernel_rfl)) (fun _ _ _ h => h) (Or.inl ⟨by rfl, ?_⟩) hHeld ?_ ?_
                      rotate_left
                      · rintro w' ⟨s0, s1, s2, s3, s4, s5, s6, s7, s8, s9, s10, s11⟩
                        go_simp
                        with_reducible rfl
                      rotate_left
                      · simp only [Act.put, List.setIfInBounds_toArray, List.set_cons_zero, List.set_cons_succ, i64_w, i32_w]
                        rfl
                      refine pure_ (i := 5) (N := some 76) (v := ?_) (a' := ?_) #[true, false, true, true, true, true, false, false, false, false, false, false, false, false, false, false, false, false, false, false, false, false, false, false, false, false, false, false, false, false, false, false, false, false, false, false, false, false, false, false, false, false, false, false, false, false, false, false, false, false, false, false, false, false, false, false, false, false, false, false, false, false, false, false, false, false, false, false, false, false, false, false, false, false, false, false, false, false, false, false, false] rfl rfl (any_of HT_.out (by kernel_rfl)) (fun _ _ _ h => h) (Or.inl ⟨by rfl, ?_⟩) ?_ ?_
                      rotate_left
                      · intro w'
                        go_simp
                        with_reducible rfl
                      rotate_left
                      · simp only [Act.put, List.setIfInBounds_toArray, List.set_cons_zero, List.set_cons_succ, i64_w, i32_w]
                        rfl
                      refine one_ (i := 1) (N := some 72) #[true, true, true, true, true, true, false, false, false, false, false, false, false, false, false, false, false, false, false, false, false, false, false, false, false, false, false, false, false, false, false, false, false, false, false, false, false, false, false, false, false, false, false, false, false, false, false, false, false, false, false, false, false, false, false, false, false, false, false, false, false, false, false, false, false, false, false, false, false, false, false, false, false, false, false, false, false, false, false, false, false] rfl rfl (one_of HT_.out (by kernel_rfl)) (by decide) (fun K hK => ?_)
                      refine goes_ Try.func14 (by kernel_rfl) rfl #[.agg #[.int .i64 (wrap64 (1 + t143)), .int .i64 (wrap64 (4 + (wrap64 (4 * t144)))), .int .i64 (wrap64 ((wrap64 (16 + t145)) + 1))]] (by rfl) rfl rfl (by (try simp only [List.map_toArray, List.map_cons, List.map_nil]); first | done | rfl | (simp only [List.length_drop, List.length_take]; rfl)) ?_
                      with_reducible refine (geom_Sectors.calls (wrap64 (1 + t143)) (wrap64 (4 + (wrap64 (4 * t144)))) (wrap64 ((wrap64 (16 + t145)) + 1)) t158 _ A13.out).mono ?_
                      rintro e w68 ⟨rfl, hb⟩
                      refine ⟨_, rfl, ?_⟩
                      have n0_ := Aside0.mk (blk_below (g := gb146) (o := .cells #[.int .i64 (wrap64 (1 + t143)), .int .i64 (wrap64 (4 + (wrap64 (4 * t144)))), .int .i64 (wrap64 (16 + t145))] 23 (0, 0)) (by (with_reducible repeat (first | refine blk_drewN ?_ _ | refine blk_drew ?_ | refine blk_alloc ?_ _)); exact BK146.out) hb)
                      have n1_ := Aside0.mk (blk_below (g := gb147) (o := .cells #[.int .i64 (wrap64 (1 + t143)), .int .i64 (wrap64 (4 + (wrap64 (4 * t144)))), .int .i64 (wrap64 ((wrap64 (16 + t145)) + 1))] 23 (0, 0)) (by (with_reducible repeat (first | refine blk_drewN ?_ _ | refine blk_drew ?_ | refine blk_alloc ?_ _)); exact BK147.out) hb)
                      have n2_ := Aside0.mk (blk_below (g := gb148) (o := .cells #[.int .i64 (wrap64 (1 + t143)), .int .i64 (wrap64 ((wrap64 (4 + (wrap64 (4 * t144)))) + 4)), .int .i64 (wrap64 (16 + t145))] 23 (0, 0)) (by (with_reducible repeat (first | refine blk_drewN ?_ _ | refine blk_drew ?_ | refine blk_alloc ?_ _)); exact BK148.out) hb)
                      have n3_ := Aside0.mk (blk_below (g := gb149) (o := .cells #[.int .i64 (wrap64 ((wrap64 (1 + t143)) + 1)), .int .i64 (wrap64 (4 + (wrap64 (4 * t144)))), .int .i64 (wrap64 (16 + t145))] 23 (0, 0)) (by (with_reducible repeat (first | refine blk_drewN ?_ _ | refine blk_drew ?_ | refine blk_alloc ?_ _)); exact BK149.out) hb)
                      have n4_ := Aside0.mk (below_step (by repeat (first | (with_reducible first | exact HB.out | apply below_alloc | apply pw_below_drewN | apply below_drew1 | refine below_set ?_ GE146.out | refine below_set ?_ GE147.out | refine below_set ?_ GE148.out | refine below_set ?_ GE149.out) | exact HB.out)) hb)
                      clear BK146
                      clear BK147
                      clear BK148
                      clear BK149
                      clear HB
                      have BK146 := n0_
                      have BK147 := n1_
                      have BK148 := n2_
                      have BK149 := n3_
                      have HB := n4_
                      clear n0_ n1_ n2_ n3_ n4_
                      (try clear hb)
                      (try clear hb2)
                      (try clear hk)
                      (try clear hi)
                      refine hK.out _ _ ⟨(blk_cell BK147.out 0).trans rfl, (blk_cell BK147.out 1).trans rfl, (blk_cell BK147.out 2).trans rfl, (blk_cell BK146.out 0).trans rfl, (blk_cell BK146.out 1).trans rfl, (blk_cell BK146.out 2).trans rfl, (blk_cell BK148.out 0).trans rfl, (blk_cell BK148.out 1).trans rfl, (blk_cell BK148.out 2).trans rfl, (blk_cell BK149.out 0).trans rfl, (blk_cell BK149.out 1).trans rfl, (blk_cell BK149.out 2).trans rfl⟩ (fun hHeld => ?_)
                      clear hK K
                      refine norm_ (a' := ?_) ?_ ?_
                      rotate_left
                      · show Act.put _ (some 72) _ = _
                        simp only [Act.put, List.setIfInBounds_toArray, List.set_cons_zero, List.set_cons_succ, i64_w, i32_w]
                        rfl
                      refine pure_ (i := 6) (N := some 77) (v := ?_) (a' := ?_) #[true, true, true, true, true, true, true, false, false, false, false, false, false, false, false, false, false, false, false, false, false, false, false, false, false, false, false, false, false, false, false, false, false, false, false, false, false, false, false, false, false, false, false, false, false, false, false, false, false, false, false, false, false, false, false, false, false, false, false, false, false, false, false, false, false, false, false, false, false, false, false, false, false, false, false, false, false, false, false, false, false] rfl rfl (any_of HT_.out (by kernel_rfl)) (fun _ _ _ h => h) (Or.inl ⟨by rfl, ?_⟩) ?_ ?_
                      rotate_left
                      · intro w'
                        go_simp
                        with_reducible rfl
                      rotate_left
                      · simp only [Act.put, List.setIfInBounds_toArray, List.set_cons_zero, List.set_cons_succ, i64_w, i32_w]
                        rfl
                      refine pure_ (i := 7) (N := some 78) (v := ?_) (a' := ?_) #[true, true, true, true, true, true, true, true, false, false, false, false, false, false, false, false, false, false, false, false, false, false, false, false, false, false, false, false, false, false, false, false, false, false, false, false, false, false, false, false, false, false, false, false, false, false, false, false, false, false, false, false, false, false, false, false, false, false, false, false, false, false, false, false, false, false, false, false, false, false, false, false, false, false, false, false, false, false, false, false, false] rfl rfl (any_of HT_.out (by kernel_rfl)) (fun _ _ _ h => h) (Or.inl ⟨by rfl, ?_⟩) ?_ ?_
                      rotate_left
                      · intro w'
                        go_simp
                        with_reducible rfl
                      rotate_left
                      · simp only [Act.put, List.setIfInBounds_toArray, List.set_cons_zero, List.set_cons_succ, i64_w, i32_w]
                        rfl
                      refine pure_ (i := 10) (N := some 81) (v := ?_) (a' := ?_) #[true, true, true, true, true, true, true, true, false, false, true, false, false, false, false, false, false, false, false, false, false, false, false, false, false, false, false, false, false, false, false, false, false, false, false, false, false, false, false, false, false, false, false, false, false, false, false, false, false, false, false, false, false, false, false, false, false, false, false, false, false, false, false, false, false, false, false, false, false, false, false, false, false, false, false, false, false, false, false, false, false] rfl rfl (any_of HT_.out (by kernel_rfl)) (fun _ _ _ h => h) (Or.inl ⟨by rfl, ?_⟩) ?_ ?_
                      rotate_left
                      · intro w'
                        go_simp
                        with_reducible rfl
                      rotate_left
                      · simp only [Act.put, List.setIfInBounds_toArray, List.set_cons_zero, List.set_cons_succ, i64_w, i32_w]
                        rfl
                      refine pure_ (i := 11) (N := some 82) (v := ?_) (a' := ?_) #[true, true, true, true, true, true, true, true, false, false, true, true, false, false, false, false, false, false, false, false, false, false, false, false, false, false, false, false, false, false, false, false, false, false, false, false, false, false, false, false, false, false, false, false, false, false, false, false, false, false, false, false, false, false, false, false, false, false, false, false, false, false, false, false, false, false, false, false, false, false, false, false, false, false, false, false, false, false, false, false, false] rfl rfl (any_of HT_.out (by kernel_rfl)) (fun _ _ _ h => h) (Or.inl ⟨by rfl, ?_⟩) ?_ ?_
                      rotate_left
                      · intro w'
                        go_simp
                        with_reducible rfl
                      rotate_left
                      · simp only [Act.put, List.setIfInBounds_toArray, List.set_cons_zero, List.set_cons_succ, i64_w, i32_w]
                        rfl
                      refine take_ (i := 8) (N := some 79) (v := ?_) (a' := ?_) #[true, true, true, true, true, true, true, true, true, false, true, true, false, false, false, false, false, false, false, false, false, false, false, false, false, false, false, false, false, false, false, false, false, false, false, false, false, false, false, false, false, false, false, false, false, false, false, false, false, false, false, false, false, false, false, false, false, false, false, false, false, false, false, false, false, false, false, false, false, false, false, false, false, false, false, false, false, false, false, false, false] rfl rfl (take_ofW HT_.out HW_.out (by kernel_rfl)) (fun _ _ _ h => h) (Or.inl ⟨by rfl, ?_⟩) hHeld ?_ ?_
                      rotate_left
                      · rintro w' ⟨s0, s1, s2, s3, s4, s5, s6, s7, s8, s9, s10, s11⟩
                        go_simp
                        with_reducible rfl
                      rotate_left
                      · simp only [Act.put, List.setIfInBounds_toArray, List.set_cons_zero, List.set_cons_succ, i64_w, i32_w]
                        rfl
                      refine take_ (i := 12) (N := some 83) (v := ?_) (a' := ?_) #[true, true, true, true, true, true, true, true, true, false, true, true, true, false, false, false, false, false, false, false, false, false, false, false, false, false, false, false, false, false, false, false, false, false, false, false, false, false, false, false, false, false, false, false, false, false, false, false, false, false, false, false, false, false, false, false, false, false, false, false, false, false, false, false, false, false, false, false, false, false, false, false, false, false, false, false, false, false, false, false, false] rfl rfl (take_ofW HT_.out HW_.out (by kernel_rfl)) (fun _ _ _ h => h) (Or.inl ⟨by rfl, ?_⟩) hHeld ?_ ?_
                      rotate_left
                      · rintro w' ⟨s0, s1, s2, s3, s4, s5, s6, s7, s8, s9, s10, s11⟩
                        go_simp
                        with_reducible rfl
                      rotate_left
                      · simp only [Act.put, List.setIfInBounds_toArray, List.set_cons_zero, List.set_cons_succ, i64_w, i32_w]
                        rfl
                      refine pure_ (i := 13) (N := some 84) (v := ?_) (a' := ?_) #[true, true, true, true, true, true, true, true, true, false, true, true, true, true, false, false, false, false, false, false, false, false, false, false, false, false, false, false, false, false, false, false, false, false, false, false, false, false, false, false, false, false, false, false, false, false, false, false, false, false, false, false, false, false, false, false, false, false, false, false, false, false, false, false, false, false, false, false, false, false, false, false, false, false, false, false, false, false, false, false, false] rfl rfl (any_of HT_.out (by kernel_rfl)) (fun _ _ _ h => h) (Or.inl ⟨by rfl, ?_⟩) ?_ ?_
                      rotate_left
                      · intro w'
                        go_simp
                        with_reducible rfl
                      rotate_left
                      · simp only [Act.put, List.setIfInBounds_toArray, List.set_cons_zero, List.set_cons_succ, i64_w, i32_w]
                        rfl
                      refine one_ (i := 9) (N := some 80) #[true, true, true, true, true, true, true, true, true, true, true, true, true, true, false, false, false, false, false, false, false, false, false, false, false, false, false, false, false, false, false, false, false, false, false, false, false, false, false, false, false, false, false, false, false, false, false, false, false, false, false, false, false, false, false, false, false, false, false, false, false, false, false, false, false, false, false, false, false, false, false, false, false, false, false, false, false, false, false, false, false] rfl rfl (one_of HT_.out (by kernel_rfl)) (by decide) (fun K hK => ?_)
                      refine goes_ Try.func14 (by kernel_rfl) rfl #[.agg #[.int .i64 (wrap64 (1 + t143)), .int .i64 (wrap64 ((wrap64 (4 + (wrap64 (4 * t144)))) + 4)), .int .i64 (wrap64 (16 + t145))]] (by rfl) rfl rfl (by (try simp only [List.map_toArray, List.map_cons, List.map_nil]); first | done | rfl | (simp only [List.length_drop, List.length_take]; rfl)) ?_
                      with_reducible refine (geom_Sectors.calls (wrap64 (1 + t143)) (wrap64 ((wrap64 (4 + (wrap64 (4 * t144)))) + 4)) (wrap64 (16 + t145)) t159 _ A15.out).mono ?_
                      rintro e w69 ⟨rfl, hb⟩
                      refine ⟨_, rfl, ?_⟩
                      have n0_ := Aside0.mk (blk_below (g := gb146) (o := .cells #[.int .i64 (wrap64 (1 + t143)), .int .i64 (wrap64 (4 + (wrap64 (4 * t144)))), .int .i64 (wrap64 (16 + t145))] 23 (0, 0)) (by (with_reducible repeat (first | refine blk_drewN ?_ _ | refine blk_drew ?_ | refine blk_alloc ?_ _)); exact BK146.out) hb)
                      have n1_ := Aside0.mk (blk_below (g := gb147) (o := .cells #[.int .i64 (wrap64 (1 + t143)), .int .i64 (wrap64 (4 + (wrap64 (4 * t144)))), .int .i64 (wrap64 ((wrap64 (16 + t145)) + 1))] 23 (0, 0)) (by (with_reducible repeat (first | refine blk_drewN ?_ _ | refine blk_drew ?_ | refine blk_alloc ?_ _)); exact BK147.out) hb)
                      have n2_ := Aside0.mk (blk_below (g := gb148) (o := .cells #[.int .i64 (wrap64 (1 + t143)), .int .i64 (wrap64 ((wrap64 (4 + (wrap64 (4 * t144)))) + 4)), .int .i64 (wrap64 (16 + t145))] 23 (0, 0)) (by (with_reducible repeat (first | refine blk_drewN ?_ _ | refine blk_drew ?_ | refine blk_alloc ?_ _)); exact BK148.out) hb)
                      have n3_ := Aside0.mk (blk_below (g := gb149) (o := .cells #[.int .i64 (wrap64 ((wrap64 (1 + t143)) + 1)), .int .i64 (wrap64 (4 + (wrap64 (4 * t144)))), .int .i64 (wrap64 (16 + t145))] 23 (0, 0)) (by (with_reducible repeat (first | refine blk_drewN ?_ _ | refine blk_drew ?_ | refine blk_alloc ?_ _)); exact BK149.out) hb)
                      have n4_ := Aside0.mk (below_step (by repeat (first | (with_reducible first | exact HB.out | apply below_alloc | apply pw_below_drewN | apply below_drew1 | refine below_set ?_ GE146.out | refine below_set ?_ GE147.out | refine below_set ?_ GE148.out | refine below_set ?_ GE149.out) | exact HB.out)) hb)
                      clear BK146
                      clear BK147
                      clear BK148
                      clear BK149
                      clear HB
                      have BK146 := n0_
                      have BK147 := n1_
                      have BK148 := n2_
                      have BK149 := n3_
                      have HB := n4_
                      clear n0_ n1_ n2_ n3_ n4_
                      (try clear hb)
                      (try clear hb2)
                      (try clear hk)
                      (try clear hi)
                      refine hK.out _ _ ⟨(blk_cell BK147.out 0).trans rfl, (blk_cell BK147.out 1).trans rfl, (blk_cell BK147.out 2).trans rfl, (blk_cell BK146.out 0).trans rfl, (blk_cell BK146.out 1).trans rfl, (blk_cell BK146.out 2).trans rfl, (blk_cell BK148.out 0).trans rfl, (blk_cell BK148.out 1).trans rfl, (blk_cell BK148.out 2).trans rfl, (blk_cell BK149.out 0).trans rfl, (blk_cell BK149.out 1).trans rfl, (blk_cell BK149.out 2).trans rfl⟩ (fun hHeld => ?_)
                      clear hK K
                      refine norm_ (a' := ?_) ?_ ?_
                      rotate_left
                      · show Act.put _ (some 80) _ = _
                        simp only [Act.put, List.setIfInBounds_toArray, List.set_cons_zero, List.set_cons_succ, i64_w, i32_w]
                        rfl
                      refine pure_ (i := 14) (N := some 85) (v := ?_) (a' := ?_) #[true, true, true, true, true, true, true, true, true, true, true, true, true, true, true, false, false, false, false, false, false, false, false, false, false, false, false, false, false, false, false, false, false, false, false, false, false, false, false, false, false, false, false, false, false, false, false, false, false, false, false, false, false, false, false, false, false, false, false, false, false, false, false, false, false, false, false, false, false, false, false, false, false, false, false, false, false, false, false, false, false] rfl rfl (any_of HT_.out (by kernel_rfl)) (fun _ _ _ h => h) (Or.inl ⟨by rfl, ?_⟩) ?_ ?_
                      rotate_left
                      · intro w'
                        go_simp
                        with_reducible rfl
                      rotate_left
                      · simp only [Act.put, List.setIfInBounds_toArray, List.set_cons_zero, List.set_cons_succ, i64_w, i32_w]
                        rfl
                      refine pure_ (i := 15) (N := some 86) (v := ?_) (a' := ?_) #[true, true, true, true, true, true, true, true, true, true, true, true, true, true, true, true, false, false, false, false, false, false, false, false, false, false, false, false, false, false, false, false, false, false, false, false, false, false, false, false, false, false, false, false, false, false, false, false, false, false, false, false, false, false, false, false, false, false, false, false, false, false, false, false, false, false, false, false, false, false, false, false, false, false, false, false, false, false, false, false, false] rfl rfl (any_of HT_.out (by kernel_rfl)) (fun _ _ _ h => h) (Or.inl ⟨by rfl, ?_⟩) ?_ ?_
                      rotate_left
                      · intro w'
                        go_simp
                        with_reducible rfl
                      rotate_left
                      · simp only [Act.put, List.setIfInBounds_toArray, List.set_cons_zero, List.set_cons_succ, i64_w, i32_w]
                        rfl
                      refine pure_ (i := 16) (N := some 87) (v := ?_) (a' := ?_) #[true, true, true, true, true, true, true, true, true, true, true, true, true, true, true, true, true, false, false, false, false, false, false, false, false, false, false, false, false, false, false, false, false, false, false, false, false, false, false, false, false, false, false, false, false, false, false, false, false, false, false, false, false, false, false, false, false, false, false, false, false, false, false, false, false, false, false, false, false, false, false, false, false, false, false, false, false, false, false, false, false] rfl rfl (any_of HT_.out (by kernel_rfl)) (fun _ _ _ h => h) (Or.inl ⟨by rfl, ?_⟩) ?_ ?_
                      rotate_left
                      · intro w'
                        go_simp
                        with_reducible rfl
                      rotate_left
                      · simp only [Act.put, List.setIfInBounds_toArray, List.set_cons_zero, List.set_cons_succ, i64_w, i32_w]
                        rfl
                      refine pure_ (i := 19) (N := some 90) (v := ?_) (a' := ?_) #[true, true, true, true, true, true, true, true, true, true, true, true, true, true, true, true, true, false, false, true, false, false, false, false, false, false, false, false, false, false, false, false, false, false, false, false, false, false, false, false, false, false, false, false, false, false, false, false, false, false, false, false, false, false, false, false, false, false, false, false, false, false, false, false, false, false, false, false, false, false, false, false, false, false, false, false, false, false, false, false, false] rfl rfl (any_of HT_.out (by kernel_rfl)) (fun _ _ _ h => h) (Or.inl ⟨by rfl, ?_⟩) ?_ ?_
                      rotate_left
                      · intro w'
                        go_simp
                        with_reducible rfl
                      rotate_left
                      · simp only [Act.put, List.setIfInBounds_toArray, List.set_cons_zero, List.set_cons_succ, i64_w, i32_w]
                        rfl
                      refine pure_ (i := 24) (N := some 95) (v := ?_) (a' := ?_) #[true, true, true, true, true, true, true, true, true, true, true, true, true, true, true, true, true, false, false, true, false, false, false, false, true, false, false, false, false, false, false, false, false, false, false, false, false, false, false, false, false, false, false, false, false, false, false, false, false, false, false, false, false, false, false, false, false, false, false, false, false, false, false, false, false, false, false, false, false, false, false, false, false, false, false, false, false, false, false, false, false] rfl rfl (any_of HT_.out (by kernel_rfl)) (fun _ _ _ h => h) (Or.inl ⟨by rfl, ?_⟩) ?_ ?_
                      rotate_left
                      · intro w'
                        go_simp
                        with_reducible rfl
                      rotate_left
                      · simp only [Act.put, List.setIfInBounds_toArray, List.set_cons_zero, List.set_cons_succ, i64_w, i32_w]
                        rfl
                      refine take_ (i := 17) (N := some 88) (v := ?_) (a' := ?_) #[true, true, true, true, true, true, true, true, true, true, true, true, true, true, true, true, true, true, false, true, false, false, false, false, true, false, false, false, false, false, false, false, false, false, false, false, false, false, false, false, false, false, false, false, false, false, false, false, false, false, false, false, false, false, false, false, false, false, false, false, false, false, false, false, false, false, false, false, false, false, false, false, false, false, false, false, false, false, false, false, false] rfl rfl (take_ofW HT_.out HW_.out (by kernel_rfl)) (fun _ _ _ h => h) (Or.inl ⟨by rfl, ?_⟩) hHeld ?_ ?_
                      rotate_left
                      · rintro w' ⟨s0, s1, s2, s3, s4, s5, s6, s7, s8, s9, s10, s11⟩
                        go_simp
                        with_reducible rfl
                      rotate_left
                      · simp only [Act.put, List.setIfInBounds_toArray, List.set_cons_zero, List.set_cons_succ, i64_w, i32_w]
                        rfl
                      refine take_ (i := 21) (N := some 92) (v := ?_) (a' := ?_) #[true, true, true, true, true, true, true, true, true, true, true, true, true, true, true, true, true, true, false, true, false, true, false, false, true, false, false, false, false, false, false, false, false, false, false, false, false, false, false, false, false, false, false, false, false, false, false, false, false, false, false, false, false, false, false, false, false, false, false, false, false, false, false, false, false, false, false, false, false, false, false, false, false, false, false, false, false, false, false, false, false] rfl rfl (take_ofW HT_.out HW_.out (by kernel_rfl)) (fun _ _ _ h => h) (Or.inl ⟨by rfl, ?_⟩) hHeld ?_ ?_
                      rotate_left
                      · rintro w' ⟨s0, s1, s2, s3, s4, s5, s6, s7, s8, s9, s10, s11⟩
                        go_simp
                        with_reducible rfl
                      rotate_left
                      · simp only [Act.put, List.setIfInBounds_toArray, List.set_cons_zero, List.set_cons_succ, i64_w, i32_w]
                        rfl
                      refine take_ (i := 25) (N := some 96) (v := ?_) (a' := ?_) #[true, true, true, true, true, true, true, true, true, true, true, true, true, true, true, true, true, true, false, true, false, true, false, false, true, true, false, false, false, false, false, false, false, false, false, false, false, false, false, false, false, false, false, false, false, false, false, false, false, false, false, false, false, false, false, false, false, false, false, false, false, false, false, false, false, false, false, false, false, false, false, false, false, false, false, false, false, false, false, false, false] rfl rfl (take_ofW HT_.out HW_.out (by kernel_rfl)) (fun _ _ _ h => h) (Or.inl ⟨by rfl, ?_⟩) hHeld ?_ ?_
                      rotate_left
                      · rintro w' ⟨s0, s1, s2, s3, s4, s5, s6, s7, s8, s9, s10, s11⟩
                        go_simp
                        with_reducible rfl
                      rotate_left
                      · simp only [Act.put, List.setIfInBounds_toArray, List.set_cons_zero, List.set_cons_succ, i64_w, i32_w]
                        rfl
                      refine one_ (i := 18) (N := some 89) #[true, true, true, true, true, true, true, true, true, true, true, true, true, true, true, true, true, true, true, true, false, true, false, false, true, true, false, false, false, false, false, false, false, false, false, false, false, false, false, false, false, false, false, false, false, false, false, false, false, false, false, false, false, false, false, false, false, false, false, false, false, false, false, false, false, false, false, false, false, false, false, false, false, false, false, false, false, false, false, false, false] rfl rfl (one_of HT_.out (by kernel_rfl)) (by decide) (fun K hK => ?_)
                      refine goes_ Try.func14 (by kernel_rfl) rfl #[.agg #[.int .i64 (wrap64 ((wrap64 (1 + t143)) + 1)), .int .i64 (wrap64 (4 + (wrap64 (4 * t144)))), .int .i64 (wrap64 (16 + t145))]] (by rfl) rfl rfl (by (try simp only [List.map_toArray, List.map_cons, List.map_nil]); first | done | rfl | (simp only [List.length_drop, List.length_take]; rfl)) ?_
                      with_reducible refine (geom_Sectors.calls (wrap64 ((wrap64 (1 + t143)) + 1)) (wrap64 (4 + (wrap64 (4 * t144)))) (wrap64 (16 + t145)) t160 _ A17.out).mono ?_
                      rintro e w70 ⟨rfl, hb⟩
                      refine ⟨_, rfl, ?_⟩
                      have n0_ := Aside0.mk (blk_below (g := gb146) (o := .cells #[.int .i64 (wrap64 (1 + t143)), .int .i64 (wrap64 (4 + (wrap64 (4 * t144)))), .int .i64 (wrap64 (16 + t145))] 23 (0, 0)) (by (with_reducible repeat (first | refine blk_drewN ?_ _ | refine blk_drew ?_ | refine blk_alloc ?_ _)); exact BK146.out) hb)
                      have n1_ := Aside0.mk (blk_below (g := gb147) (o := .cells #[.int .i64 (wrap64 (1 + t143)), .int .i64 (wrap64 (4 + (wrap64 (4 * t144)))), .int .i64 (wrap64 ((wrap64 (16 + t145)) + 1))] 23 (0, 0)) (by (with_reducible repeat (first | refine blk_drewN ?_ _ | refine blk_drew ?_ | refine blk_alloc ?_ _)); exact BK147.out) hb)
                      have n2_ := Aside0.mk (blk_below (g := gb148) (o := .cells #[.int .i64 (wrap64 (1 + t143)), .int .i64 (wrap64 ((wrap64 (4 + (wrap64 (4 * t144)))) + 4)), .int .i64 (wrap64 (16 + t145))] 23 (0, 0)) (by (with_reducible repeat (first | refine blk_drewN ?_ _ | refine blk_drew ?_ | refine blk_alloc ?_ _)); exact BK148.out) hb)
                      have n3_ := Aside0.mk (blk_below (g := gb149) (o := .cells #[.int .i64 (wrap64 ((wrap64 (1 + t143)) + 1)), .int .i64 (wrap64 (4 + (wrap64 (4 * t144)))), .int .i64 (wrap64 (16 + t145))] 23 (0, 0)) (by (with_reducible repeat (first | refine blk_drewN ?_ _ | refine blk_drew ?_ | refine blk_alloc ?_ _)); exact BK149.out) hb)
                      have n4_ := Aside0.mk (below_step (by repeat (first | (with_reducible first | exact HB.out | apply below_alloc | apply pw_below_drewN | apply below_drew1 | refine below_set ?_ GE146.out | refine below_set ?_ GE147.out | refine below_set ?_ GE148.out | refine below_set ?_ GE149.out) | exact HB.out)) hb)
                      clear BK146
                      clear BK147
                      clear BK148
                      clear BK149
                      clear HB
                      have BK146 := n0_
                      have BK147 := n1_
                      have BK148 := n2_
                      have BK149 := n3_
                      have HB := n4_
                      clear n0_ n1_ n2_ n3_ n4_
                      (try clear hb)
                      (try clear hb2)
                      (try clear hk)
                      (try clear hi)
                      refine hK.out _ _ ⟨(blk_cell BK147.out 0).trans rfl, (blk_cell BK147.out 1).trans rfl, (blk_cell BK147.out 2).trans rfl, (blk_cell BK146.out 0).trans rfl, (blk_cell BK146.out 1).trans rfl, (blk_cell BK146.out 2).trans rfl, (blk_cell BK148.out 0).trans rfl, (blk_cell BK148.out 1).trans rfl, (blk_cell BK148.out 2).trans rfl, (blk_cell BK149.out 0).trans rfl, (blk_cell BK149.out 1).trans rfl, (blk_cell BK149.out 2).trans rfl⟩ (fun hHeld => ?_)
                      clear hK K
                      refine norm_ (a' := ?_) ?_ ?_
                      rotate_left
                      · show Act.put _ (some 89) _ = _
                        simp only [Act.put, List.setIfInBounds_toArray, List.set_cons_zero, List.set_cons_succ, i64_w, i32_w]
                        rfl
                      refine pure_ (i := 20) (N := some 91) (v := ?_) (a' := ?_) #[true, true, true, true, true, true, true, true, true, true, true, true, true, true, true, true, true, true, true, true, true, true, false, false, true, true, false, false, false, false, false, false, false, false, false, false, false, false, false, false, false, false, false, false, false, false, false, false, false, false, false, false, false, false, false, false, false, false, false, false, false, false, false, false, false, false, false, false, false, false, false, false, false, false, false, false, false, false, false, false, false] rfl rfl (any_of HT_.out (by kernel_rfl)) (fun _ _ _ h => h) (Or.inl ⟨by rfl, ?_⟩) ?_ ?_
                      rotate_left
                      · intro w'
                        go_simp
                        with_reducible rfl
                      rotate_left
                      · simp only [Act.put, List.setIfInBounds_toArray, List.set_cons_zero, List.set_cons_succ, i64_w, i32_w]
                        rfl
                      refine one_ (i := 22) (N := some 93) #[true, true, true, true, true, true, true, true, true, true, true, true, true, true, true, true, true, true, true, true, true, true, true, false, true, true, false, false, false, false, false, false, false, false, false, false, false, false, false, false, false, false, false, false, false, false, false, false, false, false, false, false, false, false, false, false, false, false, false, false, false, false, false, false, false, false, false, false, false, false, false, false, false, false, false, false, false, false, false, false, false] rfl rfl (one_of HT_.out (by kernel_rfl)) (by decide) (fun K hK => ?_)
                      refine goes_ Try.func22 (by kernel_rfl) rfl #[.agg #[.int .i64 (wrap64 (1 + t143)), .int .i64 (wrap64 (4 + (wrap64 (4 * t144)))), .int .i64 (wrap64 (16 + t145))], .int .i64 0] (by rfl) rfl rfl (by (try simp only [List.map_toArray, List.map_cons, List.map_nil]); first | done | rfl | (simp only [List.length_drop, List.length_take]; rfl)) ?_
                      with_reducible refine (geom_First.calls (wrap64 (1 + t143)) (wrap64 (4 + (wrap64 (4 * t144)))) (wrap64 (16 + t145)) 0 t161 _ A18.out).mono ?_
                      rintro e w71 ⟨rfl, hb⟩
                      refine ⟨_, rfl, ?_⟩
                      have n0_ := Aside0.mk (blk_below (g := gb146) (o := .cells #[.int .i64 (wrap64 (1 + t143)), .int .i64 (wrap64 (4 + (wrap64 (4 * t144)))), .int .i64 (wrap64 (16 + t145))] 23 (0, 0)) (by (with_reducible repeat (first | refine blk_drewN ?_ _ | refine blk_drew ?_ | refine blk_alloc ?_ _)); exact BK146.out) hb)
                      have n1_ := Aside0.mk (blk_below (g := gb147) (o := .cells #[.int .i64 (wrap64 (1 + t143)), .int .i64 (wrap64 (4 + (wrap64 (4 * t144)))), .int .i64 (wrap64 ((wrap64 (16 + t145)) + 1))] 23 (0, 0)) (by (with_reducible repeat (first | refine blk_drewN ?_ _ | refine blk_drew ?_ | refine blk_alloc ?_ _)); exact BK147.out) hb)
                      have n2_ := Aside0.mk (blk_below (g := gb148) (o := .cells #[.int .i64 (wrap64 (1 + t143)), .int .i64 (wrap64 ((wrap64 (4 + (wrap64 (4 * t144)))) + 4)), .int .i64 (wrap64 (16 + t145))] 23 (0, 0)) (by (with_reducible repeat (first | refine blk_drewN ?_ _ | refine blk_drew ?_ | refine blk_alloc ?_ _)); exact BK148.out) hb)
                      have n3_ := Aside0.mk (blk_below (g := gb149) (o := .cells #[.int .i64 (wrap64 ((wrap64 (1 + t143)) + 1)), .int .i64 (wrap64 (4 + (wrap64 (4 * t144)))), .int .i64 (wrap64 (16 + t145))] 23 (0, 0)) (by (with_reducible repeat (first | refine blk_drewN ?_ _ | refine blk_drew ?_ | refine blk_alloc ?_ _)); exact BK149.out) hb)
                      have n4_ := Aside0.mk (below_step (by repeat (first | (with_reducible first | exact HB.out | apply below_alloc | apply pw_below_drewN | apply below_drew1 | refine below_set ?_ GE146.out | refine below_set ?_ GE147.out | refine below_set ?_ GE148.out | refine below_set ?_ GE149.out) | exact HB.out)) hb)
                      clear BK146
                      clear BK147
                      clear BK148
                      clear BK149
                      clear HB
                      have BK146 := n0_
                      have BK147 := n1_
                      have BK148 := n2_
                      have BK149 := n3_
                      have HB := n4_
                      clear n0_ n1_ n2_ n3_ n4_
                      (try clear hb)
                      (try clear hb2)
                      (try clear hk)
                      (try clear hi)
                      refine hK.out _ _ ⟨(blk_cell BK147.out 0).trans rfl, (blk_cell BK147.out 1).trans rfl, (blk_cell BK147.out 2).trans rfl, (blk_cell BK146.out 0).trans rfl, (blk_cell BK146.out 1).trans rfl, (blk_cell BK146.out 2).trans rfl, (blk_cell BK148.out 0).trans rfl, (blk_cell BK148.out 1).trans rfl, (blk_cell BK148.out 2).trans rfl, (blk_cell BK149.out 0).trans rfl, (blk_cell BK149.out 1).trans rfl, (blk_cell BK149.out 2).trans rfl⟩ (fun hHeld => ?_)
                      clear hK K
                      refine norm_ (a' := ?_) ?_ ?_
                      rotate_left
                      · show Act.put _ (some 93) _ = _
                        simp only [Act.put, List.setIfInBounds_toArray, List.set_cons_zero, List.set_cons_succ, i64_w, i32_w]
                        rfl
                      refine pure_ (i := 23) (N := some 94) (v := ?_) (a' := ?_) #[true, true, true, true, true, true, true, true, true, true, true, true, true, true, true, true, true, true, true, true, true, true, true, true, true, true, false, false, false, false, false, false, false, false, false, false, false, false, false, false, false, false, false, false, false, false, false, false, false, false, false, false, false, false, false, false, false, false, false, false, false, false, false, false, false, false, false, false, false, false, false, false, false, false, false, false, false, false, false, false, false] rfl rfl (any_of HT_.out (by kernel_rfl)) (fun _ _ _ h => h) (Or.inl ⟨by rfl, ?_⟩) ?_ ?_
                      rotate_left
                      · intro w'
                        go_simp
                        with_reducible rfl
                      rotate_left
                      · simp only [Act.put, List.setIfInBounds_toArray, List.set_cons_zero, List.set_cons_succ, i64_w, i32_w]
                        rfl
                      refine pure_ (i := 26) (N := some 97) (v := ?_) (a' := ?_) #[true, true, true, true, true, true, true, true, true, true, true, true, true, true, true, true, true, true, true, true, true, true, true, true, true, true, true, false, false, false, false, false, false, false, false, false, false, false, false, false, false, false, false, false, false, false, false, false, false, false, false, false, false, false, false, false, false, false, false, false, false, false, false, false, false, false, false, false, false, false, false, false, false, false, false, false, false, false, false, false, false] rfl rfl (any_of HT_.out (by kernel_rfl)) (fun _ _ _ h => h) (Or.inl ⟨by rfl, ?_⟩) ?_ ?_
                      rotate_left
                      · intro w'
                        go_simp
                        with_reducible rfl
                      rotate_left
                      · simp only [Act.put, List.setIfInBounds_toArray, List.set_cons_zero, List.set_cons_succ, i64_w, i32_w]
                        rfl
                      refine pure_ (i := 27) (N := some 98) (v := ?_) (a' := ?_) #[true, true, true, true, true, true, true, true, true, true, true, true, true, true, true, true, true, true, true, true, true, true, true, true, true, true, true, true, false, false, false, false, false, false, false, false, false, false, false, false, false, false, false, false, false, false, false, false, false, false, false, false, false, false, false, false, false, false, false, false, false, false, false, false, false, false, false, false, false, false, false, false, false, false, false, false, false, false, false, false, false] rfl rfl (any_of HT_.out (by kernel_rfl)) (fun _ _ _ h => h) (Or.inl ⟨by rfl, ?_⟩) ?_ ?_
                      rotate_left
                      · intro w'
                        go_simp
                        with_reducible rfl
                      rotate_left
                      · simp only [Act.put, List.setIfInBounds_toArray, List.set_cons_zero, List.set_cons_succ, i64_w, i32_w]
                        rfl
                      refine pure_ (i := 28) (N := some 99) (v := ?_) (a' := ?_) #[true, true, true, true, true, true, true, true, true, true, true, true, true, true, true, true, true, true, true, true, true, true, true, true, true, true, true, true, true, false, false, false, false, false, false, false, false, false, false, false, false, false, false, false, false, false, false, false, false, false, false, false, false, false, false, false, false, false, false, false, false, false, false, false, false, false, false, false, false, false, false, false, false, false, false, false, false, false, false, false, false] rfl rfl (any_of HT_.out (by kernel_rfl)) (fun _ _ _ h => h) (Or.inl ⟨by rfl, ?_⟩) ?_ ?_
                      rotate_left
                      · intro w'
                        go_simp
                        with_reducible rfl
                      rotate_left
                      · simp only [Act.put, List.setIfInBounds_toArray, List.set_cons_zero, List.set_cons_succ, i64_w, i32_w]
                        rfl
                      refine pure_ (i := 29) (N := some 100) (v := ?_) (a' := ?_) #[true, true, true, true, true, true, true, true, true, true, true, true, true, true, true, true, true, true, true, true, true, true, true, true, true, true, true, true, true, true, false, false, false, false, false, false, false, false, false, false, false, false, false, false, false, false, false, false, false, false, false, false, false, false, false, false, false, false, false, false, false, false, false, false, false, false, false, false, false, false, false, false, false, false, false, false, false, false, false, false, false] rfl rfl (any_of HT_.out (by kernel_rfl)) (fun _ _ _ h => h) (Or.inl ⟨by rfl, ?_⟩) ?_ ?_
                      rotate_left
                      · intro w'
                        go_simp
                        with_reducible rfl
                      rotate_left
                      · simp only [Act.put, List.setIfInBounds_toArray, List.set_cons_zero, List.set_cons_succ, i64_w, i32_w]
                        rfl
                      refine pure_ (i := 31) (N := some 102) (v := ?_) (a' := ?_) #[true, true, true, true, true, true, true, true, true, true, true, true, true, true, true, true, true, true, true, true, true, true, true, true, true, true, true, true, true, true, false, true, false, false, false, false, false, false, false, false, false, false, false, false, false, false, false, false, false, false, false, false, false, false, false, false, false, false, false, false, false, false, false, false, false, false, false, false, false, false, false, false, false, false, false, false, false, false, false, false, false] rfl rfl (any_of HT_.out (by kernel_rfl)) (fun _ _ _ h => h) (Or.inl ⟨by rfl, ?_⟩) ?_ ?_
                      rotate_left
                      · intro w'
                        go_simp
                        with_reducible rfl
                      rotate_left
                      · simp only [Act.put, List.setIfInBounds_toArray, List.set_cons_zero, List.set_cons_succ, i64_w, i32_w]
                        rfl
                      refine pure_ (i := 34) (N := some 105) (v := ?_) (a' := ?_) #[true, true, true, true, true, true, true, true, true, true, true, true, true, true, true, true, true, true, true, true, true, true, true, true, true, true, true, true, true, true, false, true, false, false, true, false, false, false, false, false, false, false, false, false, false, false, false, false, false, false, false, false, false, false, false, false, false, false, false, false, false, false, false, false, false, false, false, false, false, false, false, false, false, false, false, false, false, false, false, false, false] rfl rfl (any_of HT_.out (by kernel_rfl)) (fun _ _ _ h => h) (Or.inl ⟨by rfl, ?_⟩) ?_ ?_
                      rotate_left
                      · intro w'
                        go_simp
                        with_reducible rfl
                      rotate_left
                      · simp only [Act.put, List.setIfInBounds_toArray, List.set_cons_zero, List.set_cons_succ, i64_w, i32_w]
                        rfl
                      refine take_ (i := 30) (N := some 101) (v := ?_) (a' := ?_) #[true, true, true, true, true, true, true, true, true, true, true, true, true, true, true, true, true, true, true, true, true, true, true, true, true, true, true, true, true, true, true, true, false, false, true, false, false, false, false, false, false, false, false, false, false, false, false, false, false, false, false, false, false, false, false, false, false, false, false, false, false, false, false, false, false, false, false, false, false, false, false, false, false, false, false, false, false, false, false, false, false] rfl rfl (take_ofW HT_.out HW_.out (by kernel_rfl)) (fun _ _ _ h => h) (Or.inl ⟨by rfl, ?_⟩) hHeld ?_ ?_
                      rotate_left
                      · rintro w' ⟨s0, s1, s2, s3, s4, s5, s6, s7, s8, s9, s10, s11⟩
                        go_simp
                        with_reducible rfl
                      rotate_left
                      · simp only [Act.put, List.setIfInBounds_toArray, List.set_cons_zero, List.set_cons_succ, i64_w, i32_w]
                        rfl
                      refine take_ (i := 32) (N := some 103) (v := ?_) (a' := ?_) #[true, true, true, true, true, true, true, true, true, true, true, true, true, true, true, true, true, true, true, true, true, true, true, true, true, true, true, true, true, true, true, true, true, false, true, false, false, false, false, false, false, false, false, false, false, false, false, false, false, false, false, false, false, false, false, false, false, false, false, false, false, false, false, false, false, false, false, false, false, false, false, false, false, false, false, false, false, false, false, false, false] rfl rfl (take_ofW HT_.out HW_.out (by kernel_rfl)) (fun _ _ _ h => h) (Or.inl ⟨by rfl, ?_⟩) hHeld ?_ ?_
                      rotate_left
                      · rintro w' ⟨s0, s1, s2, s3, s4, s5, s6, s7, s8, s9, s10, s11⟩
                        go_simp
                        with_reducible rfl
                      rotate_left
                      · simp only [Act.put, List.setIfInBounds_toArray, List.set_cons_zero, List.set_cons_succ, i64_w, i32_w]
                        rfl
                      refine one_ (i := 33) (N := some 104) #[true, true, true, true, true, true, true, true, true, true, true, true, true, true, true, true, true, true, true, true, true, true, true, true, true, true, true, true, true, true, true, true, true, true, true, false, false, false, false, false, false, false, false, false, false, false, false, false, false, false, false, false, false, false, false, false, false, false, false, false, false, false, false, false, false, false, false, false, false, false, false, false, false, false, false, false, false, false, false, false, false] rfl rfl (one_of HT_.out (by kernel_rfl)) (by decide) (fun K hK => ?_)
                      refine goes_ Try.func20 (by kernel_rfl) rfl #[.agg #[.int .i64 (wrap64 ((wrap64 (1 + t143)) + 1)), .int .i64 (wrap64 (4 + (wrap64 (4 * t144)))), .int .i64 (wrap64 (16 + t145))], .int .i64 (wrap64 (1 + t143))] (by rfl) rfl rfl (by (try simp only [List.map_toArray, List.map_cons, List.map_nil]); first | done | rfl | (simp only [List.length_drop, List.length_take]; rfl)) ?_
                      with_reducible refine (geom_Group.calls (wrap64 ((wrap64 (1 + t143)) + 1)) (wrap64 (4 + (wrap64 (4 * t144)))) (wrap64 (16 + t145)) (wrap64 (1 + t143)) t162 _ A20.out).mono ?_
                      rintro e w72 ⟨rfl, hb⟩
                      refine ⟨_, rfl, ?_⟩
                      have n0_ := Aside0.mk (blk_below (g := gb146) (o := .cells #[.int .i64 (wrap64 (1 + t143)), .int .i64 (wrap64 (4 + (wrap64 (4 * t144)))), .int .i64 (wrap64 (16 + t145))] 23 (0, 0)) (by (with_reducible repeat (first | refine blk_drewN ?_ _ | refine blk_drew ?_ | refine blk_alloc ?_ _)); exact BK146.out) hb)
                      have n1_ := Aside0.mk (blk_below (g := gb147) (o := .cells #[.int .i64 (wrap64 (1 + t143)), .int .i64 (wrap64 (4 + (wrap64 (4 * t144)))), .int .i64 (wrap64 ((wrap64 (16 + t145)) + 1))] 23 (0, 0)) (by (with_reducible repeat (first | refine blk_drewN ?_ _ | refine blk_drew ?_ | refine blk_alloc ?_ _)); exact BK147.out) hb)
                      have n2_ := Aside0.mk (blk_below (g := gb148) (o := .cells #[.int .i64 (wrap64 (1 + t143)), .int .i64 (wrap64 ((wrap64 (4 + (wrap64 (4 * t144)))) + 4)), .int .i64 (wrap64 (16 + t145))] 23 (0, 0)) (by (with_reducible repeat (first | refine blk_drewN ?_ _ | refine blk_drew ?_ | refine blk_alloc ?_ _)); exact BK148.out) hb)
                      have n3_ := Aside0.mk (blk_below (g := gb149) (o := .cells #[.int .i64 (wrap64 ((wrap64 (1 + t143)) + 1)), .int .i64 (wrap64 (4 + (wrap64 (4 * t144)))), .int .i64 (wrap64 (16 + t145))] 23 (0, 0)) (by (with_reducible repeat (first | refine blk_drewN ?_ _ | refine blk_drew ?_ | refine blk_alloc ?_ _)); exact BK149.out) hb)
                      have n4_ := Aside0.mk (below_step (by repeat (first | (with_reducible first | exact HB.out | apply below_alloc | apply pw_below_drewN | apply below_drew1 | refine below_set ?_ GE146.out | refine below_set ?_ GE147.out | refine below_set ?_ GE148.out | refine below_set ?_ GE149.out) | exact HB.out)) hb)
                      clear BK146
                      clear BK147
                      clear BK148
                      clear BK149
                      clear HB
                      have BK146 := n0_
                      have BK147 := n1_
                      have BK148 := n2_
                      have BK149 := n3_
                      have HB := n4_
                      clear n0_ n1_ n2_ n3_ n4_
                      (try clear hb)
                      (try clear hb2)
                      (try clear hk)
                      (try clear hi)
                      refine hK.out _ _ ⟨(blk_cell BK147.out 0).trans rfl, (blk_cell BK147.out 1).trans rfl, (blk_cell BK147.out 2).trans rfl, (blk_cell BK146.out 0).trans rfl, (blk_cell BK146.out 1).trans rfl, (blk_cell BK146.out 2).trans rfl, (blk_cell BK148.out 0).trans rfl, (blk_cell BK148.out 1).trans rfl, (blk_cell BK148.out 2).trans rfl, (blk_cell BK149.out 0).trans rfl, (blk_cell BK149.out 1).trans rfl, (blk_cell BK149.out 2).trans rfl⟩ (fun hHeld => ?_)
                      clear hK K
                      refine norm_ (a' := ?_) ?_ ?_
                      rotate_left
                      · show Act.put _ (some 104) _ = _
                        simp only [Act.put, List.setIfInBounds_toArray, List.set_cons_zero, List.set_cons_succ, i64_w, i32_w]
                        rfl
                      refine pure_ (i := 35) (N := some 106) (v := ?_) (a' := ?_) #[true, true, true, true, true, true, true, true, true, true, true, true, true, true, true, true, true, true, true, true, true, true, true, true, true, true, true, true, true, true, true, true, true, true, true, true, false, false, false, false, false, false, false, false, false, false, false, false, false, false, false, false, false, false, false, false, false, false, false, false, false, false, false, false, false, false, false, false, false, false, false, false, false, false, false, false, false, false, false, false, false] rfl rfl (any_of HT_.out (by kernel_rfl)) (fun _ _ _ h => h) (Or.inl ⟨by rfl, ?_⟩) ?_ ?_
                      rotate_left
                      · intro w'
                        go_simp
                        with_reducible rfl
                      rotate_left
                      · simp only [Act.put, List.setIfInBounds_toArray, List.set_cons_zero, List.set_cons_succ, i64_w, i32_w]
                        rfl
                      refine pure_ (i := 36) (N := some 107) (v := ?_) (a' := ?_) #[true, true, true, true, true, true, true, true, true, true, true, true, true, true, true, true, true, true, true, true, true, true, true, true, true, true, true, true, true, true, true, true, true, true, true, true, true, false, false, false, false, false, false, false, false, false, false, false, false, false, false, false, false, false, false, false, false, false, false, false, false, false, false, false, false, false, false, false, false, false, false, false, false, false, false, false, false, false, false, false, false] rfl rfl (any_of HT_.out (by kernel_rfl)) (fun _ _ _ h => h) (Or.inl ⟨by rfl, ?_⟩) ?_ ?_
                      rotate_left
                      · intro w'
                        go_simp
                        with_reducible rfl
                      rotate_left
                      · simp only [Act.put, List.setIfInBounds_toArray, List.set_cons_zero, List.set_cons_succ, i64_w, i32_w]
                        rfl
                      refine pure_ (i := 37) (N := some 108) (v := ?_) (a' := ?_) #[true, true, true, true, true, true, true, true, true, true, true, true, true, true, true, true, true, true, true, true, true, true, true, true, true, true, true, true, true, true, true, true, true, true, true, true, true, true, false, false, false, false, false, false, false, false, false, false, false, false, false, false, false, false, false, false, false, false, false, false, false, false, false, false, false, false, false, false, false, false, false, false, false, false, false, false, false, false, false, false, false] rfl rfl (any_of HT_.out (by kernel_rfl)) (fun _ _ _ h => h) (Or.inl ⟨by rfl, ?_⟩) ?_ ?_
                      rotate_left
                      · intro w'
                        go_simp
                        with_reducible rfl
                      rotate_left
                      · simp only [Act.put, List.setIfInBounds_toArray, List.set_cons_zero, List.set_cons_succ, i64_w, i32_w]
                        rfl
                      refine pure_ (i := 38) (N := some 109) (v := ?_) (a' := ?_) #[true, true, true, true, true, true, true, true, true, true, true, true, true, true, true, true, true, true, true, true, true, true, true, true, true, true, true, true, true, true, true, true, true, true, true, true, true, true, true, false, false, false, false, false, false, false, false, false, false, false, false, false, false, false, false, false, false, false, false, false, false, false, false, false, false, false, false, false, false, false, false, false, false, false, false, false, false, false, false, false, false] rfl rfl (any_of HT_.out (by kernel_rfl)) (fun _ _ _ h => h) (Or.inl ⟨by rfl, ?_⟩) ?_ ?_
                      rotate_left
                      · intro w'
                        go_simp
                        with_reducible rfl
                      rotate_left
                      · simp only [Act.put, List.setIfInBounds_toArray, List.set_cons_zero, List.set_cons_succ, i64_w, i32_w]
                        rfl
                      refine pure_ (i := 39) (N := some 110) (v := ?_) (a' := ?_) #[true, true, true, true, true, true, true, true, true, true, true, true, true, true, true, true, true, true, true, true, true, true, true, true, true, true, true, true, true, true, true, true, true, true, true, true, true, true, true, true, false, false, false, false, false, false, false, false, false, false, false, false, false, false, false, false, false, false, false, false, false, false, false, false, false, false, false, false, false, false, false, false, false, false, false, false, false, false, false, false, false] rfl rfl (any_of HT_.out (by kernel_rfl)) (fun _ _ _ h => h) (Or.inl ⟨by rfl, ?_⟩) ?_ ?_
                      rotate_left
                      · intro w'
                        go_simp
                        with_reducible rfl
                      rotate_left
                      · simp only [Act.put, List.setIfInBounds_toArray, List.set_cons_zero, List.set_cons_succ, i64_w, i32_w]
                        rfl
                      refine pure_ (i := 40) (N := some 111) (v := ?_) (a' := ?_) #[true, true, true, true, true, true, true, true, true, true, true, true, true, true, true, true, true, true, true, true, true, true, true, true, true, true, true, true, true, true, true, true, true, true, true, true, true, true, true, true, true, false, false, false, false, false, false, false, false, false, false, false, false, false, false, false, false, false, false, false, false, false, false, false, false, false, false, false, false, false, false, false, false, false, false, false, false, false, false, false, false] rfl rfl (any_of HT_.out (by kernel_rfl)) (fun _ _ _ h => h) (Or.inl ⟨by rfl, ?_⟩) ?_ ?_
                      rotate_left
                      · intro w'
                        go_simp
                        with_reducible rfl
                      rotate_left
                      · simp only [Act.put, List.setIfInBounds_toArray, List.set_cons_zero, List.set_cons_succ, i64_w, i32_w]
                        rfl
                      refine pure_ (i := 41) (N := some 112) (v := ?_) (a' := ?_) #[true, true, true, true, true, true, true, true, true, true, true, true, true, true, true, true, true, true, true, true, true, true, true, true, true, true, true, true, true, true, true, true, true, true, true, true, true, true, true, true, true, true, false, false, false, false, false, false, false, false, false, false, false, false, false, false, false, false, false, false, false, false, false, false, false, false, false, false, false, false, false, false, false, false, false, false, false, false, false, false, false] rfl rfl (any_of HT_.out (by kernel_rfl)) (fun _ _ _ h => h) (Or.inl ⟨by rfl, ?_⟩) ?_ ?_
                      rotate_left
                      · intro w'
                        go_simp
                        with_reducible rfl
                      rotate_left
                      · simp only [Act.put, List.setIfInBounds_toArray, List.set_cons_zero, List.set_cons_succ, i64_w, i32_w]
                        rfl
                      refine pure_ (i := 42) (N := some 113) (v := ?_) (a' := ?_) #[true, true, true, true, true, true, true, true, true, true, true, true, true, true, true, true, true, true, true, true, true, true, true, true, true, true, true, true, true, true, true, true, true, true, true, true, true, true, true, true, true, true, true, false, false, false, false, false, false, false, false, false, false, false, false, false, false, false, false, false, false, false, false, false, false, false, false, false, false, false, false, false, false, false, false, false, false, false, false, false, false] rfl rfl (any_of HT_.out (by kernel_rfl)) (fun _ _ _ h => h) (Or.inl ⟨by rfl, ?_⟩) ?_ ?_
                      rotate_left
                      · intro w'
                        go_simp
                        with_reducible rfl
                      rotate_left
                      · simp only [Act.put, List.setIfInBounds_toArray, List.set_cons_zero, List.set_cons_succ, i64_w, i32_w]
                        rfl
                      refine pure_ (i := 43) (N := some 114) (v := ?_) (a' := ?_) #[true, true, true, true, true, true, true, true, true, true, true, true, true, true, true, true, true, true, true, true, true, true, true, true, true, true, true, true, true, true, true, true, true, true, true, true, true, true, true, true, true, true, true, true, false, false, false, false, false, false, false, false, false, false, false, false, false, false, false, false, false, false, false, false, false, false, false, false, false, false, false, false, false, false, false, false, false, false, false, false, false] rfl rfl (any_of HT_.out (by kernel_rfl)) (fun _ _ _ h => h) (Or.inl ⟨by rfl, ?_⟩) ?_ ?_
                      rotate_left
                      · intro w'
                        go_simp
                        with_reducible rfl
                      rotate_left
                      · simp only [Act.put, List.setIfInBounds_toArray, List.set_cons_zero, List.set_cons_succ, i64_w, i32_w]
                        rfl
                      refine pure_ (i := 44) (N := some 115) (v := ?_) (a' := ?_) #[true, true, true, true, true, true, true, true, true, true, true, true, true, true, true, true, true, true, true, true, true, true, true, true, true, true, true, true, true, true, true, true, true, true, true, true, true, true, true, true, true, true, true, true, true, false, false, false, false, false, false, false, false, false, false, false, false, false, false, false, false, false, false, false, false, false, false, false, false, false, false, false, false, false, false, false, false, false, false, false, false] rfl rfl (any_of HT_.out (by kernel_rfl)) (fun _ _ _ h => h) (Or.inl ⟨by rfl, ?_⟩) ?_ ?_
                      rotate_left
                      · intro w'
                        go_simp
                        with_reducible rfl
                      rotate_left
                      · simp only [Act.put, List.setIfInBounds_toArray, List.set_cons_zero, List.set_cons_succ, i64_w, i32_w]
                        rfl
                      refine pure_ (i := 45) (N := some 116) (v := ?_) (a' := ?_) #[true, true, true, true, true, true, true, true, true, true, true, true, true, true, true, true, true, true, true, true, true, true, true, true, true, true, true, true, true, true, true, true, true, true, true, true, true, true, true, true, true, true, true, true, true, true, false, false, false, false, false, false, false, false, false, false, false, false, false, false, false, false, false, false, false, false, false, false, false, false, false, false, false, false, false, false, false, false, false, false, false] rfl rfl (any_of HT_.out (by kernel_rfl)) (fun _ _ _ h => h) (Or.inl ⟨by rfl, ?_⟩) ?_ ?_
                      rotate_left
                      · intro w'
                        go_simp
                        with_reducible rfl
                      rotate_left
                      · simp only [Act.put, List.setIfInBounds_toArray, List.set_cons_zero, List.set_cons_succ, i64_w, i32_w]
                        rfl
                      refine pure_ (i := 46) (N := some 117) (v := ?_) (a' := ?_) #[true, true, true, true, true, true, true, true, true, true, true, true, true, true, true, true, true, true, true, true, true, true, true, true, true, true, true, true, true, true, true, true, true, true, true, true, true, true, true, true, true, true, true, true, true, true, true, false, false, false, false, false, false, false, false, false, false, false, false, false, false, false, false, false, false, false, false, false, false, false, false, false, false, false, false, false, false, false, false, false, false] rfl rfl (any_of HT_.out (by kernel_rfl)) (fun _ _ _ h => h) (Or.inl ⟨by rfl, ?_⟩) ?_ ?_
                      rotate_left
                      · intro w'
                        go_simp
                        with_reducible rfl
                      rotate_left
                      · simp only [Act.put, List.setIfInBounds_toArray, List.set_cons_zero, List.set_cons_succ, i64_w, i32_w]
                        rfl
                      refine pure_ (i := 47) (N := some 118) (v := ?_) (a' := ?_) #[true, true, true, true, true, true, true, true, true, true, true, true, true, true, true, true, true, true, true, true, true, true, true, true, true, true, true, true, true, true, true, true, true, true, true, true, true, true, true, true, true, true, true, true, true, true, true, true, false, false, false, false, false, false, false, false, false, false, false, false, false, false, false, false, false, false, false, false, false, false, false, false, false, false, false, false, false, false, false, false, false] rfl rfl (any_of HT_.out (by kernel_rfl)) (fun _ _ _ h => h) (Or.inl ⟨by rfl, ?_⟩) ?_ ?_
                      rotate_left
                      · intro w'
                        go_simp
                        with_reducible rfl
                      rotate_left
                      · simp only [Act.put, List.setIfInBounds_toArray, List.set_cons_zero, List.set_cons_succ, i64_w, i32_w]
                        rfl
                      refine pure_ (i := 48) (N := some 119) (v := ?_) (a' := ?_) #[true, true, true, true, true, true, true, true, true, true, true, true, true, true, true, true, true, true, true, true, true, true, true, true, true, true, true, true, true, true, true, true, true, true, true, true, true, true, true, true, true, true, true, true, true, true, true, true, true, false, false, false, false, false, false, false, false, false, false, false, false, false, false, false, false, false, false, false, false, false, false, false, false, false, false, false, false, false, false, false, false] rfl rfl (any_of HT_.out (by kernel_rfl)) (fun _ _ _ h => h) (Or.inl ⟨by rfl, ?_⟩) ?_ ?_
                      rotate_left
                      · intro w'
                        go_simp
                        with_reducible rfl
                      rotate_left
                      · simp only [Act.put, List.setIfInBounds_toArray, List.set_cons_zero, List.set_cons_succ, i64_w, i32_w]
                        rfl
                      refine pure_ (i := 49) (N := some 120) (v := ?_) (a' := ?_) #[true, true, true, true, true, true, true, true, true, true, true, true, true, true, true, true, true, true, true, true, true, true, true, true, true, true, true, true, true, true, true, true, true, true, true, true, true, true, true, true, true, true, true, true, true, true, true, true, true, true, false, false, false, false, false, false, false, false, false, false, false, false, false, false, false, false, false, false, false, false, false, false, false, false, false, false, false, false, false, false, false] rfl rfl (any_of HT_.out (by kernel_rfl)) (fun _ _ _ h => h) (Or.inl ⟨by rfl, ?_⟩) ?_ ?_
                      rotate_left
                      · intro w'
                        go_simp
                        with_reducible rfl
                      rotate_left
                      · simp only [Act.put, List.setIfInBounds_toArray, List.set_cons_zero, List.set_cons_succ, i64_w, i32_w]
                        rfl
                      refine pure_ (i := 50) (N := some 121) (v := ?_) (a' := ?_) #[true, true, true, true, true, true, true, true, true, true, true, true, true, true, true, true, true, true, true, true, true, true, true, true, true, true, true, true, true, true, true, true, true, true, true, true, true, true, true, true, true, true, true, true, true, true, true, true, true, true, true, false, false, false, false, false, false, false, false, false, false, false, false, false, false, false, false, false, false, false, false, false, false, false, false, false, false, false, false, false, false] rfl rfl (any_of HT_.out (by kernel_rfl)) (fun _ _ _ h => h) (Or.inl ⟨by rfl, ?_⟩) ?_ ?_
                      rotate_left
                      · intro w'
                        go_simp
                        with_reducible rfl
                      rotate_left
                      · simp only [Act.put, List.setIfInBounds_toArray, List.set_cons_zero, List.set_cons_succ, i64_w, i32_w]
                        rfl
                      refine pure_ (i := 51) (N := some 122) (v := ?_) (a' := ?_) #[true, true, true, true, true, true, true, true, true, true, true, true, true, true, true, true, true, true, true, true, true, true, true, true, true, true, true, true, true, true, true, true, true, true, true, true, true, true, true, true, true, true, true, true, true, true, true, true, true, true, true, true, false, false, false, false, false, false, false, false, false, false, false, false, false, false, false, false, false, false, false, false, false, false, false, false, false, false, false, false, false] rfl rfl (any_of HT_.out (by kernel_rfl)) (fun _ _ _ h => h) (Or.inl ⟨by rfl, ?_⟩) ?_ ?_
                      rotate_left
                      · intro w'
                        go_simp
                        with_reducible rfl
                      rotate_left
                      · simp only [Act.put, List.setIfInBounds_toArray, List.set_cons_zero, List.set_cons_succ, i64_w, i32_w]
                        rfl
                      refine pure_ (i := 52) (N := some 123) (v := ?_) (a' := ?_) #[true, true, true, true, true, true, true, true, true, true, true, true, true, true, true, true, true, true, true, true, true, true, true, true, true, true, true, true, true, true, true, true, true, true, true, true, true, true, true, true, true, true, true, true, true, true, true, true, true, true, true, true, true, false, false, false, false, false, false, false, false, false, false, false, false, false, false, false, false, false, false, false, false, false, false, false, false, false, false, false, false] rfl rfl (any_of HT_.out (by kernel_rfl)) (fun _ _ _ h => h) (Or.inl ⟨by rfl, ?_⟩) ?_ ?_
                      rotate_left
                      · intro w'
                        go_simp
                        with_reducible rfl
                      rotate_left
                      · simp only [Act.put, List.setIfInBounds_toArray, List.set_cons_zero, List.set_cons_succ, i64_w, i32_w]
                        rfl
                      refine pure_ (i := 53) (N := some 124) (v := ?_) (a' := ?_) #[true, true, true, true, true, true, true, true, true, true, true, true, true, true, true, true, true, true, true, true, true, true, true, true, true, true, true, true, true, true, true, true, true, true, true, true, true, true, true, true, true, true, true, true, true, true, true, true, true, true, true, true, true, true, false, false, false, false, false, false, false, false, false, false, false, false, false, false, false, false, false, false, false, false, false, false, false, false, false, false, false] rfl rfl (any_of HT_.out (by kernel_rfl)) (fun _ _ _ h => h) (Or.inl ⟨by rfl, ?_⟩) ?_ ?_
                      rotate_left
                      · intro w'
                        go_simp
                        with_reducible rfl
                      rotate_left
                      · simp only [Act.put, List.setIfInBounds_toArray, List.set_cons_zero, List.set_cons_succ, i64_w, i32_w]
                        rfl
                      refine pure_ (i := 54) (N := some 125) (v := ?_) (a' := ?_) #[true, true, true, true, true, true, true, true, true, true, true, true, true, true, true, true, true, true, true, true, true, true, true, true, true, true, true, true, true, true, true, true, true, true, true, true, true, true, true, true, true, true, true, true, true, true, true, true, true, true, true, true, true, true, true, false, false, false, false, false, false, false, false, false, false, false, false, false, false, false, false, false, false, false, false, false, false, false, false, false, false] rfl rfl (any_of HT_.out (by kernel_rfl)) (fun _ _ _ h => h) (Or.inl ⟨by rfl, ?_⟩) ?_ ?_
                      rotate_left
                      · intro w'
                        go_simp
                        with_reducible rfl
                      rotate_left
                      · simp only [Act.put, List.setIfInBounds_toArray, List.set_cons_zero, List.set_cons_succ, i64_w, i32_w]
                        rfl
                      refine pure_ (i := 55) (N := some 126) (v := ?_) (a' := ?_) #[true, true, true, true, true, true, true, true, true, true, true, true, true, true, true, true, true, true, true, true, true, true, true, true, true, true, true, true, true, true, true, true, true, true, true, true, true, true, true, true, true, true, true, true, true, true, true, true, true, true, true, true, true, true, true, true, false, false, false, false, false, false, false, false, false, false, false, false, false, false, false, false, false, false, false, false, false, false, false, false, false] rfl rfl (any_of HT_.out (by kernel_rfl)) (fun _ _ _ h => h) (Or.inl ⟨by rfl, ?_⟩) ?_ ?_
                      rotate_left
                      · intro w'
                        go_simp
                        with_reducible rfl
                      rotate_left
                      · simp only [Act.put, List.setIfInBounds_toArray, List.set_cons_zero, List.set_cons_succ, i64_w, i32_w]
                        rfl
                      refine pure_ (i := 56) (N := some 127) (v := ?_) (a' := ?_) #[true, true, true, true, true, true, true, true, true, true, true, true, true, true, true, true, true, true, true, true, true, true, true, true, true, true, true, true, true, true, true, true, true, true, true, true, true, true, true, true, true, true, true, true, true, true, true, true, true, true, true, true, true, true, true, true, true, false, false, false, false, false, false, false, false, false, false, false, false, false, false, false, false, false, false, false, false, false, false, false, false] rfl rfl (any_of HT_.out (by kernel_rfl)) (fun _ _ _ h => h) (Or.inl ⟨by rfl, ?_⟩) ?_ ?_
                      rotate_left
                      · intro w'
                        go_simp
                        with_reducible rfl
                      rotate_left
                      · simp only [Act.put, List.setIfInBounds_toArray, List.set_cons_zero, List.set_cons_succ, i64_w, i32_w]
                        rfl
                      refine pure_ (i := 57) (N := some 128) (v := ?_) (a' := ?_) #[true, true, true, true, true, true, true, true, true, true, true, true, true, true, true, true, true, true, true, true, true, true, true, true, true, true, true, true, true, true, true, true, true, true, true, true, true, true, true, true, true, true, true, true, true, true, true, true, true, true, true, true, true, true, true, true, true, true, false, false, false, false, false, false, false, false, false, false, false, false, false, false, false, false, false, false, false, false, false, false, false] rfl rfl (any_of HT_.out (by kernel_rfl)) (fun _ _ _ h => h) (Or.inl ⟨by rfl, ?_⟩) ?_ ?_
                      rotate_left
                      · intro w'
                        go_simp
                        with_reducible rfl
                      rotate_left
                      · simp only [Act.put, List.setIfInBounds_toArray, List.set_cons_zero, List.set_cons_succ, i64_w, i32_w]
                        rfl
                      refine pure_ (i := 62) (N := some 133) (v := ?_) (a' := ?_) #[true, true, true, true, true, true, true, true, true, true, true, true, true, true, true, true, true, true, true, true, true, true, true, true, true, true, true, true, true, true, true, true, true, true, true, true, true, true, true, true, true, true, true, true, true, true, true, true, true, true, true, true, true, true, true, true, true, true, false, false, false, false, true, false, false, false, false, false, false, false, false, false, false, false, false, false, false, false, false, false, false] rfl rfl (any_of HT_.out (by kernel_rfl)) (fun _ _ _ h => h) (Or.inl ⟨by rfl, ?_⟩) ?_ ?_
                      rotate_left
                      · intro w'
                        go_simp
                        with_reducible rfl
                      rotate_left
                      · simp only [Act.put, List.setIfInBounds_toArray, List.set_cons_zero, List.set_cons_succ, i64_w, i32_w]
                        rfl
                      refine take_ (i := 58) (N := some 129) (v := ?_) (a' := ?_) #[true, true, true, true, true, true, true, true, true, true, true, true, true, true, true, true, true, true, true, true, true, true, true, true, true, true, true, true, true, true, true, true, true, true, true, true, true, true, true, true, true, true, true, true, true, true, true, true, true, true, true, true, true, true, true, true, true, true, true, false, false, false, true, false, false, false, false, false, false, false, false, false, false, false, false, false, false, false, false, false, false] rfl rfl (take_ofW HT_.out HW_.out (by kernel_rfl)) (fun _ _ _ h => h) (Or.inl ⟨by rfl, ?_⟩) hHeld ?_ ?_
                      rotate_left
                      · rintro w' ⟨s0, s1, s2, s3, s4, s5, s6, s7, s8, s9, s10, s11⟩
                        go_simp
                        with_reducible rfl
                      rotate_left
                      · simp only [Act.put, List.setIfInBounds_toArray, List.set_cons_zero, List.set_cons_succ, i64_w, i32_w]
                        rfl
                      refine take_ (i := 60) (N := some 131) (v := ?_) (a' := ?_) #[true, true, true, true, true, true, true, true, true, true, true, true, true, true, true, true, true, true, true, true, true, true, true, true, true, true, true, true, true, true, true, true, true, true, true, true, true, true, true, true, true, true, true, true, true, true, true, true, true, true, true, true, true, true, true, true, true, true, true, false, true, false, true, false, false, false, false, false, false, false, false, false, false, false, false, false, false, false, false, false, false] rfl rfl (take_ofW HT_.out HW_.out (by kernel_rfl)) (fun _ _ _ h => h) (Or.inl ⟨by rfl, ?_⟩) hHeld ?_ ?_
                      rotate_left
                      · rintro w' ⟨s0, s1, s2, s3, s4, s5, s6, s7, s8, s9, s10, s11⟩
                        go_simp
                        with_reducible rfl
                      rotate_left
                      · simp only [Act.put, List.setIfInBounds_toArray, List.set_cons_zero, List.set_cons_succ, i64_w, i32_w]
                        rfl
                      refine take_ (i := 63) (N := some 134) (v := ?_) (a' := ?_) #[true, true, true, true, true, true, true, true, true, true, true, true, true, true, true, true, true, true, true, true, true, true, true, true, true, true, true, true, true, true, true, true, true, true, true, true, true, true, true, true, true, true, true, true, true, true, true, true, true, true, true, true, true, true, true, true, true, true, true, false, true, false, true, true, false, false, false, false, false, false, false, false, false, false, false, false, false, false, false, false, false] rfl rfl (take_ofW HT_.out HW_.out (by kernel_rfl)) (fun _ _ _ h => h) (Or.inl ⟨by rfl, ?_⟩) hHeld ?_ ?_
                      rotate_left
                      · rintro w' ⟨s0, s1, s2, s3, s4, s5, s6, s7, s8, s9, s10, s11⟩
                        go_simp
                        with_reducible rfl
                      rotate_left
                      · simp only [Act.put, List.setIfInBounds_toArray, List.set_cons_zero, List.set_cons_succ, i64_w, i32_w]
                        rfl
                      refine one_ (i := 59) (N := some 130) #[true, true, true, true, true, true, true, true, true, true, true, true, true, true, true, true, true, true, true, true, true, true, true, true, true, true, true, true, true, true, true, true, true, true, true, true, true, true, true, true, true, true, true, true, true, true, true, true, true, true, true, true, true, true, true, true, true, true, true, true, true, false, true, true, false, false, false, false, false, false, false, false, false, false, false, false, false, false, false, false, false] rfl rfl (one_of HT_.out (by kernel_rfl)) (by decide) (fun K hK => ?_)
                      refine goes_ Try.func16 (by kernel_rfl) rfl #[.agg #[.int .i64 (wrap64 ((wrap64 (1 + t143)) + 1)), .int .i64 (wrap64 (4 + (wrap64 (4 * t144)))), .int .i64 (wrap64 (16 + t145))]] (by rfl) rfl rfl (by (try simp only [List.map_toArray, List.map_cons, List.map_nil]); first | done | rfl | (simp only [List.length_drop, List.length_take]; rfl)) ?_
                      with_reducible refine (geom_Inodes.calls (wrap64 ((wrap64 (1 + t143)) + 1)) (wrap64 (4 + (wrap64 (4 * t144)))) (wrap64 (16 + t145)) t163 _ A26.out).mono ?_
                      rintro e w73 ⟨rfl, hb⟩
                      refine ⟨_, rfl, ?_⟩
                      have n0_ := Aside0.mk (blk_below (g := gb146) (o := .cells #[.int .i64 (wrap64 (1 + t143)), .int .i64 (wrap64 (4 + (wrap64 (4 * t144)))), .int .i64 (wrap64 (16 + t145))] 23 (0, 0)) (by (with_reducible repeat (first | refine blk_drewN ?_ _ | refine blk_drew ?_ | refine blk_alloc ?_ _)); exact BK146.out) hb)
                      have n1_ := Aside0.mk (blk_below (g := gb147) (o := .cells #[.int .i64 (wrap64 (1 + t143)), .int .i64 (wrap64 (4 + (wrap64 (4 * t144)))), .int .i64 (wrap64 ((wrap64 (16 + t145)) + 1))] 23 (0, 0)) (by (with_reducible repeat (first | refine blk_drewN ?_ _ | refine blk_drew ?_ | refine blk_alloc ?_ _)); exact BK147.out) hb)
                      have n2_ := Aside0.mk (blk_below (g := gb148) (o := .cells #[.int .i64 (wrap64 (1 + t143)), .int .i64 (wrap64 ((wrap64 (4 + (wrap64 (4 * t144)))) + 4)), .int .i64 (wrap64 (16 + t145))] 23 (0, 0)) (by (with_reducible repeat (first | refine blk_drewN ?_ _ | refine blk_drew ?_ | refine blk_alloc ?_ _)); exact BK148.out) hb)
                      have n3_ := Aside0.mk (blk_below (g := gb149) (o := .cells #[.int .i64 (wrap64 ((wrap64 (1 + t143)) + 1)), .int .i64 (wrap64 (4 + (wrap64 (4 * t144)))), .int .i64 (wrap64 (16 + t145))] 23 (0, 0)) (by (with_reducible repeat (first | refine blk_drewN ?_ _ | refine blk_drew ?_ | refine blk_alloc ?_ _)); exact BK149.out) hb)
                      have n4_ := Aside0.mk (below_step (by repeat (first | (with_reducible first | exact HB.out | apply below_alloc | apply pw_below_drewN | apply below_drew1 | refine below_set ?_ GE146.out | refine below_set ?_ GE147.out | refine below_set ?_ GE148.out | refine below_set ?_ GE149.out) | exact HB.out)) hb)
                      clear BK146
                      clear BK147
                      clear BK148
                      clear BK149
                      clear HB
                      have BK146 := n0_
                      have BK147 := n1_
                      have BK148 := n2_
                      have BK149 := n3_
                      have HB := n4_
                      clear n0_ n1_ n2_ n3_ n4_
                      (try clear hb)
                      (try clear hb2)
                      (try clear hk)
                      (try clear hi)
                      refine hK.out _ _ ⟨(blk_cell BK147.out 0).trans rfl, (blk_cell BK147.out 1).trans rfl, (blk_cell BK147.out 2).trans rfl, (blk_cell BK146.out 0).trans rfl, (blk_cell BK146.out 1).trans rfl, (blk_cell BK146.out 2).trans rfl, (blk_cell BK148.out 0).trans rfl, (blk_cell BK148.out 1).trans rfl, (blk_cell BK148.out 2).trans rfl, (blk_cell BK149.out 0).trans rfl, (blk_cell BK149.out 1).trans rfl, (blk_cell BK149.out 2).trans rfl⟩ (fun hHeld => ?_)
                      clear hK K
                      refine norm_ (a' := ?_) ?_ ?_
                      rotate_left
                      · show Act.put _ (some 130) _ = _
                        simp only [Act.put, List.setIfInBounds_toArray, List.set_cons_zero, List.set_cons_succ, i64_w, i32_w]
                        rfl
                      refine one_ (i := 61) (N := some 132) #[true, true, true, true, true, true, true, true, true, true, true, true, true, true, true, true, true, true, true, true, true, true, true, true, true, true, true, true, true, true, true, true, true, true, true, true, true, true, true, true, true, true, true, true, true, true, true, true, true, true, true, true, true, true, true, true, true, true, true, true, true, true, true, true, false, false, false, false, false, false, false, false, false, false, false, false, false, false, false, false, false] rfl rfl (one_of HT_.out (by kernel_rfl)) (by decide) (fun K hK => ?_)
                      refine goes_ Try.func16 (by kernel_rfl) rfl #[.agg #[.int .i64 (wrap64 (1 + t143)), .int .i64 (wrap64 (4 + (wrap64 (4 * t144)))), .int .i64 (wrap64 (16 + t145))]] (by rfl) rfl rfl (by (try simp only [List.map_toArray, List.map_cons, List.map_nil]); first | done | rfl | (simp only [List.length_drop, List.length_take]; rfl)) ?_
                      with_reducible refine (geom_Inodes.calls (wrap64 (1 + t143)) (wrap64 (4 + (wrap64 (4 * t144)))) (wrap64 (16 + t145)) t164 _ A27.out).mono ?_
                      rintro e w74 ⟨rfl, hb⟩
                      refine ⟨_, rfl, ?_⟩
                      have n0_ := Aside0.mk (blk_below (g := gb146) (o := .cells #[.int .i64 (wrap64 (1 + t143)), .int .i64 (wrap64 (4 + (wrap64 (4 * t144)))), .int .i64 (wrap64 (16 + t145))] 23 (0, 0)) (by (with_reducible repeat (first | refine blk_drewN ?_ _ | refine blk_drew ?_ | refine blk_alloc ?_ _)); exact BK146.out) hb)
                      have n1_ := Aside0.mk (blk_below (g := gb147) (o := .cells #[.int .i64 (wrap64 (1 + t143)), .int .i64 (wrap64 (4 + (wrap64 (4 * t144)))), .int .i64 (wrap64 ((wrap64 (16 + t145)) + 1))] 23 (0, 0)) (by (with_reducible repeat (first | refine blk_drewN ?_ _ | refine blk_drew ?_ | refine blk_alloc ?_ _)); exact BK147.out) hb)
                      have n2_ := Aside0.mk (blk_below (g := gb148) (o := .cells #[.int .i64 (wrap64 (1 + t143)), .int .i64 (wrap64 ((wrap64 (4 + (wrap64 (4 * t144)))) + 4)), .int .i64 (wrap64 (16 + t145))] 23 (0, 0)) (by (with_reducible repeat (first | refine blk_drewN ?_ _ | refine blk_drew ?_ | refine blk_alloc ?_ _)); exact BK148.out) hb)
                      have n3_ := Aside0.mk (blk_below (g := gb149) (o := .cells #[.int .i64 (wrap64 ((wrap64 (1 + t143)) + 1)), .int .i64 (wrap64 (4 + (wrap64 (4 * t144)))), .int .i64 (wrap64 (16 + t145))] 23 (0, 0)) (by (with_reducible repeat (first | refine blk_drewN ?_ _ | refine blk_drew ?_ | refine blk_alloc ?_ _)); exact BK149.out) hb)
                      have n4_ := Aside0.mk (below_step (by repeat (first | (with_reducible first | exact HB.out | apply below_alloc | apply pw_below_drewN | apply below_drew1 | refine below_set ?_ GE146.out | refine below_set ?_ GE147.out | refine below_set ?_ GE148.out | refine below_set ?_ GE149.out) | exact HB.out)) hb)
                      clear BK146
                      clear BK147
                      clear BK148
                      clear BK149
                      clear HB
                      have BK146 := n0_
                      have BK147 := n1_
                      have BK148 := n2_
                      have BK149 := n3_
                      have HB := n4_
                      clear n0_ n1_ n2_ n3_ n4_
                      (try clear hb)
                      (try clear hb2)
                      (try clear hk)
                      (try clear hi)
                      refine hK.out _ _ ⟨(blk_cell BK147.out 0).trans rfl, (blk_cell BK147.out 1).trans rfl, (blk_cell BK147.out 2).trans rfl, (blk_cell BK146.out 0).trans rfl, (blk_cell BK146.out 1).trans rfl, (blk_cell BK146.out 2).trans rfl, (blk_cell BK148.out 0).trans rfl, (blk_cell BK148.out 1).trans rfl, (blk_cell BK148.out 2).trans rfl, (blk_cell BK149.out 0).trans rfl, (blk_cell BK149.out 1).trans rfl, (blk_cell BK149.out 2).trans rfl⟩ (fun hHeld => ?_)
                      clear hK K
                      refine norm_ (a' := ?_) ?_ ?_
                      rotate_left
                      · show Act.put _ (some 132) _ = _
                        simp only [Act.put, List.setIfInBounds_toArray, List.set_cons_zero, List.set_cons_succ, i64_w, i32_w]
                        rfl
                      refine pure_ (i := 64) (N := some 135) (v := ?_) (a' := ?_) #[true, true, true, true, true, true, true, true, true, true, true, true, true, true, true, true, true, true, true, true, true, true, true, true, true, true, true, true, true, true, true, true, true, true, true, true, true, true, true, true, true, true, true, true, true, true, true, true, true, true, true, true, true, true, true, true, true, true, true, true, true, true, true, true, true, false, false, false, false, false, false, false, false, false, false, false, false, false, false, false, false] rfl rfl (any_of HT_.out (by kernel_rfl)) (fun _ _ _ h => h) (Or.inl ⟨by rfl, ?_⟩) ?_ ?_
                      rotate_left
                      · intro w'
                        go_simp
                        with_reducible rfl
                      rotate_left
                      · simp only [Act.put, List.setIfInBounds_toArray, List.set_cons_zero, List.set_cons_succ, i64_w, i32_w]
                        rfl
                      refine pure_ (i := 65) (N := some 136) (v := ?_) (a' := ?_) #[true, true, true, true, true, true, true, true, true, true, true, true, true, true, true, true, true, true, true, true, true, true, true, true, true, true, true, true, true, true, true, true, true, true, true, true, true, true, true, true, true, true, true, true, true, true, true, true, true, true, true, true, true, true, true, true, true, true, true, true, true, true, true, true, true, true, false, false, false, false, false, false, false, false, false, false, false, false, false, false, false] rfl rfl (any_of HT_.out (by kernel_rfl)) (fun _ _ _ h => h) (Or.inl ⟨by rfl, ?_⟩) ?_ ?_
                      rotate_left
                      · intro w'
                        go_simp
                        with_reducible rfl
                      rotate_left
                      · simp only [Act.put, List.setIfInBounds_toArray, List.set_cons_zero, List.set_cons_succ, i64_w, i32_w]
                        rfl
                      refine pure_ (i := 66) (N := some 137) (v := ?_) (a' := ?_) #[true, true, true, true, true, true, true, true, true, true, true, true, true, true, true, true, true, true, true, true, true, true, true, true, true, true, true, true, true, true, true, true, true, true, true, true, true, true, true, true, true, true, true, true, true, true, true, true, true, true, true, true, true, true, true, true, true, true, true, true, true, true, true, true, true, true, true, false, false, false, false, false, false, false, false, false, false, false, false, false, false] rfl rfl (any_of HT_.out (by kernel_rfl)) (fun _ _ _ h => h) (Or.inl ⟨by rfl, ?_⟩) ?_ ?_
                      rotate_left
                      · intro w'
                        go_simp
                        with_reducible rfl
                      rotate_left
                      · simp only [Act.put, List.setIfInBounds_toArray, List.set_cons_zero, List.set_cons_succ, i64_w, i32_w]
                        rfl
                      refine pure_ (i := 67) (N := some 138) (v := ?_) (a' := ?_) #[true, true, true, true, true, true, true, true, true, true, true, true, true, true, true, true, true, true, true, true, true, true, true, true, true, true, true, true, true, true, true, true, true, true, true, true, true, true, true, true, true, true, true, true, true, true, true, true, true, true, true, true, true, true, true, true, true, true, true, true, true, true, true, true, true, true, true, true, false, false, false, false, false, false, false, false, false, false, false, false, false] rfl rfl (any_of HT_.out (by kernel_rfl)) (fun _ _ _ h => h) (Or.inl ⟨by rfl, ?_⟩) ?_ ?_
                      rotate_left
                      · intro w'
                        go_simp
                        with_reducible rfl
                      rotate_left
                      · simp only [Act.put, List.setIfInBounds_toArray, List.set_cons_zero, List.set_cons_succ, i64_w, i32_w]
                        rfl
                      refine pure_ (i := 72) (N := some 143) (v := ?_) (a' := ?_) #[true, true, true, true, true, true, true, true, true, true, true, true, true, true, true, true, true, true, true, true, true, true, true, true, true, true, true, true, true, true, true, true, true, true, true, true, true, true, true, true, true, true, true, true, true, true, true, true, true, true, true, true, true, true, true, true, true, true, true, true, true, true, true, true, true, true, true, true, false, false, false, false, true, false, false, false, false, false, false, false, false] rfl rfl (any_of HT_.out (by kernel_rfl)) (fun _ _ _ h => h) (Or.inl ⟨by rfl, ?_⟩) ?_ ?_
                      rotate_left
                      · intro w'
                        go_simp
                        with_reducible rfl
                      rotate_left
                      · simp only [Act.put, List.setIfInBounds_toArray, List.set_cons_zero, List.set_cons_succ, i64_w, i32_w]
                        rfl
                      refine take_ (i := 68) (N := some 139) (v := ?_) (a' := ?_) #[true, true, true, true, true, true, true, true, true, true, true, true, true, true, true, true, true, true, true, true, true, true, true, true, true, true, true, true, true, true, true, true, true, true, true, true, true, true, true, true, true, true, true, true, true, true, true, true, true, true, true, true, true, true, true, true, true, true, true, true, true, true, true, true, true, true, true, true, true, false, false, false, true, false, false, false, false, false, false, false, false] rfl rfl (take_ofW HT_.out HW_.out (by kernel_rfl)) (fun _ _ _ h => h) (Or.inl ⟨by rfl, ?_⟩) hHeld ?_ ?_
                      rotate_left
                      · rintro w' ⟨s0, s1, s2, s3, s4, s5, s6, s7, s8, s9, s10, s11⟩
                        go_simp
                        with_reducible rfl
                      rotate_left
                      · simp only [Act.put, List.setIfInBounds_toArray, List.set_cons_zero, List.set_cons_succ, i64_w, i32_w]
                        rfl
                      refine take_ (i := 70) (N := some 141) (v := ?_) (a' := ?_) #[true, true, true, true, true, true, true, true, true, true, true, true, true, true, true, true, true, true, true, true, true, true, true, true, true, true, true, true, true, true, true, true, true, true, true, true, true, true, true, true, true, true, true, true, true, true, true, true, true, true, true, true, true, true, true, true, true, true, true, true, true, true, true, true, true, true, true, true, true, false, true, false, true, false, false, false, false, false, false, false, false] rfl rfl (take_ofW HT_.out HW_.out (by kernel_rfl)) (fun _ _ _ h => h) (Or.inl ⟨by rfl, ?_⟩) hHeld ?_ ?_
                      rotate_left
                      · rintro w' ⟨s0, s1, s2, s3, s4, s5, s6, s7, s8, s9, s10, s11⟩
                        go_simp
                        with_reducible rfl
                      rotate_left
                      · simp only [Act.put, List.setIfInBounds_toArray, List.set_cons_zero, List.set_cons_succ, i64_w, i32_w]
                        rfl
                      refine take_ (i := 73) (N := some 144) (v := ?_) (a' := ?_) #[true, true, true, true, true, true, true, true, true, true, true, true, true, true, true, true, true, true, true, true, true, true, true, true, true, true, true, true, true, true, true, true, true, true, true, true, true, true, true, true, true, true, true, true, true, true, true, true, true, true, true, true, true, true, true, true, true, true, true, true, true, true, true, true, true, true, true, true, true, false, true, false, true, true, false, false, false, false, false, false, false] rfl rfl (take_ofW HT_.out HW_.out (by kernel_rfl)) (fun _ _ _ h => h) (Or.inl ⟨by rfl, ?_⟩) hHeld ?_ ?_
                      rotate_left
                      · rintro w' ⟨s0, s1, s2, s3, s4, s5, s6, s7, s8, s9, s10, s11⟩
                        go_simp
                        with_reducible rfl
                      rotate_left
                      · simp only [Act.put, List.setIfInBounds_toArray, List.set_cons_zero, List.set_cons_succ, i64_w, i32_w]
                        rfl
                      refine one_ (i := 69) (N := some 140) #[true, true, true, true, true, true, true, true, true, true, true, true, true, true, true, true, true, true, true, true, true, true, true, true, true, true, true, true, true, true, true, true, true, true, true, true, true, true, true, true, true, true, true, true, true, true, true, true, true, true, true, true, true, true, true, true, true, true, true, true, true, true, true, true, true, true, true, true, true, true, true, false, true, true, false, false, false, false, false, false, false] rfl rfl (one_of HT_.out (by kernel_rfl)) (by decide) (fun K hK => ?_)
                      refine goes_ Try.func18 (by kernel_rfl) rfl #[.agg #[.int .i64 (wrap64 (1 + t143)), .int .i64 (wrap64 (4 + (wrap64 (4 * t144)))), .int .i64 (wrap64 ((wrap64 (16 + t145)) + 1))]] (by rfl) rfl rfl (by (try simp only [List.map_toArray, List.map_cons, List.map_nil]); first | done | rfl | (simp only [List.length_drop, List.length_take]; rfl)) ?_
                      with_reducible refine (geom_Blocks.calls (wrap64 (1 + t143)) (wrap64 (4 + (wrap64 (4 * t144)))) (wrap64 ((wrap64 (16 + t145)) + 1)) t165 _ A29.out).mono ?_
                      rintro e w75 ⟨rfl, hb⟩
                      refine ⟨_, rfl, ?_⟩
                      have n0_ := Aside0.mk (blk_below (g := gb146) (o := .cells #[.int .i64 (wrap64 (1 + t143)), .int .i64 (wrap64 (4 + (wrap64 (4 * t144)))), .int .i64 (wrap64 (16 + t145))] 23 (0, 0)) (by (with_reducible repeat (first | refine blk_drewN ?_ _ | refine blk_drew ?_ | refine blk_alloc ?_ _)); exact BK146.out) hb)
                      have n1_ := Aside0.mk (blk_below (g := gb147) (o := .cells #[.int .i64 (wrap64 (1 + t143)), .int .i64 (wrap64 (4 + (wrap64 (4 * t144)))), .int .i64 (wrap64 ((wrap64 (16 + t145)) + 1))] 23 (0, 0)) (by (with_reducible repeat (first | refine blk_drewN ?_ _ | refine blk_drew ?_ | refine blk_alloc ?_ _)); exact BK147.out) hb)
                      have n2_ := Aside0.mk (blk_below (g := gb148) (o := .cells #[.int .i64 (wrap64 (1 + t143)), .int .i64 (wrap64 ((wrap64 (4 + (wrap64 (4 * t144)))) + 4)), .int .i64 (wrap64 (16 + t145))] 23 (0, 0)) (by (with_reducible repeat (first | refine blk_drewN ?_ _ | refine blk_drew ?_ | refine blk_alloc ?_ _)); exact BK148.out) hb)
                      have n3_ := Aside0.mk (blk_below (g := gb149) (o := .cells #[.int .i64 (wrap64 ((wrap64 (1 + t143)) + 1)), .int .i64 (wrap64 (4 + (wrap64 (4 * t144)))), .int .i64 (wrap64 (16 + t145))] 23 (0, 0)) (by (with_reducible repeat (first | refine blk_drewN ?_ _ | refine blk_drew ?_ | refine blk_alloc ?_ _)); exact BK149.out) hb)
                      have n4_ := Aside0.mk (below_step (by repeat (first | (with_reducible first | exact HB.out | apply below_alloc | apply pw_below_drewN | apply below_drew1 | refine below_set ?_ GE146.out | refine below_set ?_ GE147.out | refine below_set ?_ GE148.out | refine below_set ?_ GE149.out) | exact HB.out)) hb)
                      clear BK146
                      clear BK147
                      clear BK148
                      clear BK149
                      clear HB
                      have BK146 := n0_
                      have BK147 := n1_
                      have BK148 := n2_
                      have BK149 := n3_
                      have HB := n4_
                      clear n0_ n1_ n2_ n3_ n4_
                      (try clear hb)
                      (try clear hb2)
                      (try clear hk)
                      (try clear hi)
                      refine hK.out _ _ ⟨(blk_cell BK147.out 0).trans rfl, (blk_cell BK147.out 1).trans rfl, (blk_cell BK147.out 2).trans rfl, (blk_cell BK146.out 0).trans rfl, (blk_cell BK146.out 1).trans rfl, (blk_cell BK146.out 2).trans rfl, (blk_cell BK148.out 0).trans rfl, (blk_cell BK148.out 1).trans rfl, (blk_cell BK148.out 2).trans rfl, (blk_cell BK149.out 0).trans rfl, (blk_cell BK149.out 1).trans rfl, (blk_cell BK149.out 2).trans rfl⟩ (fun hHeld => ?_)
                      clear hK K
                      refine norm_ (a' := ?_) ?_ ?_
                      rotate_left
                      · show Act.put _ (some 140) _ = _
                        simp only [Act.put, List.setIfInBounds_toArray, List.set_cons_zero, List.set_cons_succ, i64_w, i32_w]
                        rfl
                      refine one_ (i := 71) (N := some 142) #[true, true, true, true, true, true, true, true, true, true, true, true, true, true, true, true, true, true, true, true, true, true, true, true, true, true, true, true, true, true, true, true, true, true, true, true, true, true, true, true, true, true, true, true, true, true, true, true, true, true, true, true, true, true, true, true, true, true, true, true, true, true, true, true, true, true, true, true, true, true, true, true, true, true, false, false, false, false, false, false, false] rfl rfl (one_of HT_.out (by kernel_rfl)) (by decide) (fun K hK => ?_)
                      refine goes_ Try.func18 (by kernel_rfl) rfl #[.agg #[.int .i64 (wrap64 (1 + t143)), .int .i64 (wrap64 (4 + (wrap64 (4 * t144)))), .int .i64 (wrap64 (16 + t145))]] (by rfl) rfl rfl (by (try simp only [List.map_toArray, List.map_cons, List.map_nil]); first | done | rfl | (simp only [List.length_drop, List.length_take]; rfl)) ?_
                      with_reducible refine (geom_Blocks.calls (wrap64 (1 + t143)) (wrap64 (4 + (wrap64 (4 * t144)))) (wrap64 (16 + t145)) t166 _ A30.out).mono ?_
                      rintro e w76 ⟨rfl, hb⟩
                      refine ⟨_, rfl, ?_⟩
                      have n0_ := Aside0.mk (blk_below (g := gb146) (o := .cells #[.int .i64 (wrap64 (1 + t143)), .int .i64 (wrap64 (4 + (wrap64 (4 * t144)))), .int .i64 (wrap64 (16 + t145))] 23 (0, 0)) (by (with_reducible repeat (first | refine blk_drewN ?_ _ | refine blk_drew ?_ | refine blk_alloc ?_ _)); exact BK146.out) hb)
                      have n1_ := Aside0.mk (blk_below (g := gb147) (o := .cells #[.int .i64 (wrap64 (1 + t143)), .int .i64 (wrap64 (4 + (wrap64 (4 * t144)))), .int .i64 (wrap64 ((wrap64 (16 + t145)) + 1))] 23 (0, 0)) (by (with_reducible repeat (first | refine blk_drewN ?_ _ | refine blk_drew ?_ | refine blk_alloc ?_ _)); exact BK147.out) hb)
                      have n2_ := Aside0.mk (blk_below (g := gb148) (o := .cells #[.int .i64 (wrap64 (1 + t143)), .int .i64 (wrap64 ((wrap64 (4 + (wrap64 (4 * t144)))) + 4)), .int .i64 (wrap64 (16 + t145))] 23 (0, 0)) (by (with_reducible repeat (first | refine blk_drewN ?_ _ | refine blk_drew ?_ | refine blk_alloc ?_ _)); exact BK148.out) hb)
                      have n3_ := Aside0.mk (blk_below (g := gb149) (o := .cells #[.int .i64 (wrap64 ((wrap64 (1 + t143)) + 1)), .int .i64 (wrap64 (4 + (wrap64 (4 * t144)))), .int .i64 (wrap64 (16 + t145))] 23 (0, 0)) (by (with_reducible repeat (first | refine blk_drewN ?_ _ | refine blk_drew ?_ | refine blk_alloc ?_ _)); exact BK149.out) hb)
                      have n4_ := Aside0.mk (below_step (by repeat (first | (with_reducible first | exact HB.out | apply below_alloc | apply pw_below_drewN | apply below_drew1 | refine below_set ?_ GE146.out | refine below_set ?_ GE147.out | refine below_set ?_ GE148.out | refine below_set ?_ GE149.out) | exact HB.out)) hb)
                      clear BK146
                      clear BK147
                      clear BK148
                      clear BK149
                      clear HB
                      have BK146 := n0_
                      have BK147 := n1_
                      have BK148 := n2_
                      have BK149 := n3_
                      have HB := n4_
                      clear n0_ n1_ n2_ n3_ n4_
                      (try clear hb)
                      (try clear hb2)
                      (try clear hk)
                      (try clear hi)
                      refine hK.out _ _ ⟨(blk_cell BK147.out 0).trans rfl, (blk_cell BK147.out 1).trans rfl, (blk_cell BK147.out 2).trans rfl, (blk_cell BK146.out 0).trans rfl, (blk_cell BK146.out 1).trans rfl, (blk_cell BK146.out 2).trans rfl, (blk_cell BK148.out 0).trans rfl, (blk_cell BK148.out 1).trans rfl, (blk_cell BK148.out 2).trans rfl, (blk_cell BK149.out 0).trans rfl, (blk_cell BK149.out 1).trans rfl, (blk_cell BK149.out 2).trans rfl⟩ (fun hHeld => ?_)
                      clear hK K
                      refine norm_ (a' := ?_) ?_ ?_
                      rotate_left
                      · show Act.put _ (some 142) _ = _
                        simp only [Act.put, List.setIfInBounds_toArray, List.set_cons_zero, List.set_cons_succ, i64_w, i32_w]
                        rfl
                      refine pure_ (i := 74) (N := some 145) (v := ?_) (a' := ?_) #[true, true, true, true, true, true, true, true, true, true, true, true, true, true, true, true, true, true, true, true, true, true, true, true, true, true, true, true, true, true, true, true, true, true, true, true, true, true, true, true, true, true, true, true, true, true, true, true, true, true, true, true, true, true, true, true, true, true, true, true, true, true, true, true, true, true, true, true, true, true, true, true, true, true, true, false, false, false, false, false, false] rfl rfl (any_of HT_.out (by kernel_rfl)) (fun _ _ _ h => h) (Or.inl ⟨by rfl, ?_⟩) ?_ ?_
                      rotate_left
                      · intro w'
                        go_simp
                        with_reducible rfl
                      rotate_left
                      · simp only [Act.put, List.setIfInBounds_toArray, List.set_cons_zero, List.set_cons_succ, i64_w, i32_w]
                        rfl
                      refine pure_ (i := 75) (N := some 146) (v := ?_) (a' := ?_) #[true, true, true, true, true, true, true, true, true, true, true, true, true, true, true, true, true, true, true, true, true, true, true, true, true, true, true, true, true, true, true, true, true, true, true, true, true, true, true, true, true, true, true, true, true, true, true, true, true, true, true, true, true, true, true, true, true, true, true, true, true, true, true, true, true, true, true, true, true, true, true, true, true, true, true, true, false, false, false, false, false] rfl rfl (any_of HT_.out (by kernel_rfl)) (fun _ _ _ h => h) (Or.inl ⟨by rfl, ?_⟩) ?_ ?_
                      rotate_left
                      · intro w'
                        go_simp
                        with_reducible rfl
                      rotate_left
                      · simp only [Act.put, List.setIfInBounds_toArray, List.set_cons_zero, List.set_cons_succ, i64_w, i32_w]
                        rfl
                      refine pure_ (i := 76) (N := some 147) (v := ?_) (a' := ?_) #[true, true, true, true, true, true, true, true, true, true, true, true, true, true, true, true, true, true, true, true, true, true, true, true, true, true, true, true, true, true, true, true, true, true, true, true, true, true, true, true, true, true, true, true, true, true, true, true, true, true, true, true, true, true, true, true, true, true, true, true, true, true, true, true, true, true, true, true, true, true, true, true, true, true, true, true, true, false, false, false, false] rfl rfl (any_of HT_.out (by kernel_rfl)) (fun _ _ _ h => h) (Or.inl ⟨by rfl, ?_⟩) ?_ ?_
                      rotate_left
                      · intro w'
                        go_simp
                        with_reducible rfl
                      rotate_left
                      · simp only [Act.put, List.setIfInBounds_toArray, List.set_cons_zero, List.set_cons_succ, i64_w, i32_w]
                        rfl
                      refine pure_ (i := 77) (N := some 148) (v := ?_) (a' := ?_) #[true, true, true, true, true, true, true, true, true, true, true, true, true, true, true, true, true, true, true, true, true, true, true, true, true, true, true, true, true, true, true, true, true, true, true, true, true, true, true, true, true, true, true, true, true, true, true, true, true, true, true, true, true, true, true, true, true, true, true, true, true, true, true, true, true, true, true, true, true, true, true, true, true, true, true, true, true, true, false, false, false] rfl rfl (any_of HT_.out (by kernel_rfl)) (fun _ _ _ h => h) (Or.inl ⟨by rfl, ?_⟩) ?_ ?_
                      rotate_left
                      · intro w'
                        go_simp
                        with_reducible rfl
                      rotate_left
                      · simp only [Act.put, List.setIfInBounds_toArray, List.set_cons_zero, List.set_cons_succ, i64_w, i32_w]
                        rfl
                      refine one_ (i := 78) (N := some 149) #[true, true, true, true, true, true, true, true, true, true, true, true, true, true, true, true, true, true, true, true, true, true, true, true, true, true, true, true, true, true, true, true, true, true, true, true, true, true, true, true, true, true, true, true, true, true, true, true, true, true, true, true, true, true, true, true, true, true, true, true, true, true, true, true, true, true, true, true, true, true, true, true, true, true, true, true, true, true, true, false, false] rfl rfl (one_of HT_.out (by kernel_rfl)) (by decide) (fun K hK => ?_)
                      refine goes_ Try.func24 (by kernel_rfl) rfl #[] (by rfl) rfl rfl (by (try simp only [List.map_toArray, List.map_cons, List.map_nil]); first | done | rfl | (simp only [List.length_drop, List.length_take]; rfl)) ?_
                      with_reducible refine (purlinlaw5_awake.calls  t167 _ A32.out).mono ?_
                      rintro e w77 ⟨rfl, hb⟩
                      refine ⟨_, rfl, ?_⟩
                      have n0_ := Aside0.mk (blk_below (g := gb146) (o := .cells #[.int .i64 (wrap64 (1 + t143)), .int .i64 (wrap64 (4 + (wrap64 (4 * t144)))), .int .i64 (wrap64 (16 + t145))] 23 (0, 0)) (by (with_reducible repeat (first | refine blk_drewN ?_ _ | refine blk_drew ?_ | refine blk_alloc ?_ _)); exact BK146.out) hb)
                      have n1_ := Aside0.mk (blk_below (g := gb147) (o := .cells #[.int .i64 (wrap64 (1 + t143)), .int .i64 (wrap64 (4 + (wrap64 (4 * t144)))), .int .i64 (wrap64 ((wrap64 (16 + t145)) + 1))] 23 (0, 0)) (by (with_reducible repeat (first | refine blk_drewN ?_ _ | refine blk_drew ?_ | refine blk_alloc ?_ _)); exact BK147.out) hb)
                      have n2_ := Aside0.mk (blk_below (g := gb148) (o := .cells #[.int .i64 (wrap64 (1 + t143)), .int .i64 (wrap64 ((wrap64 (4 + (wrap64 (4 * t144)))) + 4)), .int .i64 (wrap64 (16 + t145))] 23 (0, 0)) (by (with_reducible repeat (first | refine blk_drewN ?_ _ | refine blk_drew ?_ | refine blk_alloc ?_ _)); exact BK148.out) hb)
                      have n3_ := Aside0.mk (blk_below (g := gb149) (o := .cells #[.int .i64 (wrap64 ((wrap64 (1 + t143)) + 1)), .int .i64 (wrap64 (4 + (wrap64 (4 * t144)))), .int .i64 (wrap64 (16 + t145))] 23 (0, 0)) (by (with_reducible repeat (first | refine blk_drewN ?_ _ | refine blk_drew ?_ | refine blk_alloc ?_ _)); exact BK149.out) hb)
                      have n4_ := Aside0.mk (below_step (by repeat (first | (with_reducible first | exact HB.out | apply below_alloc | apply pw_below_drewN | apply below_drew1 | refine below_set ?_ GE146.out | refine below_set ?_ GE147.out | refine below_set ?_ GE148.out | refine below_set ?_ GE149.out) | exact HB.out)) hb)
                      clear BK146
                      clear BK147
                      clear BK148
                      clear BK149
                      clear HB
                      have BK146 := n0_
                      have BK147 := n1_
                      have BK148 := n2_
                      have BK149 := n3_
                      have HB := n4_
                      clear n0_ n1_ n2_ n3_ n4_
                      (try clear hb)
                      (try clear hb2)
                      (try clear hk)
                      (try clear hi)
                      refine hK.out _ _ ⟨(blk_cell BK147.out 0).trans rfl, (blk_cell BK147.out 1).trans rfl, (blk_cell BK147.out 2).trans rfl, (blk_cell BK146.out 0).trans rfl, (blk_cell BK146.out 1).trans rfl, (blk_cell BK146.out 2).trans rfl, (blk_cell BK148.out 0).trans rfl, (blk_cell BK148.out 1).trans rfl, (blk_cell BK148.out 2).trans rfl, (blk_cell BK149.out 0).trans rfl, (blk_cell BK149.out 1).trans rfl, (blk_cell BK149.out 2).trans rfl⟩ (fun hHeld => ?_)
                      clear hK K
                      refine norm_ (a' := ?_) ?_ ?_
                      rotate_left
                      · show Act.put _ (some 149) _ = _
                        simp only [Act.put, List.setIfInBounds_toArray, List.set_cons_zero, List.set_cons_succ, i64_w, i32_w]
                        rfl
                      refine pure_ (i := 79) (N := some 150) (v := ?_) (a' := ?_) #[true, true, true, true, true, true, true, true, true, true, true, true, true, true, true, true, true, true, true, true, true, true, true, true, true, true, true, true, true, true, true, true, true, true, true, true, true, true, true, true, true, true, true, true, true, true, true, true, true, true, true, true, true, true, true, true, true, true, true, true, true, true, true, true, true, true, true, true, true, true, true, true, true, true, true, true, true, true, true, true, false] rfl rfl (any_of HT_.out (by kernel_rfl)) (fun _ _ _ h => h) (Or.inl ⟨by rfl, ?_⟩) ?_ ?_
                      rotate_left
                      · intro w'
                        go_simp
                        with_reducible rfl
                      rotate_left
                      · simp only [Act.put, List.setIfInBounds_toArray, List.set_cons_zero, List.set_cons_succ, i64_w, i32_w]
                        rfl
                      refine pure_ (i := 80) (N := some 8) (v := ?_) (a' := ?_) #[true, true, true, true, true, true, true, true, true, true, true, true, true, true, true, true, true, true, true, true, true, true, true, true, true, true, true, true, true, true, true, true, true, true, true, true, true, true, true, true, true, true, true, true, true, true, true, true, true, true, true, true, true, true, true, true, true, true, true, true, true, true, true, true, true, true, true, true, true, true, true, true, true, true, true, true, true, true, true, true, true] rfl rfl (any_of HT_.out (by kernel_rfl)) (fun _ _ _ h => h) (Or.inl ⟨by rfl, ?_⟩) ?_ ?_
                      rotate_left
                      · intro w'
                        go_simp
                        with_reducible rfl
                      rotate_left
                      · simp only [Act.put, List.setIfInBounds_toArray, List.set_cons_zero, List.set_cons_succ, i64_w, i32_w]
                        rfl
                      refine done_ (done_of HT_.out (by kernel_rfl)) ?_
                      try go_wp2
                      go_ret
                      exact ⟨by first | rfl | (simp [errW_none, errW_some] <;> rfl) | (simp [*, errW_none, errW_some] <;> rfl), by repeat (first | (with_reducible first | exact HB.out | apply below_alloc | apply pw_below_drewN | apply below_drew1 | refine below_set ?_ GE146.out | refine below_set ?_ GE147.out | refine below_set ?_ GE148.out | refine below_set ?_ GE149.out) | exact HB.out)⟩
                    · rw [if_neg c31] at H
                      have c31b0 : (t165 == (wrap64 (t166 + (wrap64 (1 + t143))))) = false := beq_eq_false_iff_ne.mpr c31
                      have c31b1 : (t165 != (wrap64 (t166 + (wrap64 (1 + t143))))) = true := bne_iff_ne.mpr c31
                      exact absurd ((Option.some.inj H).trans hrT.out) (by simp)
                  · rw [if_neg c28] at H
                    have c28b0 : (t163 == (wrap64 (t164 + (wrap64 (4 + (wrap64 (4 * t144))))))) = false := beq_eq_false_iff_ne.mpr c28
                    have c28b1 : (t163 != (wrap64 (t164 + (wrap64 (4 + (wrap64 (4 * t144))))))) = true := bne_iff_ne.mpr c28
                    exact absurd ((Option.some.inj H).trans hrT.out) (by simp)
                · rw [if_neg c25] at H
                  have c25b0 : (t152 == t156) = false := beq_eq_false_iff_ne.mpr c25
                  have c25b1 : (t152 != t156) = true := bne_iff_ne.mpr c25
                  exact absurd ((Option.some.inj H).trans hrT.out) (by simp)
              · rw [if_neg c24] at H
                have c24b0 : (t151 == t155) = false := beq_eq_false_iff_ne.mpr c24
                have c24b1 : (t151 != t155) = true := bne_iff_ne.mpr c24
                exact absurd ((Option.some.inj H).trans hrT.out) (by simp)
            · rw [if_neg c23] at H
              have c23b0 : (t152 == t154) = false := beq_eq_false_iff_ne.mpr c23
              have c23b1 : (t152 != t154) = true := bne_iff_ne.mpr c23
              exact absurd ((Option.some.inj H).trans hrT.out) (by simp)
          · rw [if_neg c22] at H
            have c22b0 : (t151 == t153) = false := beq_eq_false_iff_ne.mpr c22
            have c22b1 : (t151 != t153) = true := bne_iff_ne.mpr c22
            exact absurd ((Option.some.inj H).trans hrT.out) (by simp)
        · rw [if_neg c21] at H
          have c21b0 : (t162 == t157) = false := beq_eq_false_iff_ne.mpr c21
          have c21b1 : (t162 != t157) = true := bne_iff_ne.mpr c21
          exact absurd ((Option.some.inj H).trans hrT.out) (by simp)
      · rw [if_neg c19] at H
        have c19b0 : ((wrap64 (t160 - t157)) == (wrap64 ((wrap64 (t161 - 2)) + (wrap64 (16 + t145))))) = false := beq_eq_false_iff_ne.mpr c19
        have c19b1 : ((wrap64 (t160 - t157)) != (wrap64 ((wrap64 (t161 - 2)) + (wrap64 (16 + t145))))) = true := bne_iff_ne.mpr c19
        exact absurd ((Option.some.inj H).trans hrT.out) (by simp)
    · rw [if_neg c16] at H
      have c16b0 : (t159 == (wrap64 (t157 + (wrap64 (1 + t143))))) = false := beq_eq_false_iff_ne.mpr c16
      have c16b1 : (t159 != (wrap64 (t157 + (wrap64 (1 + t143))))) = true := bne_iff_ne.mpr c16
      exact absurd ((Option.some.inj H).trans hrT.out) (by simp)
  · rw [if_neg c14] at H
    have c14b0 : (t158 == (wrap64 (t157 + (wrap64 (1 + t143))))) = false := beq_eq_false_iff_ne.mpr c14
    have c14b1 : (t158 != (wrap64 (t157 + (wrap64 (1 + t143))))) = true := bne_iff_ne.mpr c14
    exact absurd ((Option.some.inj H).trans hrT.out) (by simp)

theorem purlinlaw5_GeomGrows.walk (P : purlinlaw5_GeomGrows.Pure) (a0 : Int) (a1 : Int) (a2 : Int) (a3 : Int) (w : World) (w0 : (Lit.int .i64 a0).wf = true) (w1 : (Lit.int .i64 a1).wf = true) (w2 : (Lit.int .i64 a2).wf = true) (w3 : (Lit.int .i64 a3).wf = true) :
    Calls Try.prog 5 #[.int .i64 a0, .int .i64 a1, .int .i64 a2, .int .i64 a3] w fun e w' => e = .returned (.bool true) ∧ Below w.heap.size w w' := by
  have h := P a0 a1 a2 a3 w0 w1 w2 w3
  refine (purlinlaw5_GeomGrows.calls a0 a1 a2 a3 true w (Aside0.mk rfl) h).mono ?_
  rintro e w' ⟨rfl, hd⟩
  exact ⟨rfl, hd⟩


end Go.Proofs.Ytokmnimiidmpmaa.PGeomGrows
