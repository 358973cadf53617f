-- made by the kit's print, one law, no byte bound
import Derived.Test.YtblejdnjemcpcaaDoorPPathTellsx0
import Derived.Test.YtblejdnjemcpcaaDoorPPathTellsx1
import Derived.Test.YtblejdnjemcpcaaDoorPPathTellsx2
import Derived.Test.YtblejdnjemcpcaaDoorPPathTellsx3
namespace Go.Proofs.YtblejdnjemcpcaaDoor.PPathTells
open Go.RowKit Go.Proofs.YtblejdnjemcpcaaDoorW.PrintWords Go.Proofs.YtblejdnjemcpcaaDoorW.PrintLast Go.Proofs.YtblejdnjemcpcaaDoorW.PrintMore Go.Proofs.YtblejdnjemcpcaaDoor.Hand
attribute [local go_sem] max2_int min2_int max_two min_two max_three min_three max_four min_four   -- for this text's walks alone
set_option linter.unusedVariables false
set_option linter.unusedSimpArgs false

/-! ### purlinlaw12_PathTells: function 3 -/
def purlinlaw12_PathTells.f (k : Nat) (a0 : ByteArray) : Option (Bool) := if (a0.size : Int) > 400 then ((purlinlaw12_awake.f k).bind fun t195 => (some t195)) else ((path_Split.f a0).bind fun bt196 => ((purlinref12_Split.f k a0).bind fun bt200 => ((path_Clean.f a0).bind fun bt204 => ((purlinref12_Clean.f k a0).bind fun bt206 => ((path_Last.f a0).bind fun bt208 => ((purlinref12_Last.f k a0).bind fun bt211 => ((path_Target.f k a0).bind fun bt214 => ((purlinref12_Target.f k a0).bind fun bt219 => ((purlinlaw0_SameTexts.f k bt196.1 bt200.1).bind fun t224 => (if t224 = true then (if bt196.2 = bt200.2 then (if bt204.1.toList = bt206.1.toList then (if bt204.2 = bt206.2 then (if bt208.1.toList = bt211.1.toList then (if bt208.2.1.toList = bt211.2.1.toList then (if bt208.2.2 = bt211.2.2 then ((purlinlaw0_SameTexts.f k bt214.1 bt219.1).bind fun t225 => (if t225 = true then (if (bt214.2.1 == bt219.2.1) = true then ((purlinlaw0_OverTexts.f k bt196.1).bind fun _ => ((purlinlaw0_OverTexts.f k bt214.1).bind fun _ => (if bt214.2.2 = bt219.2.2 then ((purlinlaw12_awake.f k).bind fun t226 => (some t226)) else (some false)))) else ((purlinlaw0_OverTexts.f k bt196.1).bind fun _ => ((purlinlaw0_OverTexts.f k bt214.1).bind fun _ => (some false)))) else ((purlinlaw0_OverTexts.f k bt196.1).bind fun _ => ((purlinlaw0_OverTexts.f k bt214.1).bind fun _ => (some false))))) else ((purlinlaw0_OverTexts.f k bt196.1).bind fun _ => ((purlinlaw0_OverTexts.f k bt214.1).bind fun _ => (some false)))) else ((purlinlaw0_OverTexts.f k bt196.1).bind fun _ => ((purlinlaw0_OverTexts.f k bt214.1).bind fun _ => (some false)))) else ((purlinlaw0_OverTexts.f k bt196.1).bind fun _ => ((purlinlaw0_OverTexts.f k bt214.1).bind fun _ => (some false)))) else ((purlinlaw0_OverTexts.f k bt196.1).bind fun _ => ((purlinlaw0_OverTexts.f k bt214.1).bind fun _ => (some false)))) else ((purlinlaw0_OverTexts.f k bt196.1).bind fun _ => ((purlinlaw0_OverTexts.f k bt214.1).bind fun _ => (some false)))) else ((purlinlaw0_OverTexts.f k bt196.1).bind fun _ => ((purlinlaw0_OverTexts.f k bt214.1).bind fun _ => (some false)))) else ((purlinlaw0_OverTexts.f k bt196.1).bind fun _ => ((purlinlaw0_OverTexts.f k bt214.1).bind fun _ => (some false)))))))))))))
theorem purlinlaw12_PathTells.mono : ∀ a0 k, LeO (purlinlaw12_PathTells.f k a0) (purlinlaw12_PathTells.f (k + 1) a0) := by
  intro a0 k
  unfold purlinlaw12_PathTells.f
  repeat' first
      | (with_reducible exact path_Target.mono _ _)
      | (with_reducible exact purlinlaw0_OverTexts.mono _ _)
      | (with_reducible exact purlinlaw0_SameTexts.mono _ _ _)
      | (with_reducible exact purlinlaw12_awake.mono _)
      | (with_reducible exact purlinref12_Clean.mono _ _)
      | (with_reducible exact purlinref12_Last.mono _ _)
      | (with_reducible exact purlinref12_Split.mono _ _)
      | (with_reducible exact purlinref12_Target.mono _ _)
      | (with_reducible exact LeO.refl _)
      | (with_reducible exact LeO.none _)
      | (with_reducible refine LeO.ite ?_ ?_)
      | (with_reducible refine LeO.bind ?_ (fun _ => ?_))
      | exact path_Target.mono _ _
      | exact purlinlaw0_OverTexts.mono _ _
      | exact purlinlaw0_SameTexts.mono _ _ _
      | exact purlinlaw12_awake.mono _
      | exact purlinref12_Clean.mono _ _
      | exact purlinref12_Last.mono _ _
      | exact purlinref12_Split.mono _ _
      | exact purlinref12_Target.mono _ _
      | exact LeO.none _
      | refine LeO.ite ?_ ?_
      | refine LeO.bind ?_ (fun _ => ?_)
set_option maxHeartbeats 8000000 in
set_option maxRecDepth 100000 in
theorem purlinlaw12_PathTells.calls (k : Nat) (a0 : ByteArray) (r : Bool) (w : World) (hG : G w) (hrT : Aside0 (r = true)) (h : purlinlaw12_PathTells.f k a0 = some r) :
    Calls Tryd.prog 3 #[.string a0] w fun e w' => e = .returned (.bool r) ∧ Below w.heap.size w w' := by
  have HB := Aside0.mk (Below.refl w.heap.size w)
  have H : (if (a0.size : Int) > 400 then ((purlinlaw12_awake.f k).bind fun t195 => (some t195)) else ((path_Split.f a0).bind fun bt196 => ((purlinref12_Split.f k a0).bind fun bt200 => ((path_Clean.f a0).bind fun bt204 => ((purlinref12_Clean.f k a0).bind fun bt206 => ((path_Last.f a0).bind fun bt208 => ((purlinref12_Last.f k a0).bind fun bt211 => ((path_Target.f k a0).bind fun bt214 => ((purlinref12_Target.f k a0).bind fun bt219 => ((purlinlaw0_SameTexts.f k bt196.1 bt200.1).bind fun t224 => (if t224 = true then (if bt196.2 = bt200.2 then (if bt204.1.toList = bt206.1.toList then (if bt204.2 = bt206.2 then (if bt208.1.toList = bt211.1.toList then (if bt208.2.1.toList = bt211.2.1.toList then (if bt208.2.2 = bt211.2.2 then ((purlinlaw0_SameTexts.f k bt214.1 bt219.1).bind fun t225 => (if t225 = true then (if (bt214.2.1 == bt219.2.1) = true then ((purlinlaw0_OverTexts.f k bt196.1).bind fun _ => ((purlinlaw0_OverTexts.f k bt214.1).bind fun _ => (if bt214.2.2 = bt219.2.2 then ((purlinlaw12_awake.f k).bind fun t226 => (some t226)) else (some false)))) else ((purlinlaw0_OverTexts.f k bt196.1).bind fun _ => ((purlinlaw0_OverTexts.f k bt214.1).bind fun _ => (some false)))) else ((purlinlaw0_OverTexts.f k bt196.1).bind fun _ => ((purlinlaw0_OverTexts.f k bt214.1).bind fun _ => (some false))))) else ((purlinlaw0_OverTexts.f k bt196.1).bind fun _ => ((purlinlaw0_OverTexts.f k bt214.1).bind fun _ => (some false)))) else ((purlinlaw0_OverTexts.f k bt196.1).bind fun _ => ((purlinlaw0_OverTexts.f k bt214.1).bind fun _ => (some false)))) else ((purlinlaw0_OverTexts.f k bt196.1).bind fun _ => ((purlinlaw0_OverTexts.f k bt214.1).bind fun _ => (some false)))) else ((purlinlaw0_OverTexts.f k bt196.1).bind fun _ => ((purlinlaw0_OverTexts.f k bt214.1).bind fun _ => (some false)))) else ((purlinlaw0_OverTexts.f k bt196.1).bind fun _ => ((purlinlaw0_OverTexts.f k bt214.1).bind fun _ => (some false)))) else ((purlinlaw0_OverTexts.f k bt196.1).bind fun _ => ((purlinlaw0_OverTexts.f k bt214.1).bind fun _ => (some false)))) else ((purlinlaw0_OverTexts.f k bt196.1).bind fun _ => ((purlinlaw0_OverTexts.f k bt214.1).bind fun _ => (some false)))))))))))))) = some r := h
  clear h
  by_cases c2 : (a0.size : Int) > 400
  · rw [if_pos c2] at H
    have c2b0 : decide (400 < (a0.size : Int)) = true := decide_eq_true c2
    have c2b1 : decide (400 < a0.size) = true := decide_eq_true (by omega)
    clear c2
    replace H := Option.bind_eq_some_iff.mp H
    obtain ⟨t195, A30, H⟩ := H
    replace H : (some t195) = some r := H
    have A3 := Aside0.mk A30
    clear A30
    obtain rfl := Option.some.inj H
    go_enter Tryd.func3, Tryd.ntmps3
    go_wp2_with (first | ((with_reducible refine gate_callee (f := 8) rfl ?_); refine goesL_ (some 27) rfl rfl Tryd.func8 (by kernel_rfl) rfl #[] rfl (by (try simp only [List.map_toArray, List.map_cons, List.map_nil]); first | done | rfl | (simp only [List.length_drop, List.length_take]; rfl)) ?_; (with_reducible refine (purlinlaw12_awake.calls k  t195 _ ?side1 A3.out).mono ?_); (case side1 => exact G_below hG (by repeat (first | (with_reducible first | exact HB.out | apply below_alloc | apply pw_below_drewN | apply below_drew1) | exact HB.out))); rintro e w4 ⟨rfl, hb⟩; refine ⟨_, rfl, ?_⟩; have n0_ := Aside0.mk (below_step (by repeat (first | (with_reducible first | exact HB.out | apply below_alloc | apply pw_below_drewN | apply below_drew1) | exact HB.out)) hb); clear HB; have HB := n0_; clear n0_; (try clear hb); (try clear hb2); (try clear hk); (try clear hi)))
    go_ret
    exact ⟨by first | rfl | (simp [errW_none, errW_some] <;> rfl) | (simp [*, errW_none, errW_some] <;> rfl), by repeat (first | (with_reducible first | exact HB.out | apply below_alloc | apply pw_below_drewN | apply below_drew1) | exact HB.out)⟩
  · rw [if_neg c2] at H
    have c2b0 : decide (400 < (a0.size : Int)) = false := decide_eq_false c2
    have c2b1 : decide (400 < a0.size) = false := decide_eq_false (by omega)
    clear c2
    replace H := Option.bind_eq_some_iff.mp H
    obtain ⟨⟨t196, t197⟩, A50, H⟩ := H
    replace H : ((purlinref12_Split.f k a0).bind fun bt200 => ((path_Clean.f a0).bind fun bt204 => ((purlinref12_Clean.f k a0).bind fun bt206 => ((path_Last.f a0).bind fun bt208 => ((purlinref12_Last.f k a0).bind fun bt211 => ((path_Target.f k a0).bind fun bt214 => ((purlinref12_Target.f k a0).bind fun bt219 => ((purlinlaw0_SameTexts.f k t196 bt200.1).bind fun t224 => (if t224 = true then (if t197 = bt200.2 then (if bt204.1.toList = bt206.1.toList then (if bt204.2 = bt206.2 then (if bt208.1.toList = bt211.1.toList then (if bt208.2.1.toList = bt211.2.1.toList then (if bt208.2.2 = bt211.2.2 then ((purlinlaw0_SameTexts.f k bt214.1 bt219.1).bind fun t225 => (if t225 = true then (if (bt214.2.1 == bt219.2.1) = true then ((purlinlaw0_OverTexts.f k t196).bind fun _ => ((purlinlaw0_OverTexts.f k bt214.1).bind fun _ => (if bt214.2.2 = bt219.2.2 then ((purlinlaw12_awake.f k).bind fun t226 => (some t226)) else (some false)))) else ((purlinlaw0_OverTexts.f k t196).bind fun _ => ((purlinlaw0_OverTexts.f k bt214.1).bind fun _ => (some false)))) else ((purlinlaw0_OverTexts.f k t196).bind fun _ => ((purlinlaw0_OverTexts.f k bt214.1).bind fun _ => (some false))))) else ((purlinlaw0_OverTexts.f k t196).bind fun _ => ((purlinlaw0_OverTexts.f k bt214.1).bind fun _ => (some false)))) else ((purlinlaw0_OverTexts.f k t196).bind fun _ => ((purlinlaw0_OverTexts.f k bt214.1).bind fun _ => (some false)))) else ((purlinlaw0_OverTexts.f k t196).bind fun _ => ((purlinlaw0_OverTexts.f k bt214.1).bind fun _ => (some false)))) else ((purlinlaw0_OverTexts.f k t196).bind fun _ => ((purlinlaw0_OverTexts.f k bt214.1).bind fun _ => (some false)))) else ((purlinlaw0_OverTexts.f k t196).bind fun _ => ((purlinlaw0_OverTexts.f k bt214.1).bind fun _ => (some false)))) else ((purlinlaw0_OverTexts.f k t196).bind fun _ => ((purlinlaw0_OverTexts.f k bt214.1).bind fun _ => (some false)))) else ((purlinlaw0_OverTexts.f k t196).bind fun _ => ((purlinlaw0_OverTexts.f k bt214.1).bind fun _ => (some false)))))))))))) = some r := H
    have A5 := Aside0.mk A50
    clear A50
    replace H := Option.bind_eq_some_iff.mp H
    obtain ⟨⟨t200, t201⟩, A60, H⟩ := H
    replace H : ((path_Clean.f a0).bind fun bt204 => ((purlinref12_Clean.f k a0).bind fun bt206 => ((path_Last.f a0).bind fun bt208 => ((purlinref12_Last.f k a0).bind fun bt211 => ((path_Target.f k a0).bind fun bt214 => ((purlinref12_Target.f k a0).bind fun bt219 => ((purlinlaw0_SameTexts.f k t196 t200).bind fun t224 => (if t224 = true then (if t197 = t201 then (if bt204.1.toList = bt206.1.toList then (if bt204.2 = bt206.2 then (if bt208.1.toList = bt211.1.toList then (if bt208.2.1.toList = bt211.2.1.toList then (if bt208.2.2 = bt211.2.2 then ((purlinlaw0_SameTexts.f k bt214.1 bt219.1).bind fun t225 => (if t225 = true then (if (bt214.2.1 == bt219.2.1) = true then ((purlinlaw0_OverTexts.f k t196).bind fun _ => ((purlinlaw0_OverTexts.f k bt214.1).bind fun _ => (if bt214.2.2 = bt219.2.2 then ((purlinlaw12_awake.f k).bind fun t226 => (some t226)) else (some false)))) else ((purlinlaw0_OverTexts.f k t196).bind fun _ => ((purlinlaw0_OverTexts.f k bt214.1).bind fun _ => (some false)))) else ((purlinlaw0_OverTexts.f k t196).bind fun _ => ((purlinlaw0_OverTexts.f k bt214.1).bind fun _ => (some false))))) else ((purlinlaw0_OverTexts.f k t196).bind fun _ => ((purlinlaw0_OverTexts.f k bt214.1).bind fun _ => (some false)))) else ((purlinlaw0_OverTexts.f k t196).bind fun _ => ((purlinlaw0_OverTexts.f k bt214.1).bind fun _ => (some false)))) else ((purlinlaw0_OverTexts.f k t196).bind fun _ => ((purlinlaw0_OverTexts.f k bt214.1).bind fun _ => (some false)))) else ((purlinlaw0_OverTexts.f k t196).bind fun _ => ((purlinlaw0_OverTexts.f k bt214.1).bind fun _ => (some false)))) else ((purlinlaw0_OverTexts.f k t196).bind fun _ => ((purlinlaw0_OverTexts.f k bt214.1).bind fun _ => (some false)))) else ((purlinlaw0_OverTexts.f k t196).bind fun _ => ((purlinlaw0_OverTexts.f k bt214.1).bind fun _ => (some false)))) else ((purlinlaw0_OverTexts.f k t196).bind fun _ => ((purlinlaw0_OverTexts.f k bt214.1).bind fun _ => (some false))))))))))) = some r := H
    have A6 := Aside0.mk A60
    clear A60
    replace H := Option.bind_eq_some_iff.mp H
    obtain ⟨⟨t204, t205⟩, A70, H⟩ := H
    replace H : ((purlinref12_Clean.f k a0).bind fun bt206 => ((path_Last.f a0).bind fun bt208 => ((purlinref12_Last.f k a0).bind fun bt211 => ((path_Target.f k a0).bind fun bt214 => ((purlinref12_Target.f k a0).bind fun bt219 => ((purlinlaw0_SameTexts.f k t196 t200).bind fun t224 => (if t224 = true then (if t197 = t201 then (if t204.toList = bt206.1.toList then (if t205 = bt206.2 then (if bt208.1.toList = bt211.1.toList then (if bt208.2.1.toList = bt211.2.1.toList then (if bt208.2.2 = bt211.2.2 then ((purlinlaw0_SameTexts.f k bt214.1 bt219.1).bind fun t225 => (if t225 = true then (if (bt214.2.1 == bt219.2.1) = true then ((purlinlaw0_OverTexts.f k t196).bind fun _ => ((purlinlaw0_OverTexts.f k bt214.1).bind fun _ => (if bt214.2.2 = bt219.2.2 then ((purlinlaw12_awake.f k).bind fun t226 => (some t226)) else (some false)))) else ((purlinlaw0_OverTexts.f k t196).bind fun _ => ((purlinlaw0_OverTexts.f k bt214.1).bind fun _ => (some false)))) else ((purlinlaw0_OverTexts.f k t196).bind fun _ => ((purlinlaw0_OverTexts.f k bt214.1).bind fun _ => (some false))))) else ((purlinlaw0_OverTexts.f k t196).bind fun _ => ((purlinlaw0_OverTexts.f k bt214.1).bind fun _ => (some false)))) else ((purlinlaw0_OverTexts.f k t196).bind fun _ => ((purlinlaw0_OverTexts.f k bt214.1).bind fun _ => (some false)))) else ((purlinlaw0_OverTexts.f k t196).bind fun _ => ((purlinlaw0_OverTexts.f k bt214.1).bind fun _ => (some false)))) else ((purlinlaw0_OverTexts.f k t196).bind fun _ => ((purlinlaw0_OverTexts.f k bt214.1).bind fun _ => (some false)))) else ((purlinlaw0_OverTexts.f k t196).bind fun _ => ((purlinlaw0_OverTexts.f k bt214.1).bind fun _ => (some false)))) else ((purlinlaw0_OverTexts.f k t196).bind fun _ => ((purlinlaw0_OverTexts.f k bt214.1).bind fun _ => (some false)))) else ((purlinlaw0_OverTexts.f k t196).bind fun _ => ((purlinlaw0_OverTexts.f k bt214.1).bind fun _ => (some false)))))))))) = some r := H
    have A7 := Aside0.mk A70
    clear A70
    replace H := Option.bind_eq_some_iff.mp H
    obtain ⟨⟨t206, t207⟩, A80, H⟩ := H
    replace H : ((path_Last.f a0).bind fun bt208 => ((purlinref12_Last.f k a0).bind fun bt211 => ((path_Target.f k a0).bind fun bt214 => ((purlinref12_Target.f k a0).bind fun bt219 => ((purlinlaw0_SameTexts.f k t196 t200).bind fun t224 => (if t224 = true then (if t197 = t201 then (if t204.toList = t206.toList then (if t205 = t207 then (if bt208.1.toList = bt211.1.toList then (if bt208.2.1.toList = bt211.2.1.toList then (if bt208.2.2 = bt211.2.2 then ((purlinlaw0_SameTexts.f k bt214.1 bt219.1).bind fun t225 => (if t225 = true then (if (bt214.2.1 == bt219.2.1) = true then ((purlinlaw0_OverTexts.f k t196).bind fun _ => ((purlinlaw0_OverTexts.f k bt214.1).bind fun _ => (if bt214.2.2 = bt219.2.2 then ((purlinlaw12_awake.f k).bind fun t226 => (some t226)) else (some false)))) else ((purlinlaw0_OverTexts.f k t196).bind fun _ => ((purlinlaw0_OverTexts.f k bt214.1).bind fun _ => (some false)))) else ((purlinlaw0_OverTexts.f k t196).bind fun _ => ((purlinlaw0_OverTexts.f k bt214.1).bind fun _ => (some false))))) else ((purlinlaw0_OverTexts.f k t196).bind fun _ => ((purlinlaw0_OverTexts.f k bt214.1).bind fun _ => (some false)))) else ((purlinlaw0_OverTexts.f k t196).bind fun _ => ((purlinlaw0_OverTexts.f k bt214.1).bind fun _ => (some false)))) else ((purlinlaw0_OverTexts.f k t196).bind fun _ => ((purlinlaw0_OverTexts.f k bt214.1).bind fun _ => (some false)))) else ((purlinlaw0_OverTexts.f k t196).bind fun _ => ((purlinlaw0_OverTexts.f k bt214.1).bind fun _ => (some false)))) else ((purlinlaw0_OverTexts.f k t196).bind fun _ => ((purlinlaw0_OverTexts.f k bt214.1).bind fun _ => (some false)))) else ((purlinlaw0_OverTexts.f k t196).bind fun _ => ((purlinlaw0_OverTexts.f k bt214.1).bind fun _ => (some false)))) else ((purlinlaw0_OverTexts.f k t196).bind fun _ => ((purlinlaw0_OverTexts.f k bt214.1).bind fun _ => (some false))))))))) = some r := H
    have A8 := Aside0.mk A80
    clear A80
    replace H := Option.bind_eq_some_iff.mp H
    obtain ⟨⟨t208, t209, t210⟩, A90, H⟩ := H
    replace H : ((purlinref12_Last.f k a0).bind fun bt211 => ((path_Target.f k a0).bind fun bt214 => ((purlinref12_Target.f k a0).bind fun bt219 => ((purlinlaw0_SameTexts.f k t196 t200).bind fun t224 => (if t224 = true then (if t197 = t201 then (if t204.toList = t206.toList then (if t205 = t207 then (if t208.toList = bt211.1.toList then (if t209.toList = bt211.2.1.toList then (if t210 = bt211.2.2 then ((purlinlaw0_SameTexts.f k bt214.1 bt219.1).bind fun t225 => (if t225 = true then (if (bt214.2.1 == bt219.2.1) = true then ((purlinlaw0_OverTexts.f k t196).bind fun _ => ((purlinlaw0_OverTexts.f k bt214.1).bind fun _ => (if bt214.2.2 = bt219.2.2 then ((purlinlaw12_awake.f k).bind fun t226 => (some t226)) else (some false)))) else ((purlinlaw0_OverTexts.f k t196).bind fun _ => ((purlinlaw0_OverTexts.f k bt214.1).bind fun _ => (some false)))) else ((purlinlaw0_OverTexts.f k t196).bind fun _ => ((purlinlaw0_OverTexts.f k bt214.1).bind fun _ => (some false))))) else ((purlinlaw0_OverTexts.f k t196).bind fun _ => ((purlinlaw0_OverTexts.f k bt214.1).bind fun _ => (some false)))) else ((purlinlaw0_OverTexts.f k t196).bind fun _ => ((purlinlaw0_OverTexts.f k bt214.1).bind fun _ => (some false)))) else ((purlinlaw0_OverTexts.f k t196).bind fun _ => ((purlinlaw0_OverTexts.f k bt214.1).bind fun _ => (some false)))) else ((purlinlaw0_OverTexts.f k t196).bind fun _ => ((purlinlaw0_OverTexts.f k bt214.1).bind fun _ => (some false)))) else ((purlinlaw0_OverTexts.f k t196).bind fun _ => ((purlinlaw0_OverTexts.f k bt214.1).bind fun _ => (some false)))) else ((purlinlaw0_OverTexts.f k t196).bind fun _ => ((purlinlaw0_OverTexts.f k bt214.1).bind fun _ => (some false)))) else ((purlinlaw0_OverTexts.f k t196).bind fun _ => ((purlinlaw0_OverTexts.f k bt214.1).bind fun _ => (some false)))))))) = some r := H
    have A9 := Aside0.mk A90
    clear A90
    replace H := Option.bind_eq_some_iff.mp H
    obtain ⟨⟨t211, t212, t213⟩, A100, H⟩ := H
    replace H : ((path_Target.f k a0).bind fun bt214 => ((purlinref12_Target.f k a0).bind fun bt219 => ((purlinlaw0_SameTexts.f k t196 t200).bind fun t224 => (if t224 = true then (if t197 = t201 then (if t204.toList = t206.toList then (if t205 = t207 then (if t208.toList = t211.toList then (if t209.toList = t212.toList then (if t210 = t213 then ((purlinlaw0_SameTexts.f k bt214.1 bt219.1).bind fun t225 => (if t225 = true then (if (bt214.2.1 == bt219.2.1) = true then ((purlinlaw0_OverTexts.f k t196).bind fun _ => ((purlinlaw0_OverTexts.f k bt214.1).bind fun _ => (if bt214.2.2 = bt219.2.2 then ((purlinlaw12_awake.f k).bind fun t226 => (some t226)) else (some false)))) else ((purlinlaw0_OverTexts.f k t196).bind fun _ => ((purlinlaw0_OverTexts.f k bt214.1).bind fun _ => (some false)))) else ((purlinlaw0_OverTexts.f k t196).bind fun _ => ((purlinlaw0_OverTexts.f k bt214.1).bind fun _ => (some false))))) else ((purlinlaw0_OverTexts.f k t196).bind fun _ => ((purlinlaw0_OverTexts.f k bt214.1).bind fun _ => (some false)))) else ((purlinlaw0_OverTexts.f k t196).bind fun _ => ((purlinlaw0_OverTexts.f k bt214.1).bind fun _ => (some false)))) else ((purlinlaw0_OverTexts.f k t196).bind fun _ => ((purlinlaw0_OverTexts.f k bt214.1).bind fun _ => (some false)))) else ((purlinlaw0_OverTexts.f k t196).bind fun _ => ((purlinlaw0_OverTexts.f k bt214.1).bind fun _ => (some false)))) else ((purlinlaw0_OverTexts.f k t196).bind fun _ => ((purlinlaw0_OverTexts.f k bt214.1).bind fun _ => (some false)))) else ((purlinlaw0_OverTexts.f k t196).bind fun _ => ((purlinlaw0_OverTexts.f k bt214.1).bind fun _ => (some false)))) else ((purlinlaw0_OverTexts.f k t196).bind fun _ => ((purlinlaw0_OverTexts.f k bt214.1).bind fun _ => (some false))))))) = some r := H
    have A10 := Aside0.mk A100
    clear A100
    replace H := Option.bind_eq_some_iff.mp H
    obtain ⟨⟨t214, t215, t216⟩, A110, H⟩ := H
    replace H : ((purlinref12_Target.f k a0).bind fun bt219 => ((purlinlaw0_SameTexts.f k t196 t200).bind fun t224 => (if t224 = true then (if t197 = t201 then (if t204.toList = t206.toList then (if t205 = t207 then (if t208.toList = t211.toList then (if t209.toList = t212.toList then (if t210 = t213 then ((purlinlaw0_SameTexts.f k t214 bt219.1).bind fun t225 => (if t225 = true then (if (t215 == bt219.2.1) = true then ((purlinlaw0_OverTexts.f k t196).bind fun _ => ((purlinlaw0_OverTexts.f k t214).bind fun _ => (if t216 = bt219.2.2 then ((purlinlaw12_awake.f k).bind fun t226 => (some t226)) else (some false)))) else ((purlinlaw0_OverTexts.f k t196).bind fun _ => ((purlinlaw0_OverTexts.f k t214).bind fun _ => (some false)))) else ((purlinlaw0_OverTexts.f k t196).bind fun _ => ((purlinlaw0_OverTexts.f k t214).bind fun _ => (some false))))) else ((purlinlaw0_OverTexts.f k t196).bind fun _ => ((purlinlaw0_OverTexts.f k t214).bind fun _ => (some false)))) else ((purlinlaw0_OverTexts.f k t196).bind fun _ => ((purlinlaw0_OverTexts.f k t214).bind fun _ => (some false)))) else ((purlinlaw0_OverTexts.f k t196).bind fun _ => ((purlinlaw0_OverTexts.f k t214).bind fun _ => (some false)))) else ((purlinlaw0_OverTexts.f k t196).bind fun _ => ((purlinlaw0_OverTexts.f k t214).bind fun _ => (some false)))) else ((purlinlaw0_OverTexts.f k t196).bind fun _ => ((purlinlaw0_OverTexts.f k t214).bind fun _ => (some false)))) else ((purlinlaw0_OverTexts.f k t196).bind fun _ => ((purlinlaw0_OverTexts.f k t214).bind fun _ => (some false)))) else ((purlinlaw0_OverTexts.f k t196).bind fun _ => ((purlinlaw0_OverTexts.f k t214).bind fun _ => (some false)))))) = some r := H
    have A11 := Aside0.mk A110
    clear A110
    replace H := Option.bind_eq_some_iff.mp H
    obtain ⟨⟨t219, t220, t221⟩, A120, H⟩ := H
    replace H : ((purlinlaw0_SameTexts.f k t196 t200).bind fun t224 => (if t224 = true then (if t197 = t201 then (if t204.toList = t206.toList then (if t205 = t207 then (if t208.toList = t211.toList then (if t209.toList = t212.toList then (if t210 = t213 then ((purlinlaw0_SameTexts.f k t214 t219).bind fun t225 => (if t225 = true then (if (t215 == t220) = true then ((purlinlaw0_OverTexts.f k t196).bind fun _ => ((purlinlaw0_OverTexts.f k t214).bind fun _ => (if t216 = t221 then ((purlinlaw12_awake.f k).bind fun t226 => (some t226)) else (some false)))) else ((purlinlaw0_OverTexts.f k t196).bind fun _ => ((purlinlaw0_OverTexts.f k t214).bind fun _ => (some false)))) else ((purlinlaw0_OverTexts.f k t196).bind fun _ => ((purlinlaw0_OverTexts.f k t214).bind fun _ => (some false))))) else ((purlinlaw0_OverTexts.f k t196).bind fun _ => ((purlinlaw0_OverTexts.f k t214).bind fun _ => (some false)))) else ((purlinlaw0_OverTexts.f k t196).bind fun _ => ((purlinlaw0_OverTexts.f k t214).bind fun _ => (some false)))) else ((purlinlaw0_OverTexts.f k t196).bind fun _ => ((purlinlaw0_OverTexts.f k t214).bind fun _ => (some false)))) else ((purlinlaw0_OverTexts.f k t196).bind fun _ => ((purlinlaw0_OverTexts.f k t214).bind fun _ => (some false)))) else ((purlinlaw0_OverTexts.f k t196).bind fun _ => ((purlinlaw0_OverTexts.f k t214).bind fun _ => (some false)))) else ((purlinlaw0_OverTexts.f k t196).bind fun _ => ((purlinlaw0_OverTexts.f k t214).bind fun _ => (some false)))) else ((purlinlaw0_OverTexts.f k t196).bind fun _ => ((purlinlaw0_OverTexts.f k t214).bind fun _ => (some false))))) = some r := H
    have A12 := Aside0.mk A120
    clear A120
    replace H := Option.bind_eq_some_iff.mp H
    obtain ⟨t224, A130, H⟩ := H
    replace H : (if t224 = true then (if t197 = t201 then (if t204.toList = t206.toList then (if t205 = t207 then (if t208.toList = t211.toList then (if t209.toList = t212.toList then (if t210 = t213 then ((purlinlaw0_SameTexts.f k t214 t219).bind fun t225 => (if t225 = true then (if (t215 == t220) = true then ((purlinlaw0_OverTexts.f k t196).bind fun _ => ((purlinlaw0_OverTexts.f k t214).bind fun _ => (if t216 = t221 then ((purlinlaw12_awake.f k).bind fun t226 => (some t226)) else (some false)))) else ((purlinlaw0_OverTexts.f k t196).bind fun _ => ((purlinlaw0_OverTexts.f k t214).bind fun _ => (some false)))) else ((purlinlaw0_OverTexts.f k t196).bind fun _ => ((purlinlaw0_OverTexts.f k t214).bind fun _ => (some false))))) else ((purlinlaw0_OverTexts.f k t196).bind fun _ => ((purlinlaw0_OverTexts.f k t214).bind fun _ => (some false)))) else ((purlinlaw0_OverTexts.f k t196).bind fun _ => ((purlinlaw0_OverTexts.f k t214).bind fun _ => (some false)))) else ((purlinlaw0_OverTexts.f k t196).bind fun _ => ((purlinlaw0_OverTexts.f k t214).bind fun _ => (some false)))) else ((purlinlaw0_OverTexts.f k t196).bind fun _ => ((purlinlaw0_OverTexts.f k t214).bind fun _ => (some false)))) else ((purlinlaw0_OverTexts.f k t196).bind fun _ => ((purlinlaw0_OverTexts.f k t214).bind fun _ => (some false)))) else ((purlinlaw0_OverTexts.f k t196).bind fun _ => ((purlinlaw0_OverTexts.f k t214).bind fun _ => (some false)))) else ((purlinlaw0_OverTexts.f k t196).bind fun _ => ((purlinlaw0_OverTexts.f k t214).bind fun _ => (some false)))) = some r := H
    have A13 := Aside0.mk A130
    clear A130
    by_cases c14 : t224 = true
    · subst c14
      have H1 : (if t197 = t201 then (if t204.toList = t206.toList then (if t205 = t207 then (if t208.toList = t211.toList then (if t209.toList = t212.toList then (if t210 = t213 then ((purlinlaw0_SameTexts.f k t214 t219).bind fun t225 => (if t225 = true then (if (t215 == t220) = true then ((purlinlaw0_OverTexts.f k t196).bind fun _ => ((purlinlaw0_OverTexts.f k t214).bind fun _ => (if t216 = t221 then ((purlinlaw12_awake.f k).bind fun t226 => (some t226)) else (some false)))) else ((purlinlaw0_OverTexts.f k t196).bind fun _ => ((purlinlaw0_OverTexts.f k t214).bind fun _ => (some false)))) else ((purlinlaw0_OverTexts.f k t196).bind fun _ => ((purlinlaw0_OverTexts.f k t214).bind fun _ => (some false))))) else ((purlinlaw0_OverTexts.f k t196).bind fun _ => ((purlinlaw0_OverTexts.f k t214).bind fun _ => (some false)))) else ((purlinlaw0_OverTexts.f k t196).bind fun _ => ((purlinlaw0_OverTexts.f k t214).bind fun _ => (some false)))) else ((purlinlaw0_OverTexts.f k t196).bind fun _ => ((purlinlaw0_OverTexts.f k t214).bind fun _ => (some false)))) else ((purlinlaw0_OverTexts.f k t196).bind fun _ => ((purlinlaw0_OverTexts.f k t214).bind fun _ => (some false)))) else ((purlinlaw0_OverTexts.f k t196).bind fun _ => ((purlinlaw0_OverTexts.f k t214).bind fun _ => (some false)))) else ((purlinlaw0_OverTexts.f k t196).bind fun _ => ((purlinlaw0_OverTexts.f k t214).bind fun _ => (some false)))) = some r := by rw [if_pos rfl] at H; exact H
      clear H
      have H := H1
      clear H1
      by_cases c15 : t197 = t201
      · rw [if_pos c15] at H
        have c15b0 : (t197 == t201) = true := beq_iff_eq.mpr c15
        have c15b1 : (t197 != t201) = false := bne_eq_false_iff_eq.mpr c15
        clear c15
        by_cases c16 : t204.toList = t206.toList
        · rw [if_pos c16] at H
          have c16b0 : (t204.toList == t206.toList) = true := beq_iff_eq.mpr c16
          have c16b1 : (t204.toList != t206.toList) = false := bne_eq_false_iff_eq.mpr c16
          clear c16
          by_cases c17 : t205 = t207
          · rw [if_pos c17] at H
            have c17b0 : (t205 == t207) = true := beq_iff_eq.mpr c17
            have c17b1 : (t205 != t207) = false := bne_eq_false_iff_eq.mpr c17
            clear c17
            by_cases c18 : t208.toList = t211.toList
            · rw [if_pos c18] at H
              have c18b0 : (t208.toList == t211.toList) = true := beq_iff_eq.mpr c18
              have c18b1 : (t208.toList != t211.toList) = false := bne_eq_false_iff_eq.mpr c18
              clear c18
              by_cases c19 : t209.toList = t212.toList
              · rw [if_pos c19] at H
                have c19b0 : (t209.toList == t212.toList) = true := beq_iff_eq.mpr c19
                have c19b1 : (t209.toList != t212.toList) = false := bne_eq_false_iff_eq.mpr c19
                clear c19
                by_cases c20 : t210 = t213
                · rw [if_pos c20] at H
                  have c20b0 : (t210 == t213) = true := beq_iff_eq.mpr c20
                  have c20b1 : (t210 != t213) = false := bne_eq_false_iff_eq.mpr c20
                  clear c20
                  replace H := Option.bind_eq_some_iff.mp H
                  obtain ⟨t225, A210, H⟩ := H
                  replace H : (if t225 = true then (if (t215 == t220) = true then ((purlinlaw0_OverTexts.f k t196).bind fun _ => ((purlinlaw0_OverTexts.f k t214).bind fun _ => (if t216 = t221 then ((purlinlaw12_awake.f k).bind fun t226 => (some t226)) else (some false)))) else ((purlinlaw0_OverTexts.f k t196).bind fun _ => ((purlinlaw0_OverTexts.f k t214).bind fun _ => (some false)))) else ((purlinlaw0_OverTexts.f k t196).bind fun _ => ((purlinlaw0_OverTexts.f k t214).bind fun _ => (some false)))) = some r := H
                  have A21 := Aside0.mk A210
                  clear A210
                  by_cases c22 : t225 = true
                  · subst c22
                    have H1 : (if (t215 == t220) = true then ((purlinlaw0_OverTexts.f k t196).bind fun _ => ((purlinlaw0_OverTexts.f k t214).bind fun _ => (if t216 = t221 then ((purlinlaw12_awake.f k).bind fun t226 => (some t226)) else (some false)))) else ((purlinlaw0_OverTexts.f k t196).bind fun _ => ((purlinlaw0_OverTexts.f k t214).bind fun _ => (some false)))) = some r := by rw [if_pos rfl] at H; exact H
                    clear H
                    have H := H1
                    clear H1
                    by_cases c23 : (t215 == t220) = true
                    · rw [if_pos c23] at H
                      have c23b0 : (t215 == t220) = true := c23
                      (try (have c23b1 : decide (t215 = t220) = true := by simpa using c23))
                      (try (have c23b2 : (t215 == t220) = true := by simpa using c23))
                      clear c23
                      replace H := Option.bind_eq_some_iff.mp H
                      obtain ⟨_, A240, H⟩ := H
                      replace H : ((purlinlaw0_OverTexts.f k t214).bind fun _ => (if t216 = t221 then ((purlinlaw12_awake.f k).bind fun t226 => (some t226)) else (some false))) = some r := H
                      have A24 := Aside0.mk A240
                      clear A240
                      replace H := Option.bind_eq_some_iff.mp H
                      obtain ⟨_, A250, H⟩ := H
                      replace H : (if t216 = t221 then ((purlinlaw12_awake.f k).bind fun t226 => (some t226)) else (some false)) = some r := H
                      have A25 := Aside0.mk A250
                      clear A250
                      by_cases c26 : t216 = t221
                      · rw [if_pos c26] at H
                        have c26b0 : (t216 == t221) = true := beq_iff_eq.mpr c26
                        have c26b1 : (t216 != t221) = false := bne_eq_false_iff_eq.mpr c26
                        clear c26
                        replace H := Option.bind_eq_some_iff.mp H
                        obtain ⟨t226, A270, H⟩ := H
                        replace H : (some t226) = some r := H
                        have A27 := Aside0.mk A270
                        clear A270
                        obtain rfl := Option.some.inj H
                        go_enter Tryd.func3, Tryd.ntmps3
                        go_wp2_with (first | ((with_reducible refine gate_callee (f := 9) rfl ?_); refine goesL_ (some 30) rfl rfl Tryd.func9 (by kernel_rfl) rfl #[.string a0] rfl (by (try simp only [List.map_toArray, List.map_cons, List.map_nil]); first | done | rfl | (simp only [List.length_drop, List.length_take]; rfl)) ?_; (with_reducible refine (path_Split.calls a0 t196 t197 _ ?side1 A5.out).mono ?_); (case side1 => exact G_below hG (by repeat (first | (with_reducible first | exact HB.out | apply below_alloc | apply pw_below_drewN | apply below_drew1) | exact HB.out))); rintro e w28 ⟨v198, rfl, ho0, hb⟩; refine ⟨_, rfl, ?_⟩; have n0_ := Aside0.mk (Kd.R_lower ho0 (below_size (by repeat (first | (with_reducible first | exact HB.out | apply below_alloc | apply pw_below_drewN | apply below_drew1) | exact HB.out)))); have n1_ := Aside0.mk (below_step (by repeat (first | (with_reducible first | exact HB.out | apply below_alloc | apply pw_below_drewN | apply below_drew1) | exact HB.out)) hb); clear HB; have HO199 := n0_; have HB := n1_; clear n0_ n1_; (try clear hb); (try clear hb2); (try clear hk); (try clear hi); (try clear ho0)) | ((with_reducible refine gate_callee (f := 10) rfl ?_); refine goesL_ (some 35) rfl rfl Tryd.func10 (by kernel_rfl) rfl #[.string a0] rfl (by (try simp only [List.map_toArray, List.map_cons, List.map_nil]); first | done | rfl | (simp only [List.length_drop, List.length_take]; rfl)) ?_; (with_reducible refine (purlinref12_Split.calls k a0 t200 t201 _ A6.out).mono ?_); rintro e w29 ⟨v202, rfl, ho0, hb⟩; refine ⟨_, rfl, ?_⟩; have n0_ := Aside0.mk (Kd.R_elder' (by (with_reducible repeat (first | apply Kd.R_alloc | apply Kd.R_drewN | apply Kd.R_drew)); exact HO199.out) (Kd.R_base ho0) hb); have n1_ := Aside0.mk (Kd.R_lower (Kd.R_new' ho0 (Kd.R_lt (by (with_reducible repeat (first | apply Kd.R_alloc | apply Kd.R_drewN | apply Kd.R_drew)); exact HO199.out))) (below_size (by repeat (first | (with_reducible first | exact HB.out | apply below_alloc | apply pw_below_drewN | apply below_drew1) | exact HB.out)))); have n2_ := Aside0.mk (below_step (by repeat (first | (with_reducible first | exact HB.out | apply below_alloc | apply pw_below_drewN | apply below_drew1) | exact HB.out)) hb); clear HO199; clear HB; have HO199 := n0_; have HO203 := n1_; have HB := n2_; clear n0_ n1_ n2_; (try clear hb); (try clear hb2); (try clear hk); (try clear hi); (try clear ho0)) | ((with_reducible refine gate_callee (f := 11) rfl ?_); refine goesL_ (some 40) rfl rfl Tryd.func11 (by kernel_rfl) rfl #[.string a0] rfl (by (try simp only [List.map_toArray, List.map_cons, List.map_nil]); first | done | rfl | (simp only [List.length_drop, List.length_take]; rfl)) ?_; (with_reducible refine (path_Clean.calls a0 t204 t205 _ ?side1 A7.out).mono ?_); (case side1 => exact G_below hG (by repeat (first | (with_reducible first | exact HB.out | apply below_alloc | apply pw_below_drewN | apply below_drew1) | exact HB.out))); rintro e w30 ⟨rfl, hb⟩; refine ⟨_, rfl, ?_⟩; have n0_ := Aside0.mk (Kd.R_below (by (with_reducible repeat (first | apply Kd.R_alloc | apply Kd.R_drewN | apply Kd.R_drew)); exact HO199.out) hb); have n1_ := Aside0.mk (Kd.R_below (by (with_reducible repeat (first | apply Kd.R_alloc | apply Kd.R_drewN | apply Kd.R_drew)); exact HO203.out) hb); have n2_ := Aside0.mk (below_step (by repeat (first | (with_reducible first | exact HB.out | apply below_alloc | apply pw_below_drewN | apply below_drew1) | exact HB.out)) hb); clear HO199; clear HO203; clear HB; have HO199 := n0_; have HO203 := n1_; have HB := n2_; clear n0_ n1_ n2_; (try clear hb); (try clear hb2); (try clear hk); (try clear hi)) | ((with_reducible refine gate_callee (f := 12) rfl ?_); refine goesL_ (some 45) rfl rfl Tryd.func12 (by kernel_rfl) rfl #[.string a0] rfl (by (try simp only [List.map_toArray, List.map_cons, List.map_nil]); first | done | rfl | (simp only [List.length_drop, List.length_take]; rfl)) ?_; (with_reducible refine (purlinref12_Clean.calls k a0 t206 t207 _ A8.out).mono ?_); rintro e w31 ⟨rfl, hb⟩; refine ⟨_, rfl, ?_⟩; have n0_ := Aside0.mk (Kd.R_below (by (with_reducible repeat (first | apply Kd.R_alloc | apply Kd.R_drewN | apply Kd.R_drew)); exact HO199.out) hb); have n1_ := Aside0.mk (Kd.R_below (by (with_reducible repeat (first | apply Kd.R_alloc | apply Kd.R_drewN | apply Kd.R_drew)); exact HO203.out) hb); have n2_ := Aside0.mk (below_step (by repeat (first | (with_reducible first | exact HB.out | apply below_alloc | apply pw_below_drewN | apply below_drew1) | exact HB.out)) hb); clear HO199; clear HO203; clear HB; have HO199 := n0_; have HO203 := n1_; have HB := n2_; clear n0_ n1_ n2_; (try clear hb); (try clear hb2); (try clear hk); (try clear hi)) | ((with_reducible refine gate_callee (f := 13) rfl ?_); refine goesL_ (some 50) rfl rfl Tryd.func13 (by kernel_rfl) rfl #[.string a0] rfl (by (try simp only [List.map_toArray, List.map_cons, List.map_nil]); first | done | rfl | (simp only [List.length_drop, List.length_take]; rfl)) ?_; (with_reducible refine (path_Last.calls a0 t208 t209 t210 _ ?side1 A9.out).mono ?_); (case side1 => exact G_below hG (by repeat (first | (with_reducible first | exact HB.out | apply below_alloc | apply pw_below_drewN | apply below_drew1) | exact HB.out))); rintro e w32 ⟨rfl, hb⟩; refine ⟨_, rfl, ?_⟩; have n0_ := Aside0.mk (Kd.R_below (by (with_reducible repeat (first | apply Kd.R_alloc | apply Kd.R_drewN | apply Kd.R_drew)); exact HO199.out) hb); have n1_ := Aside0.mk (Kd.R_below (by (with_reducible repeat (first | apply Kd.R_alloc | apply Kd.R_drewN | apply Kd.R_drew)); exact HO203.out) hb); have n2_ := Aside0.mk (below_step (by repeat (first | (with_reducible first | exact HB.out | apply below_alloc | apply pw_below_drewN | apply below_drew1) | exact HB.out)) hb); clear HO199; clear HO203; clear HB; have HO199 := n0_; have HO203 := n1_; have HB := n2_; clear n0_ n1_ n2_; (try clear hb); (try clear hb2); (try clear hk); (try clear hi)) | ((with_reducible refine gate_callee (f := 14) rfl ?_); refine goesL_ (some 56) rfl rfl Tryd.func14 (by kernel_rfl) rfl #[.string a0] rfl (by (try simp only [List.map_toArray, List.map_cons, List.map_nil]); first | done | rfl | (simp only [List.length_drop, List.length_take]; rfl)) ?_; (with_reducible refine (purlinref12_Last.calls k a0 t211 t212 t213 _ A10.out).mono ?_); rintro e w33 ⟨rfl, hb⟩; refine ⟨_, rfl, ?_⟩; have n0_ := Aside0.mk (Kd.R_below (by (with_reducible repeat (first | apply Kd.R_alloc | apply Kd.R_drewN | apply Kd.R_drew)); exact HO199.out) hb); have n1_ := Aside0.mk (Kd.R_below (by (with_reducible repeat (first | apply Kd.R_alloc | apply Kd.R_drewN | apply Kd.R_drew)); exact HO203.out) hb); have n2_ := Aside0.mk (below_step (by repeat (first | (with_reducible first | exact HB.out | apply below_alloc | apply pw_below_drewN | apply below_drew1) | exact HB.out)) hb); clear HO199; clear HO203; clear HB; have HO199 := n0_; have HO203 := n1_; have HB := n2_; clear n0_ n1_ n2_; (try clear hb); (try clear hb2); (try clear hk); (try clear hi)) | ((with_reducible refine gate_callee (f := 15) rfl ?_); refine goesL_ (some 62) rfl rfl Tryd.func15 (by kernel_rfl) rfl #[.string a0] rfl (by (try simp only [List.map_toArray, List.map_cons, List.map_nil]); first | done | rfl | (simp only [List.length_drop, List.length_take]; rfl)) ?_; (with_reducible refine (path_Target.calls k a0 t214 t215 t216 _ ?side1 A11.out).mono ?_); (case side1 => exact G_below hG (by repeat (first | (with_reducible first | exact HB.out | apply below_alloc | apply pw_below_drewN | apply below_drew1) | exact HB.out))); rintro e w34 ⟨v217, rfl, ho0, hb⟩; refine ⟨_, rfl, ?_⟩; have n0_ := Aside0.mk (Kd.R_elder' (by (with_reducible repeat (first | apply Kd.R_alloc | apply Kd.R_drewN | apply Kd.R_drew)); exact HO199.out) (Kd.R_base ho0) hb); have n1_ := Aside0.mk (Kd.R_elder' (by (with_reducible repeat (first | apply Kd.R_alloc | apply Kd.R_drewN | apply Kd.R_drew)); exact HO203.out) (Kd.R_base ho0) hb); have n2_ := Aside0.mk (Kd.R_lower (Kd.R_new' (Kd.R_new' ho0 (Kd.R_lt (by (with_reducible repeat (first | apply Kd.R_alloc | apply Kd.R_drewN | apply Kd.R_drew)); exact HO199.out))) (Kd.R_lt (by (with_reducible repeat (first | apply Kd.R_alloc | apply Kd.R_drewN | apply Kd.R_drew)); exact HO203.out))) (below_size (by repeat (first | (with_reducible first | exact HB.out | apply below_alloc | apply pw_below_drewN | apply below_drew1) | exact HB.out)))); have n3_ := Aside0.mk (below_step (by repeat (first | (with_reducible first | exact HB.out | apply below_alloc | apply pw_below_drewN | apply below_drew1) | exact HB.out)) hb); clear HO199; clear HO203; clear HB; have HO199 := n0_; have HO203 := n1_; have HO218 := n2_; have HB := n3_; clear n0_ n1_ n2_ n3_; (try clear hb); (try clear hb2); (try clear hk); (try clear hi); (try clear ho0)) | ((with_reducible refine gate_callee (f := 16) rfl ?_); refine goesL_ (some 68) rfl rfl Tryd.func16 (by kernel_rfl) rfl #[.string a0] rfl (by (try simp only [List.map_toArray, List.map_cons, List.map_nil]); first | done | rfl | (simp only [List.length_drop, List.length_take]; rfl)) ?_; (with_reducible refine (purlinref12_Target.calls k a0 t219 t220 t221 _ A12.out).mono ?_); rintro e w35 ⟨v222, rfl, ho0, hb⟩; refine ⟨_, rfl, ?_⟩; have n0_ := Aside0.mk (Kd.R_elder' (by (with_reducible repeat (first | apply Kd.R_alloc | apply Kd.R_drewN | apply Kd.R_drew)); exact HO199.out) (Kd.R_base ho0) hb); have n1_ := Aside0.mk (Kd.R_elder' (by (with_reducible repeat (first | apply Kd.R_alloc | apply Kd.R_drewN | apply Kd.R_drew)); exact HO203.out) (Kd.R_base ho0) hb); have n2_ := Aside0.mk (Kd.R_elder' (by (with_reducible repeat (first | apply Kd.R_alloc | apply Kd.R_drewN | apply Kd.R_drew)); exact HO218.out) (Kd.R_base ho0) hb); have n3_ := Aside0.mk (Kd.R_lower (Kd.R_new' (Kd.R_new' (Kd.R_new' ho0 (Kd.R_lt (by (with_reducible repeat (first | apply Kd.R_alloc | apply Kd.R_drewN | apply Kd.R_drew)); exact HO199.out))) (Kd.R_lt (by (with_reducible repeat (first | apply Kd.R_alloc | apply Kd.R_drewN | apply Kd.R_drew)); exact HO203.out))) (Kd.R_lt (by (with_reducible repeat (first | apply Kd.R_alloc | apply Kd.R_drewN | apply Kd.R_drew)); exact HO218.out))) (below_size (by repeat (first | (with_reducible first | exact HB.out | apply below_alloc | apply pw_below_drewN | apply below_drew1) | exact HB.out)))); have n4_ := Aside0.mk (below_step (by repeat (first | (with_reducible first | exact HB.out | apply below_alloc | apply pw_below_drewN | apply below_drew1) | exact HB.out)) hb); clear HO199; clear HO203; clear HO218; clear HB; have HO199 := n0_; have HO203 := n1_; have HO218 := n2_; have HO223 := n3_; have HB := n4_; clear n0_ n1_ n2_ n3_ n4_; (try clear hb); (try clear hb2); (try clear hk); (try clear hi); (try clear ho0); obtain ⟨Ao36, co36, eo36⟩ := Kd.R_slice HO199.out; subst eo36; obtain ⟨Ao37, co37, eo37⟩ := Kd.R_slice HO203.out; subst eo37) | ((with_reducible refine gate_callee (f := 17) rfl ?_); refine goesL_ (some 74) rfl rfl Tryd.func17 (by kernel_rfl) rfl #[.slice Ao36 t196.length co36, .slice Ao37 t200.length co37] rfl (by (try simp only [List.map_toArray, List.map_cons, List.map_nil]); first | done | rfl | (simp only [List.length_drop, List.length_take]; rfl)) ?_; (with_reducible refine (purlinlaw0_SameTexts.calls k _ _ t196 _ _ t200 true _ ?side1 ?side2 ?side3 ?side4 A13.out).mono ?_); (case side1 => repeat (first | exact (Kd.R_reads' HO199.out).2.2 | (with_reducible refine Kd.C_alloc ?_ _) | (with_reducible refine Kd.C_drewN ?_ _) | (with_reducible refine Kd.C_drew ?_))); (case side2 => exact (Kd.R_reads' HO199.out).2.1); (case side3 => repeat (first | exact (Kd.R_reads' HO203.out).2.2 | (with_reducible refine Kd.C_alloc ?_ _) | (with_reducible refine Kd.C_drewN ?_ _) | (with_reducible refine Kd.C_drew ?_))); (case side4 => exact (Kd.R_reads' HO203.out).2.1); rintro e w' ⟨rfl, ⟨nd, rfl⟩⟩; refine ⟨_, rfl, ?_⟩; obtain ⟨Ao38, co38, eo38⟩ := Kd.R_slice HO218.out; subst eo38; obtain ⟨Ao39, co39, eo39⟩ := Kd.R_slice HO223.out; subst eo39) | (go_at_call 17; (with_reducible refine (purlinlaw0_SameTexts.calls k _ _ t214 _ _ t219 true _ ?side1 ?side2 ?side3 ?side4 A21.out).mono ?_); (case side1 => repeat (first | exact (Kd.R_reads' HO218.out).2.2 | (with_reducible refine Kd.C_alloc ?_ _) | (with_reducible refine Kd.C_drewN ?_ _) | (with_reducible refine Kd.C_drew ?_))); (case side2 => exact (Kd.R_reads' HO218.out).2.1); (case side3 => repeat (first | exact (Kd.R_reads' HO223.out).2.2 | (with_reducible refine Kd.C_alloc ?_ _) | (with_reducible refine Kd.C_drewN ?_ _) | (with_reducible refine Kd.C_drew ?_))); (case side4 => exact (Kd.R_reads' HO223.out).2.1); rintro e w' ⟨rfl, ⟨nd, rfl⟩⟩) | ((with_reducible refine gate_callee (f := 18) rfl ?_); refine goesL_ (some 121) rfl rfl Tryd.func18 (by kernel_rfl) rfl #[.slice Ao36 t196.length co36] rfl (by (try simp only [List.map_toArray, List.map_cons, List.map_nil]); first | done | rfl | (simp only [List.length_drop, List.length_take]; rfl)) ?_; (with_reducible refine (purlinlaw0_OverTexts.calls k (fun k_ => some k_ = (.slice Ao36 t196.length co36 : Value).ownBlock) (.slice Ao36 t196.length co36) t196  w _ ?side1 ?side2 A24.out).mono ?_); (case side1 => repeat (first | (with_reducible first | exact HB.out | apply below_alloc | apply pw_below_drewN | apply below_drew1) | exact HB.out)); (case side2 => exact Kd.R_tight rfl HO199.out); rintro e w40 ⟨rfl, hb, hkp⟩; refine ⟨_, rfl, ?_⟩; have n0_ := Aside0.mk (Kd.R_mono (ok' := fun k_ => some k_ ≠ (.slice Ao38 t214.length co38 : Value).ownBlock ∧ some k_ ≠ (.slice Ao39 t219.length co39 : Value).ownBlock) (Kd.R_keptB (HO203.out) hkp (fun k_ hk_ hs_ => (hk_.1.1.2) hs_)) (fun k_ hk_ => ⟨hk_.1.1.2, hk_.1.2⟩)); have n1_ := Aside0.mk (Kd.R_mono (ok' := fun k_ => some k_ ≠ (.slice Ao37 t200.length co37 : Value).ownBlock ∧ some k_ ≠ (.slice Ao39 t219.length co39 : Value).ownBlock) (Kd.R_keptB (HO218.out) hkp (fun k_ hk_ hs_ => (hk_.1.1.2) hs_)) (fun k_ hk_ => ⟨hk_.1.1.2, hk_.1.2⟩)); have n2_ := Aside0.mk (Kd.R_mono (ok' := fun k_ => some k_ ≠ (.slice Ao37 t200.length co37 : Value).ownBlock ∧ some k_ ≠ (.slice Ao38 t214.length co38 : Value).ownBlock) (Kd.R_keptB (HO223.out) hkp (fun k_ hk_ hs_ => (hk_.1.1.2) hs_)) (fun k_ hk_ => ⟨hk_.1.1.2, hk_.1.2⟩)); have n3_ := Aside0.mk (hb); clear HO203; clear HO218; clear HO223; clear HB; clear HO199; have HO203 := n0_; have HO218 := n1_; have HO223 := n2_; have HB := n3_; clear n0_ n1_ n2_ n3_; (try clear hb); (try clear hkp)) | ((with_reducible refine gate_callee (f := 18) rfl ?_); refine goesL_ (some 123) rfl rfl Tryd.func18 (by kernel_rfl) rfl #[.slice Ao38 t214.length co38] rfl (by (try simp only [List.map_toArray, List.map_cons, List.map_nil]); first | done | rfl | (simp only [List.length_drop, List.length_take]; rfl)) ?_; (with_reducible refine (purlinlaw0_OverTexts.calls k (fun k_ => some k_ = (.slice Ao38 t214.length co38 : Value).ownBlock) (.slice Ao38 t214.length co38) t214  w _ ?side1 ?side2 A25.out).mono ?_); (case side1 => repeat (first | (with_reducible first | exact HB.out | apply below_alloc | apply pw_below_drewN | apply below_drew1) | exact HB.out)); (case side2 => exact Kd.R_tight rfl HO218.out); rintro e w41 ⟨rfl, hb, hkp⟩; refine ⟨_, rfl, ?_⟩; have n0_ := Aside0.mk (Kd.R_mono (ok' := fun k_ => some k_ ≠ (.slice Ao39 t219.length co39 : Value).ownBlock) (Kd.R_keptB (HO203.out) hkp (fun k_ hk_ hs_ => (hk_.1) hs_)) (fun k_ hk_ => hk_.1.2)); have n1_ := Aside0.mk (Kd.R_mono (ok' := fun k_ => some k_ ≠ (.slice Ao37 t200.length co37 : Value).ownBlock) (Kd.R_keptB (HO223.out) hkp (fun k_ hk_ hs_ => (hk_.2) hs_)) (fun k_ hk_ => hk_.1.1)); have n2_ := Aside0.mk (hb); clear HO203; clear HO223; clear HB; clear HO218; have HO203 := n0_; have HO223 := n1_; have HB := n2_; clear n0_ n1_ n2_; (try clear hb); (try clear hkp)) | (go_at_call 8; (with_reducible refine (purlinlaw12_awake.calls k  t226 _ ?side1 A27.out).mono ?_); (case side1 => exact G_below hG (by repeat (first | (with_reducible first | exact HB.out | apply below_alloc | apply pw_below_drewN | apply below_drew1) | exact HB.out))); rintro e w42 ⟨rfl, hb⟩; have n0_ := Aside0.mk (Kd.R_below (by (with_reducible repeat (first | apply Kd.R_alloc | apply Kd.R_drewN | apply Kd.R_drew)); exact HO203.out) hb); have n1_ := Aside0.mk (Kd.R_below (by (with_reducible repeat (first | apply Kd.R_alloc | apply Kd.R_drewN | apply Kd.R_drew)); exact HO223.out) hb); have n2_ := Aside0.mk (below_step (by repeat (first | (with_reducible first | exact HB.out | apply below_alloc | apply pw_below_drewN | apply below_drew1) | exact HB.out)) hb); clear HO203; clear HO223; clear HB; have HO203 := n0_; have HO223 := n1_; have HB := n2_; clear n0_ n1_ n2_; (try clear hb); (try clear hb2); (try clear hk); (try clear hi)))
                        go_ret
                        exact ⟨by first | rfl | (simp [errW_none, errW_some] <;> rfl) | (simp [*, errW_none, errW_some] <;> rfl), by repeat (first | (with_reducible first | exact HB.out | apply below_alloc | apply pw_below_drewN | apply below_drew1) | exact HB.out)⟩
                      · rw [if_neg c26] at H
                        have c26b0 : (t216 == t221) = false := beq_eq_false_iff_ne.mpr c26
                        have c26b1 : (t216 != t221) = true := bne_iff_ne.mpr c26
                        exact absurd ((Option.some.inj H).trans hrT.out) (by simp)
                    · rw [if_neg c23] at H
                      have c23b0 : (t215 == t220) = false := by simpa using c23
                      (try (have c23b1 : decide (t215 = t220) = false := by simpa using c23))
                      (try (have c23b2 : (t215 == t220) = false := by simpa using c23))
                      (try (have c23b3 : ¬ (t215 = t220) := by simpa using c23))
                      clear c23
                      replace H := Option.bind_eq_some_iff.mp H
                      obtain ⟨_, A430, H⟩ := H
                      replace H : ((purlinlaw0_OverTexts.f k t214).bind fun _ => (some false)) = some r := H
                      have A43 := Aside0.mk A430
                      clear A430
                      replace H := Option.bind_eq_some_iff.mp H
                      obtain ⟨_, A440, H⟩ := H
                      replace H : (some false) = some r := H
                      have A44 := Aside0.mk A440
                      clear A440
                      exact absurd ((Option.some.inj H).trans hrT.out) (by simp)
                  · replace c22 := Bool.eq_false_iff.mpr c22
                    subst c22
                    have H1 : ((purlinlaw0_OverTexts.f k t196).bind fun _ => ((purlinlaw0_OverTexts.f k t214).bind fun _ => (some false))) = some r := by rw [if_neg (show ¬ (false = true) by decide)] at H; exact H
                    clear H
                    have H := H1
                    clear H1
                    replace H := Option.bind_eq_some_iff.mp H
                    obtain ⟨_, A450, H⟩ := H
                    replace H : ((purlinlaw0_OverTexts.f k t214).bind fun _ => (some false)) = some r := H
                    have A45 := Aside0.mk A450
                    clear A450
                    replace H := Option.bind_eq_some_iff.mp H
                    obtain ⟨_, A460, H⟩ := H
                    replace H : (some false) = some r := H
                    have A46 := Aside0.mk A460
                    clear A460
                    exact absurd ((Option.some.inj H).trans hrT.out) (by simp)
                · rw [if_neg c20] at H
                  have c20b0 : (t210 == t213) = false := beq_eq_false_iff_ne.mpr c20
                  have c20b1 : (t210 != t213) = true := bne_iff_ne.mpr c20
                  replace H := Option.bind_eq_some_iff.mp H
                  obtain ⟨_, A470, H⟩ := H
                  replace H : ((purlinlaw0_OverTexts.f k t214).bind fun _ => (some false)) = some r := H
                  have A47 := Aside0.mk A470
                  clear A470
                  replace H := Option.bind_eq_some_iff.mp H
                  obtain ⟨_, A480, H⟩ := H
                  replace H : (some false) = some r := H
                  have A48 := Aside0.mk A480
                  clear A480
                  exact absurd ((Option.some.inj H).trans hrT.out) (by simp)
              · rw [if_neg c19] at H
                have c19b0 : (t209.toList == t212.toList) = false := beq_eq_false_iff_ne.mpr c19
                have c19b1 : (t209.toList != t212.toList) = true := bne_iff_ne.mpr c19
                replace H := Option.bind_eq_some_iff.mp H
                obtain ⟨_, A490, H⟩ := H
                replace H : ((purlinlaw0_OverTexts.f k t214).bind fun _ => (some false)) = some r := H
                have A49 := Aside0.mk A490
                clear A490
                replace H := Option.bind_eq_some_iff.mp H
                obtain ⟨_, A500, H⟩ := H
                replace H : (some false) = some r := H
                have A50 := Aside0.mk A500
                clear A500
                exact absurd ((Option.some.inj H).trans hrT.out) (by simp)
            · rw [if_neg c18] at H
              have c18b0 : (t208.toList == t211.toList) = false := beq_eq_false_iff_ne.mpr c18
              have c18b1 : (t208.toList != t211.toList) = true := bne_iff_ne.mpr c18
              replace H := Option.bind_eq_some_iff.mp H
              obtain ⟨_, A510, H⟩ := H
              replace H : ((purlinlaw0_OverTexts.f k t214).bind fun _ => (some false)) = some r := H
              have A51 := Aside0.mk A510
              clear A510
              replace H := Option.bind_eq_some_iff.mp H
              obtain ⟨_, A520, H⟩ := H
              replace H : (some false) = some r := H
              have A52 := Aside0.mk A520
              clear A520
              exact absurd ((Option.some.inj H).trans hrT.out) (by simp)
          · rw [if_neg c17] at H
            have c17b0 : (t205 == t207) = false := beq_eq_false_iff_ne.mpr c17
            have c17b1 : (t205 != t207) = true := bne_iff_ne.mpr c17
            replace H := Option.bind_eq_some_iff.mp H
            obtain ⟨_, A530, H⟩ := H
            replace H : ((purlinlaw0_OverTexts.f k t214).bind fun _ => (some false)) = some r := H
            have A53 := Aside0.mk A530
            clear A530
            replace H := Option.bind_eq_some_iff.mp H
            obtain ⟨_, A540, H⟩ := H
            replace H : (some false) = some r := H
            have A54 := Aside0.mk A540
            clear A540
            exact absurd ((Option.some.inj H).trans hrT.out) (by simp)
        · rw [if_neg c16] at H
          have c16b0 : (t204.toList == t206.toList) = false := beq_eq_false_iff_ne.mpr c16
          have c16b1 : (t204.toList != t206.toList) = true := bne_iff_ne.mpr c16
          replace H := Option.bind_eq_some_iff.mp H
          obtain ⟨_, A550, H⟩ := H
          replace H : ((purlinlaw0_OverTexts.f k t214).bind fun _ => (some false)) = some r := H
          have A55 := Aside0.mk A550
          clear A550
          replace H := Option.bind_eq_some_iff.mp H
          obtain ⟨_, A560, H⟩ := H
          replace H : (some false) = some r := H
          have A56 := Aside0.mk A560
          clear A560
          exact absurd ((Option.some.inj H).trans hrT.out) (by simp)
      · rw [if_neg c15] at H
        have c15b0 : (t197 == t201) = false := beq_eq_false_iff_ne.mpr c15
        have c15b1 : (t197 != t201) = true := bne_iff_ne.mpr c15
        replace H := Option.bind_eq_some_iff.mp H
        obtain ⟨_, A570, H⟩ := H
        replace H : ((purlinlaw0_OverTexts.f k t214).bind fun _ => (some false)) = some r := H
        have A57 := Aside0.mk A570
        clear A570
        replace H := Option.bind_eq_some_iff.mp H
        obtain ⟨_, A580, H⟩ := H
        replace H : (some false) = some r := H
        have A58 := Aside0.mk A580
        clear A580
        exact absurd ((Option.some.inj H).trans hrT.out) (by simp)
    · replace c14 := Bool.eq_false_iff.mpr c14
      subst c14
      have H1 : ((purlinlaw0_OverTexts.f k t196).bind fun _ => ((purlinlaw0_OverTexts.f k t214).bind fun _ => (some false))) = some r := by rw [if_neg (show ¬ (false = true) by decide)] at H; exact H
      clear H
      have H := H1
      clear H1
      replace H := Option.bind_eq_some_iff.mp H
      obtain ⟨_, A590, H⟩ := H
      replace H : ((purlinlaw0_OverTexts.f k t214).bind fun _ => (some false)) = some r := H
      have A59 := Aside0.mk A590
      clear A590
      replace H := Option.bind_eq_some_iff.mp H
      obtain ⟨_, A600, H⟩ := H
      replace H : (some false) = some r := H
      have A60 := Aside0.mk A600
      clear A600
      exact absurd ((Option.some.inj H).trans hrT.out) (by simp)

/-- THE ONE PURE STATEMENT of purlinlaw12_PathTells: yours. -/
def purlinlaw12_PathTells.Pure : Prop := ∀ (a0 : ByteArray), a0.size ≤ 140737488351232 → ∃ k, purlinlaw12_PathTells.f k a0 = some true
theorem purlinlaw12_PathTells.walk (P : purlinlaw12_PathTells.Pure) (a0 : ByteArray) (w : World) (hG : G w) (w0 : a0.size ≤ 140737488351232) :
    Calls Tryd.prog 3 #[.string a0] w fun e w' => e = .returned (.bool true) ∧ Below w.heap.size w w' := by
  obtain ⟨k, h⟩ := P a0 w0
  refine (purlinlaw12_PathTells.calls k a0 true w hG (Aside0.mk rfl) h).mono ?_
  rintro e w' ⟨rfl, hd⟩
  exact ⟨rfl, hd⟩

end Go.Proofs.YtblejdnjemcpcaaDoor.PPathTells
