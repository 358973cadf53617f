-- made by the kit's print, one law, no byte bound
import Derived.Test.YtblejdnjemcpcaaDoorPPathCleanx0
import Derived.Test.YtblejdnjemcpcaaDoorPPathCleanx1
namespace Go.Proofs.YtblejdnjemcpcaaDoor.PPathClean
open Go.RowKit Go.Proofs.YtblejdnjemcpcaaDoorW.PrintWords Go.Proofs.YtblejdnjemcpcaaDoorW.PrintLast Go.Proofs.YtblejdnjemcpcaaDoorW.PrintMore Go.Proofs.YtblejdnjemcpcaaDoor.Hand
attribute [local go_sem] max2_int min2_int max_two min_two max_three min_three max_four min_four   -- for this text's walks alone
set_option linter.unusedVariables false
set_option linter.unusedSimpArgs false

/-! ### purlinlaw12_PathClean: function 4 -/
def purlinlaw12_PathClean.l0 : Nat → ByteArray → List ByteArray → List ByteArray → Int → ByteArray → Int → Int → Option (Bool)
  | 0, _, _, _, _, _, _, _ => none
  | k + 1, x3, x5, x7, x8, x9, x10, x11 => if x11 < (x7.length : Int) then (if 0 ≤ x11 then (if (rdOf ByteArray.empty x7 x11).toList = ([] : List UInt8) then (some false) else (if (rdOf ByteArray.empty x7 x11).toList = ([46] : List UInt8) then (some false) else (if (rdOf ByteArray.empty x7 x11).toList = ([46, 46] : List UInt8) then (some false) else (if ((rdOf ByteArray.empty x7 x11).size : Int) > 24 then (some false) else (purlinlaw12_PathClean.l0 k x3 x5 x7 x8 x9 x10 (wrap64 (x11 + 1))))))) else (none)) else (if x8 = 0 then (if x10 = 0 then (if x9.toList = x3.toList then ((path_Join.f x7).bind fun t164 => (if t164.toList = x3.toList then (if (x7.length : Int) ≤ (x5.length : Int) then ((purlinlaw12_awake.f k).bind fun t165 => (some t165)) else (some false)) else (some false))) else (some false)) else (some false)) else (some false))
def purlinlaw12_PathClean.f (k : Nat) (a0 : ByteArray) : Option (Bool) := if (a0.size : Int) > 250 then ((purlinlaw12_awake.f k).bind fun t146 => (some t146)) else ((path_Clean.f a0).bind fun bt147 => ((path_Split.f a0).bind fun bt149 => (if bt147.2 = bt149.2 then (if bt147.2 = 0 then ((path_Split.f bt147.1).bind fun bt154 => ((path_Clean.f bt147.1).bind fun bt158 => (purlinlaw12_PathClean.l0 k bt147.1 bt149.1 bt154.1 bt154.2 bt158.1 bt158.2 0))) else (if bt147.1.toList = ([] : List UInt8) then (if (bt149.1.length : Int) = 0 then ((purlinlaw12_awake.f k).bind fun t153 => (some t153)) else (some false)) else (some false))) else (some false))))
theorem purlinlaw12_PathClean.mono_l : ∀ k, (∀ y0 y1 y2 y3 y4 y5 y6, LeO (purlinlaw12_PathClean.l0 k y0 y1 y2 y3 y4 y5 y6) (purlinlaw12_PathClean.l0 (k + 1) y0 y1 y2 y3 y4 y5 y6))
  | 0 => fun _ _ _ _ _ _ _ r h => by simp [purlinlaw12_PathClean.l0] at h
  | k + 1 => by
    have ih0 := purlinlaw12_PathClean.mono_l k
    · intro y0 y1 y2 y3 y4 y5 y6
      unfold purlinlaw12_PathClean.l0
      repeat' first
      | (with_reducible exact ih0 _ _ _ _ _ _ _)
      | (with_reducible exact purlinlaw12_awake.mono _)
      | (with_reducible exact LeO.refl _)
      | (with_reducible exact LeO.none _)
      | (with_reducible refine LeO.ite ?_ ?_)
      | (with_reducible refine LeO.bind ?_ (fun _ => ?_))
      | exact ih0 _ _ _ _ _ _ _
      | exact purlinlaw12_awake.mono _
      | exact LeO.none _
      | refine LeO.ite ?_ ?_
      | refine LeO.bind ?_ (fun _ => ?_)
theorem purlinlaw12_PathClean.mono : ∀ a0 k, LeO (purlinlaw12_PathClean.f k a0) (purlinlaw12_PathClean.f (k + 1) a0) := by
  intro a0 k
  have ih0 := purlinlaw12_PathClean.mono_l k
  unfold purlinlaw12_PathClean.f
  repeat' first
      | (with_reducible exact ih0 _ _ _ _ _ _ _)
      | (with_reducible exact purlinlaw12_awake.mono _)
      | (with_reducible exact LeO.refl _)
      | (with_reducible exact LeO.none _)
      | (with_reducible refine LeO.ite ?_ ?_)
      | (with_reducible refine LeO.bind ?_ (fun _ => ?_))
      | exact ih0 _ _ _ _ _ _ _
      | exact purlinlaw12_awake.mono _
      | exact LeO.none _
      | refine LeO.ite ?_ ?_
      | refine LeO.bind ?_ (fun _ => ?_)
set_option maxHeartbeats 8000000 in
set_option maxRecDepth 100000 in
theorem purlinlaw12_PathClean.calls (k : Nat) (a0 : ByteArray) (r : Bool) (w : World) (hG : G w) (hrT : Aside0 (r = true)) (h : purlinlaw12_PathClean.f k a0 = some r) :
    Calls Tryd.prog 4 #[.string a0] w fun e w' => e = .returned (.bool r) ∧ Below w.heap.size w w' := by
  have HB := Aside0.mk (Below.refl w.heap.size w)
  have H : (if (a0.size : Int) > 250 then ((purlinlaw12_awake.f k).bind fun t146 => (some t146)) else ((path_Clean.f a0).bind fun bt147 => ((path_Split.f a0).bind fun bt149 => (if bt147.2 = bt149.2 then (if bt147.2 = 0 then ((path_Split.f bt147.1).bind fun bt154 => ((path_Clean.f bt147.1).bind fun bt158 => (purlinlaw12_PathClean.l0 k bt147.1 bt149.1 bt154.1 bt154.2 bt158.1 bt158.2 0))) else (if bt147.1.toList = ([] : List UInt8) then (if (bt149.1.length : Int) = 0 then ((purlinlaw12_awake.f k).bind fun t153 => (some t153)) else (some false)) else (some false))) else (some false))))) = some r := h
  clear h
  by_cases c2 : (a0.size : Int) > 250
  · rw [if_pos c2] at H
    have c2b0 : decide (250 < (a0.size : Int)) = true := decide_eq_true c2
    have c2b1 : decide (250 < a0.size) = true := decide_eq_true (by omega)
    clear c2
    replace H := Option.bind_eq_some_iff.mp H
    obtain ⟨t146, A30, H⟩ := H
    replace H : (some t146) = some r := H
    have A3 := Aside0.mk A30
    clear A30
    obtain rfl := Option.some.inj H
    go_enter Tryd.func4, Tryd.ntmps4
    go_wp2_with (first | ((with_reducible refine gate_callee (f := 8) rfl ?_); refine goesL_ (some 15) rfl rfl Tryd.func8 (by kernel_rfl) rfl #[] rfl (by (try simp only [List.map_toArray, List.map_cons, List.map_nil]); first | done | rfl | (simp only [List.length_drop, List.length_take]; rfl)) ?_; (with_reducible refine (purlinlaw12_awake.calls k  t146 _ ?side1 A3.out).mono ?_); (case side1 => exact G_below hG (by repeat (first | (with_reducible first | exact HB.out | apply below_alloc | apply pw_below_drewN | apply below_drew1) | exact HB.out))); rintro e w4 ⟨rfl, hb⟩; refine ⟨_, rfl, ?_⟩; have n0_ := Aside0.mk (below_step (by repeat (first | (with_reducible first | exact HB.out | apply below_alloc | apply pw_below_drewN | apply below_drew1) | exact HB.out)) hb); clear HB; have HB := n0_; clear n0_; (try clear hb); (try clear hb2); (try clear hk); (try clear hi)))
    go_ret
    exact ⟨by first | rfl | (simp [errW_none, errW_some] <;> rfl) | (simp [*, errW_none, errW_some] <;> rfl), by repeat (first | (with_reducible first | exact HB.out | apply below_alloc | apply pw_below_drewN | apply below_drew1) | exact HB.out)⟩
  · rw [if_neg c2] at H
    have c2b0 : decide (250 < (a0.size : Int)) = false := decide_eq_false c2
    have c2b1 : decide (250 < a0.size) = false := decide_eq_false (by omega)
    clear c2
    replace H := Option.bind_eq_some_iff.mp H
    obtain ⟨⟨t147, t148⟩, A50, H⟩ := H
    replace H : ((path_Split.f a0).bind fun bt149 => (if t148 = bt149.2 then (if t148 = 0 then ((path_Split.f t147).bind fun bt154 => ((path_Clean.f t147).bind fun bt158 => (purlinlaw12_PathClean.l0 k t147 bt149.1 bt154.1 bt154.2 bt158.1 bt158.2 0))) else (if t147.toList = ([] : List UInt8) then (if (bt149.1.length : Int) = 0 then ((purlinlaw12_awake.f k).bind fun t153 => (some t153)) else (some false)) else (some false))) else (some false))) = some r := H
    have A5 := Aside0.mk A50
    clear A50
    replace H := Option.bind_eq_some_iff.mp H
    obtain ⟨⟨t149, t150⟩, A60, H⟩ := H
    replace H : (if t148 = t150 then (if t148 = 0 then ((path_Split.f t147).bind fun bt154 => ((path_Clean.f t147).bind fun bt158 => (purlinlaw12_PathClean.l0 k t147 t149 bt154.1 bt154.2 bt158.1 bt158.2 0))) else (if t147.toList = ([] : List UInt8) then (if (t149.length : Int) = 0 then ((purlinlaw12_awake.f k).bind fun t153 => (some t153)) else (some false)) else (some false))) else (some false)) = some r := H
    have A6 := Aside0.mk A60
    clear A60
    by_cases c7 : t148 = t150
    · rw [if_pos c7] at H
      have c7b0 : (t148 == t150) = true := beq_iff_eq.mpr c7
      have c7b1 : (t148 != t150) = false := bne_eq_false_iff_eq.mpr c7
      clear c7
      by_cases c8 : t148 = 0
      · rw [if_pos c8] at H
        have c8b0 : (t148 == 0) = true := beq_iff_eq.mpr c8
        have c8b1 : (t148 != 0) = false := bne_eq_false_iff_eq.mpr c8
        clear c8
        replace H := Option.bind_eq_some_iff.mp H
        obtain ⟨⟨t154, t155⟩, A90, H⟩ := H
        replace H : ((path_Clean.f t147).bind fun bt158 => (purlinlaw12_PathClean.l0 k t147 t149 t154 t155 bt158.1 bt158.2 0)) = some r := H
        have A9 := Aside0.mk A90
        clear A90
        replace H := Option.bind_eq_some_iff.mp H
        obtain ⟨⟨t158, t159⟩, A100, H⟩ := H
        replace H : (purlinlaw12_PathClean.l0 k t147 t149 t154 t155 t158 t159 0) = some r := H
        have A10 := Aside0.mk A100
        clear A100
        have H' := Aside0.mk H
        clear H
        go_enter Tryd.func4, Tryd.ntmps4
        go_wp2_with (first | ((with_reducible refine gate_callee (f := 11) rfl ?_); refine goesL_ (some 18) rfl rfl Tryd.func11 (by kernel_rfl) rfl #[.string a0] rfl (by (try simp only [List.map_toArray, List.map_cons, List.map_nil]); first | done | rfl | (simp only [List.length_drop, List.length_take]; rfl)) ?_; (with_reducible refine (path_Clean.calls a0 t147 t148 _ ?side1 A5.out).mono ?_); (case side1 => exact G_below hG (by repeat (first | (with_reducible first | exact HB.out | apply below_alloc | apply pw_below_drewN | apply below_drew1) | exact HB.out))); rintro e w11 ⟨rfl, hb⟩; refine ⟨_, rfl, ?_⟩; have n0_ := Aside0.mk (below_step (by repeat (first | (with_reducible first | exact HB.out | apply below_alloc | apply pw_below_drewN | apply below_drew1) | exact HB.out)) hb); clear HB; have HB := n0_; clear n0_; (try clear hb); (try clear hb2); (try clear hk); (try clear hi)) | ((with_reducible refine gate_callee (f := 9) rfl ?_); refine goesL_ (some 23) rfl rfl Tryd.func9 (by kernel_rfl) rfl #[.string a0] rfl (by (try simp only [List.map_toArray, List.map_cons, List.map_nil]); first | done | rfl | (simp only [List.length_drop, List.length_take]; rfl)) ?_; (with_reducible refine (path_Split.calls a0 t149 t150 _ ?side1 A6.out).mono ?_); (case side1 => exact G_below hG (by repeat (first | (with_reducible first | exact HB.out | apply below_alloc | apply pw_below_drewN | apply below_drew1) | exact HB.out))); rintro e w12 ⟨v151, rfl, ho0, hb⟩; refine ⟨_, rfl, ?_⟩; have n0_ := Aside0.mk (Kd.R_lower ho0 (below_size (by repeat (first | (with_reducible first | exact HB.out | apply below_alloc | apply pw_below_drewN | apply below_drew1) | exact HB.out)))); have n1_ := Aside0.mk (below_step (by repeat (first | (with_reducible first | exact HB.out | apply below_alloc | apply pw_below_drewN | apply below_drew1) | exact HB.out)) hb); clear HB; have HO152 := n0_; have HB := n1_; clear n0_ n1_; (try clear hb); (try clear hb2); (try clear hk); (try clear hi); (try clear ho0)) | ((with_reducible refine gate_callee (f := 9) rfl ?_); refine goesL_ (some 43) rfl rfl Tryd.func9 (by kernel_rfl) rfl #[.string t147] rfl (by (try simp only [List.map_toArray, List.map_cons, List.map_nil]); first | done | rfl | (simp only [List.length_drop, List.length_take]; rfl)) ?_; (with_reducible refine (path_Split.calls t147 t154 t155 _ ?side1 A9.out).mono ?_); (case side1 => exact G_below hG (by repeat (first | (with_reducible first | exact HB.out | apply below_alloc | apply pw_below_drewN | apply below_drew1) | exact HB.out))); rintro e w13 ⟨v156, rfl, ho0, hb⟩; refine ⟨_, rfl, ?_⟩; have n0_ := Aside0.mk (Kd.R_elder' (by (with_reducible repeat (first | apply Kd.R_alloc | apply Kd.R_drewN | apply Kd.R_drew)); exact HO152.out) (Kd.R_base ho0) hb); have n1_ := Aside0.mk (Kd.R_lower (Kd.R_new' ho0 (Kd.R_lt (by (with_reducible repeat (first | apply Kd.R_alloc | apply Kd.R_drewN | apply Kd.R_drew)); exact HO152.out))) (below_size (by repeat (first | (with_reducible first | exact HB.out | apply below_alloc | apply pw_below_drewN | apply below_drew1) | exact HB.out)))); have n2_ := Aside0.mk (below_step (by repeat (first | (with_reducible first | exact HB.out | apply below_alloc | apply pw_below_drewN | apply below_drew1) | exact HB.out)) hb); clear HO152; clear HB; have HO152 := n0_; have HO157 := n1_; have HB := n2_; clear n0_ n1_ n2_; (try clear hb); (try clear hb2); (try clear hk); (try clear hi); (try clear ho0)) | ((with_reducible refine gate_callee (f := 11) rfl ?_); refine goesL_ (some 48) rfl rfl Tryd.func11 (by kernel_rfl) rfl #[.string t147] rfl (by (try simp only [List.map_toArray, List.map_cons, List.map_nil]); first | done | rfl | (simp only [List.length_drop, List.length_take]; rfl)) ?_; (with_reducible refine (path_Clean.calls t147 t158 t159 _ ?side1 A10.out).mono ?_); (case side1 => exact G_below hG (by repeat (first | (with_reducible first | exact HB.out | apply below_alloc | apply pw_below_drewN | apply below_drew1) | exact HB.out))); rintro e w14 ⟨rfl, hb⟩; refine ⟨_, rfl, ?_⟩; have n0_ := Aside0.mk (Kd.R_below (by (with_reducible repeat (first | apply Kd.R_alloc | apply Kd.R_drewN | apply Kd.R_drew)); exact HO152.out) hb); have n1_ := Aside0.mk (Kd.R_below (by (with_reducible repeat (first | apply Kd.R_alloc | apply Kd.R_drewN | apply Kd.R_drew)); exact HO157.out) hb); have n2_ := Aside0.mk (below_step (by repeat (first | (with_reducible first | exact HB.out | apply below_alloc | apply pw_below_drewN | apply below_drew1) | exact HB.out)) hb); clear HO152; clear HO157; clear HB; have HO152 := n0_; have HO157 := n1_; have HB := n2_; clear n0_ n1_ n2_; (try clear hb); (try clear hb2); (try clear hk); (try clear hi)))
        go_loopg [11] k (fun kq v11 w' => ∃ (x11_1 : Int), v11 = .int .i64 x11_1 ∧ Aside0 (purlinlaw12_PathClean.l0 kq t147 t149 t154 t155 t158 t159 x11_1 = some r) ∧ Aside0 (kq ≤ k) ∧ Aside0 (Kd.R Kd.string 9 w' w.heap.size (fun k_ => some k_ ≠ (v156 : Value).ownBlock) v151 t149) ∧ Aside0 (Kd.R Kd.string 9 w' w.heap.size (fun k_ => some k_ ≠ (v151 : Value).ownBlock) v156 t154) ∧ Aside0 (Below w.heap.size w w'))
        case atStart => exact ⟨(0), (by first | rfl | (simp; done) | (simp [*]; done)), H', ⟨Nat.le_refl _⟩, ⟨by (with_reducible repeat (first | apply Kd.R_alloc | apply Kd.R_drewN | apply Kd.R_drew)); exact Kd.R_mono HO152.out (fun _ hk => hk.2)⟩, ⟨by (with_reducible repeat (first | apply Kd.R_alloc | apply Kd.R_drewN | apply Kd.R_drew)); exact Kd.R_mono HO157.out (fun _ hk => hk.2)⟩, ⟨by repeat (first | (with_reducible first | exact HB.out | apply below_alloc | apply pw_below_drewN | apply below_drew1) | exact HB.out)⟩⟩
        case round =>
          clear H'
          try clear c1
          try clear c2
          try clear c2b0
          try clear c2b1
          try clear p2
          try clear c4
          try clear c7
          try clear c7b0
          try clear c7b1
          try clear c8
          try clear c8b0
          try clear c8b1
          try clear c9
          try clear c11
          obtain ⟨x11_1, rfl, HA, HK1, HO_5, HO_7, HB⟩ := hrel
          cases gk with
          | zero => exact absurd HA.out (by simp [purlinlaw12_PathClean.l0])
          | succ k1 =>
            have H := HA.out
            clear HA
            simp only [purlinlaw12_PathClean.l0] at H
            by_cases c15 : x11_1 < (t154.length : Int)
            · rw [if_pos c15] at H
              have c15b0 : decide (x11_1 < (t154.length : Int)) = true := decide_eq_true c15
              clear c15
              by_cases c16 : 0 ≤ x11_1
              · rw [if_pos c16] at H
                have c16b0 : decide (0 ≤ x11_1) = true := decide_eq_true c16
                clear c16
                by_cases c17 : (rdOf ByteArray.empty t154 x11_1).toList = ([] : List UInt8)
                · rw [if_pos c17] at H
                  have c17b0 : ((rdOf ByteArray.empty t154 x11_1).toList == ([] : List UInt8)) = true := beq_iff_eq.mpr c17
                  have c17b1 : ((rdOf ByteArray.empty t154 x11_1).toList != ([] : List UInt8)) = false := bne_eq_false_iff_eq.mpr c17
                  clear c17
                  exact absurd ((Option.some.inj H).trans hrT.out) (by simp)
                · rw [if_neg c17] at H
                  have c17b0 : ((rdOf ByteArray.empty t154 x11_1).toList == ([] : List UInt8)) = false := beq_eq_false_iff_ne.mpr c17
                  have c17b1 : ((rdOf ByteArray.empty t154 x11_1).toList != ([] : List UInt8)) = true := bne_iff_ne.mpr c17
                  by_cases c18 : (rdOf ByteArray.empty t154 x11_1).toList = ([46] : List UInt8)
                  · rw [if_pos c18] at H
                    have c18b0 : ((rdOf ByteArray.empty t154 x11_1).toList == ([46] : List UInt8)) = true := beq_iff_eq.mpr c18
                    have c18b1 : ((rdOf ByteArray.empty t154 x11_1).toList != ([46] : List UInt8)) = false := bne_eq_false_iff_eq.mpr c18
                    clear c18
                    exact absurd ((Option.some.inj H).trans hrT.out) (by simp)
                  · rw [if_neg c18] at H
                    have c18b0 : ((rdOf ByteArray.empty t154 x11_1).toList == ([46] : List UInt8)) = false := beq_eq_false_iff_ne.mpr c18
                    have c18b1 : ((rdOf ByteArray.empty t154 x11_1).toList != ([46] : List UInt8)) = true := bne_iff_ne.mpr c18
                    by_cases c19 : (rdOf ByteArray.empty t154 x11_1).toList = ([46, 46] : List UInt8)
                    · rw [if_pos c19] at H
                      have c19b0 : ((rdOf ByteArray.empty t154 x11_1).toList == ([46, 46] : List UInt8)) = true := beq_iff_eq.mpr c19
                      have c19b1 : ((rdOf ByteArray.empty t154 x11_1).toList != ([46, 46] : List UInt8)) = false := bne_eq_false_iff_eq.mpr c19
                      clear c19
                      exact absurd ((Option.some.inj H).trans hrT.out) (by simp)
                    · rw [if_neg c19] at H
                      have c19b0 : ((rdOf ByteArray.empty t154 x11_1).toList == ([46, 46] : List UInt8)) = false := beq_eq_false_iff_ne.mpr c19
                      have c19b1 : ((rdOf ByteArray.empty t154 x11_1).toList != ([46, 46] : List UInt8)) = true := bne_iff_ne.mpr c19
                      by_cases c20 : ((rdOf ByteArray.empty t154 x11_1).size : Int) > 24
                      · rw [if_pos c20] at H
                        have c20b0 : decide (24 < ((rdOf ByteArray.empty t154 x11_1).size : Int)) = true := decide_eq_true c20
                        have c20b1 : decide (24 < (rdOf ByteArray.empty t154 x11_1).size) = true := decide_eq_true (by omega)
                        clear c20
                        exact absurd ((Option.some.inj H).trans hrT.out) (by simp)
                      · rw [if_neg c20] at H
                        have c20b0 : decide (24 < ((rdOf ByteArray.empty t154 x11_1).size : Int)) = false := decide_eq_false c20
                        have c20b1 : decide (24 < (rdOf ByteArray.empty t154 x11_1).size) = false := decide_eq_false (by omega)
                        clear c20
                        have H' := Aside0.mk H
                        clear H
                        obtain ⟨Ao21, co21, eo21⟩ := Kd.R_slice HO_7.out
                        subst eo21
                        have p160 : 0 ≤ (x11_1 : Int) := of_decide_eq_true (by first | (with_reducible assumption) | assumption)
                        have q160 : x11_1 < (t154.length : Int) := of_decide_eq_true (by first | (with_reducible assumption) | assumption)
                        obtain ⟨ad160, e160, hx160_0⟩ := Kd.at_string (Kd.R_reads' HO_7.out).2.2 x11_1 p160 q160
                        cases e160
                        replace p160 := eq_true p160
                        replace q160 := eq_true q160
                        have p161 : 0 ≤ (x11_1 : Int) := of_decide_eq_true (by first | (with_reducible assumption) | assumption)
                        have q161 : x11_1 < (t154.length : Int) := of_decide_eq_true (by first | (with_reducible assumption) | assumption)
                        obtain ⟨ad161, e161, hx161_0⟩ := Kd.at_string (Kd.R_reads' HO_7.out).2.2 x11_1 p161 q161
                        obtain rfl : ad160 = ad161 := (by injection e161)
                        replace p161 := eq_true p161
                        replace q161 := eq_true q161
                        have p162 : 0 ≤ (x11_1 : Int) := of_decide_eq_true (by first | (with_reducible assumption) | assumption)
                        have q162 : x11_1 < (t154.length : Int) := of_decide_eq_true (by first | (with_reducible assumption) | assumption)
                        obtain ⟨ad162, e162, hx162_0⟩ := Kd.at_string (Kd.R_reads' HO_7.out).2.2 x11_1 p162 q162
                        obtain rfl : ad160 = ad162 := (by injection e162)
                        replace p162 := eq_true p162
                        replace q162 := eq_true q162
                        have p163 : 0 ≤ (x11_1 : Int) := of_decide_eq_true (by first | (with_reducible assumption) | assumption)
                        have q163 : x11_1 < (t154.length : Int) := of_decide_eq_true (by first | (with_reducible assumption) | assumption)
                        obtain ⟨ad163, e163, hx163_0⟩ := Kd.at_string (Kd.R_reads' HO_7.out).2.2 x11_1 p163 q163
                        obtain rfl : ad160 = ad163 := (by injection e163)
                        replace p163 := eq_true p163
                        replace q163 := eq_true q163
                        go_wp2
                        go_roundg k1
                        case measure => have := HK1.out; omega
                        case rel => exact ⟨(wrap64 (x11_1 + 1)), (by first | rfl | (simp; done) | (simp [*]; done)), H', ⟨by have := HK1.out; omega⟩, ⟨by (with_reducible repeat (first | apply Kd.R_alloc | apply Kd.R_drewN | apply Kd.R_drew)); exact HO_5.out⟩, ⟨by (with_reducible repeat (first | apply Kd.R_alloc | apply Kd.R_drewN | apply Kd.R_drew)); exact HO_7.out⟩, ⟨by repeat (first | (with_reducible first | exact HB.out | apply below_alloc | apply pw_below_drewN | apply below_drew1) | exact HB.out)⟩⟩
              · rw [if_neg c16] at H
                exact absurd H (by simp)
            · rw [if_neg c15] at H
              have c15b0 : decide (x11_1 < (t154.length : Int)) = false := decide_eq_false c15
              clear c15
              by_cases c22 : t155 = 0
              · rw [if_pos c22] at H
                have c22b0 : (t155 == 0) = true := beq_iff_eq.mpr c22
                have c22b1 : (t155 != 0) = false := bne_eq_false_iff_eq.mpr c22
                clear c22
                by_cases c23 : t159 = 0
                · rw [if_pos c23] at H
                  have c23b0 : (t159 == 0) = true := beq_iff_eq.mpr c23
                  have c23b1 : (t159 != 0) = false := bne_eq_false_iff_eq.mpr c23
                  clear c23
                  by_cases c24 : t158.toList = t147.toList
                  · rw [if_pos c24] at H
                    have c24b0 : (t158.toList == t147.toList) = true := beq_iff_eq.mpr c24
                    have c24b1 : (t158.toList != t147.toList) = false := bne_eq_false_iff_eq.mpr c24
                    clear c24
                    replace H := Option.bind_eq_some_iff.mp H
                    obtain ⟨t164, A250, H⟩ := H
                    replace H : (if t164.toList = t147.toList then (if (t154.length : Int) ≤ (t149.length : Int) then ((purlinlaw12_awake.f k1).bind fun t165 => (some t165)) else (some false)) else (some false)) = some r := H
                    have A25 := Aside0.mk A250
                    clear A250
                    by_cases c26 : t164.toList = t147.toList
                    · rw [if_pos c26] at H
                      have c26b0 : (t164.toList == t147.toList) = true := beq_iff_eq.mpr c26
                      have c26b1 : (t164.toList != t147.toList) = false := bne_eq_false_iff_eq.mpr c26
                      clear c26
                      by_cases c27 : (t154.length : Int) ≤ (t149.length : Int)
                      · rw [if_pos c27] at H
                        have c27b0 : decide ((t154.length : Int) ≤ (t149.length : Int)) = true := decide_eq_true c27
                        have c27b1 : decide (t154.length ≤ t149.length) = true := decide_eq_true (Int.ofNat_le.mp c27)
                        clear c27
                        replace H := Option.bind_eq_some_iff.mp H
                        obtain ⟨t165, A280, H⟩ := H
                        replace H : (some t165) = some r := H
                        have A28 := Aside0.mk A280
                        clear A280
                        obtain rfl := Option.some.inj H
                        obtain ⟨Ao29, co29, eo29⟩ := Kd.R_slice HO_7.out
                        subst eo29
                        go_wp2_with (first | (go_at_call 19; (with_reducible refine (path_Join.calls _ _ t154 t164 _ ?side1 ?side2 A25.out).mono ?_); (case side1 => repeat (first | exact (Kd.R_reads' HO_7.out).2.2 | (with_reducible refine Kd.C_alloc ?_ _) | (with_reducible refine Kd.C_drewN ?_ _) | (with_reducible refine Kd.C_drew ?_))); (case side2 => exact (Kd.R_reads' HO_7.out).2.1); rintro e w30 ⟨rfl, hb⟩; have n0_ := Aside0.mk (Kd.R_below (by (with_reducible repeat (first | apply Kd.R_alloc | apply Kd.R_drewN | apply Kd.R_drew)); exact HO_5.out) hb); have n1_ := Aside0.mk (Kd.R_below (by (with_reducible repeat (first | apply Kd.R_alloc | apply Kd.R_drewN | apply Kd.R_drew)); exact HO_7.out) hb); have n2_ := Aside0.mk (below_step (by repeat (first | (with_reducible first | exact HB.out | apply below_alloc | apply pw_below_drewN | apply below_drew1) | exact HB.out)) hb); clear HO_5; clear HO_7; clear HB; have HO_5 := n0_; have HO_7 := n1_; have HB := n2_; clear n0_ n1_ n2_; (try clear hb); (try clear hb2); (try clear hk); (try clear hi); obtain ⟨Ao31, co31, eo31⟩ := Kd.R_slice HO_5.out; subst eo31) | (go_at_call 8; (with_reducible refine (purlinlaw12_awake.calls k1  t165 _ ?side1 A28.out).mono ?_); (case side1 => exact G_below hG (by repeat (first | (with_reducible first | exact HB.out | apply below_alloc | apply pw_below_drewN | apply below_drew1) | exact HB.out))); rintro e w32 ⟨rfl, hb⟩; have n0_ := Aside0.mk (Kd.R_below (by (with_reducible repeat (first | apply Kd.R_alloc | apply Kd.R_drewN | apply Kd.R_drew)); exact HO_5.out) hb); have n1_ := Aside0.mk (Kd.R_below (by (with_reducible repeat (first | apply Kd.R_alloc | apply Kd.R_drewN | apply Kd.R_drew)); exact HO_7.out) hb); have n2_ := Aside0.mk (below_step (by repeat (first | (with_reducible first | exact HB.out | apply below_alloc | apply pw_below_drewN | apply below_drew1) | exact HB.out)) hb); clear HO_5; clear HO_7; clear HB; have HO_5 := n0_; have HO_7 := n1_; have HB := n2_; clear n0_ n1_ n2_; (try clear hb); (try clear hb2); (try clear hk); (try clear hi)))
                        go_ret
                        exact ⟨by first | rfl | (simp [errW_none, errW_some] <;> rfl) | (simp [*, errW_none, errW_some] <;> rfl), by repeat (first | (with_reducible first | exact HB.out | apply below_alloc | apply pw_below_drewN | apply below_drew1) | exact HB.out)⟩
                      · rw [if_neg c27] at H
                        have c27b0 : decide ((t154.length : Int) ≤ (t149.length : Int)) = false := decide_eq_false c27
                        have c27b1 : decide (t154.length ≤ t149.length) = false := decide_eq_false (fun h => c27 (Int.ofNat_le.mpr h))
                        clear c27
                        exact absurd ((Option.some.inj H).trans hrT.out) (by simp)
                    · rw [if_neg c26] at H
                      have c26b0 : (t164.toList == t147.toList) = false := beq_eq_false_iff_ne.mpr c26
                      have c26b1 : (t164.toList != t147.toList) = true := bne_iff_ne.mpr c26
                      exact absurd ((Option.some.inj H).trans hrT.out) (by simp)
                  · rw [if_neg c24] at H
                    have c24b0 : (t158.toList == t147.toList) = false := beq_eq_false_iff_ne.mpr c24
                    have c24b1 : (t158.toList != t147.toList) = true := bne_iff_ne.mpr c24
                    exact absurd ((Option.some.inj H).trans hrT.out) (by simp)
                · rw [if_neg c23] at H
                  have c23b0 : (t159 == 0) = false := beq_eq_false_iff_ne.mpr c23
                  have c23b1 : (t159 != 0) = true := bne_iff_ne.mpr c23
                  exact absurd ((Option.some.inj H).trans hrT.out) (by simp)
              · rw [if_neg c22] at H
                have c22b0 : (t155 == 0) = false := beq_eq_false_iff_ne.mpr c22
                have c22b1 : (t155 != 0) = true := bne_iff_ne.mpr c22
                exact absurd ((Option.some.inj H).trans hrT.out) (by simp)
      · rw [if_neg c8] at H
        have c8b0 : (t148 == 0) = false := beq_eq_false_iff_ne.mpr c8
        have c8b1 : (t148 != 0) = true := bne_iff_ne.mpr c8
        by_cases c33 : t147.toList = ([] : List UInt8)
        · rw [if_pos c33] at H
          have c33b0 : (t147.toList == ([] : List UInt8)) = true := beq_iff_eq.mpr c33
          have c33b1 : (t147.toList != ([] : List UInt8)) = false := bne_eq_false_iff_eq.mpr c33
          clear c33
          by_cases c34 : (t149.length : Int) = 0
          · rw [if_pos c34] at H
            have c34b0 : ((t149.length : Int) == 0) = true := beq_iff_eq.mpr c34
            have c34b1 : ((t149.length : Int) != 0) = false := bne_eq_false_iff_eq.mpr c34
            clear c34
            replace H := Option.bind_eq_some_iff.mp H
            obtain ⟨t153, A350, H⟩ := H
            replace H : (some t153) = some r := H
            have A35 := Aside0.mk A350
            clear A350
            obtain rfl := Option.some.inj H
            go_enter Tryd.func4, Tryd.ntmps4
            go_wp2_with (first | ((with_reducible refine gate_callee (f := 11) rfl ?_); refine goesL_ (some 18) rfl rfl Tryd.func11 (by kernel_rfl) rfl #[.string a0] rfl (by (try simp only [List.map_toArray, List.map_cons, List.map_nil]); first | done | rfl | (simp only [List.length_drop, List.length_take]; rfl)) ?_; (with_reducible refine (path_Clean.calls a0 t147 t148 _ ?side1 A5.out).mono ?_); (case side1 => exact G_below hG (by repeat (first | (with_reducible first | exact HB.out | apply below_alloc | apply pw_below_drewN | apply below_drew1) | exact HB.out))); rintro e w36 ⟨rfl, hb⟩; refine ⟨_, rfl, ?_⟩; have n0_ := Aside0.mk (below_step (by repeat (first | (with_reducible first | exact HB.out | apply below_alloc | apply pw_below_drewN | apply below_drew1) | exact HB.out)) hb); clear HB; have HB := n0_; clear n0_; (try clear hb); (try clear hb2); (try clear hk); (try clear hi)) | ((with_reducible refine gate_callee (f := 9) rfl ?_); refine goesL_ (some 23) rfl rfl Tryd.func9 (by kernel_rfl) rfl #[.string a0] rfl (by (try simp only [List.map_toArray, List.map_cons, List.map_nil]); first | done | rfl | (simp only [List.length_drop, List.length_take]; rfl)) ?_; (with_reducible refine (path_Split.calls a0 t149 t150 _ ?side1 A6.out).mono ?_); (case side1 => exact G_below hG (by repeat (first | (with_reducible first | exact HB.out | apply below_alloc | apply pw_below_drewN | apply below_drew1) | exact HB.out))); rintro e w37 ⟨v151, rfl, ho0, hb⟩; refine ⟨_, rfl, ?_⟩; have n0_ := Aside0.mk (Kd.R_lower ho0 (below_size (by repeat (first | (with_reducible first | exact HB.out | apply below_alloc | apply pw_below_drewN | apply below_drew1) | exact HB.out)))); have n1_ := Aside0.mk (below_step (by repeat (first | (with_reducible first | exact HB.out | apply below_alloc | apply pw_below_drewN | apply below_drew1) | exact HB.out)) hb); clear HB; have HO152 := n0_; have HB := n1_; clear n0_ n1_; (try clear hb); (try clear hb2); (try clear hk); (try clear hi); (try clear ho0); obtain ⟨Ao38, co38, eo38⟩ := Kd.R_slice HO152.out; subst eo38) | (go_at_call 8; (with_reducible refine (purlinlaw12_awake.calls k  t153 _ ?side1 A35.out).mono ?_); (case side1 => exact G_below hG (by repeat (first | (with_reducible first | exact HB.out | apply below_alloc | apply pw_below_drewN | apply below_drew1) | exact HB.out))); rintro e w39 ⟨rfl, hb⟩; have n0_ := Aside0.mk (Kd.R_below (by (with_reducible repeat (first | apply Kd.R_alloc | apply Kd.R_drewN | apply Kd.R_drew)); exact HO152.out) hb); have n1_ := Aside0.mk (below_step (by repeat (first | (with_reducible first | exact HB.out | apply below_alloc | apply pw_below_drewN | apply below_drew1) | exact HB.out)) hb); clear HO152; clear HB; have HO152 := n0_; have HB := n1_; clear n0_ n1_; (try clear hb); (try clear hb2); (try clear hk); (try clear hi)))
            go_ret
            exact ⟨by first | rfl | (simp [errW_none, errW_some] <;> rfl) | (simp [*, errW_none, errW_some] <;> rfl), by repeat (first | (with_reducible first | exact HB.out | apply below_alloc | apply pw_below_drewN | apply below_drew1) | exact HB.out)⟩
          · rw [if_neg c34] at H
            have c34b0 : ((t149.length : Int) == 0) = false := beq_eq_false_iff_ne.mpr c34
            have c34b1 : ((t149.length : Int) != 0) = true := bne_iff_ne.mpr c34
            have c34b2 : ¬ (t149 = []) := fun h_ => c34 (by rw [h_]; rfl)
            exact absurd ((Option.some.inj H).trans hrT.out) (by simp)
        · rw [if_neg c33] at H
          have c33b0 : (t147.toList == ([] : List UInt8)) = false := beq_eq_false_iff_ne.mpr c33
          have c33b1 : (t147.toList != ([] : List UInt8)) = true := bne_iff_ne.mpr c33
          exact absurd ((Option.some.inj H).trans hrT.out) (by simp)
    · rw [if_neg c7] at H
      have c7b0 : (t148 == t150) = false := beq_eq_false_iff_ne.mpr c7
      have c7b1 : (t148 != t150) = true := bne_iff_ne.mpr c7
      exact absurd ((Option.some.inj H).trans hrT.out) (by simp)

/-- THE ONE PURE STATEMENT of purlinlaw12_PathClean: yours. -/
def purlinlaw12_PathClean.Pure : Prop := ∀ (a0 : ByteArray), a0.size ≤ 140737488351232 → ∃ k, purlinlaw12_PathClean.f k a0 = some true
theorem purlinlaw12_PathClean.walk (P : purlinlaw12_PathClean.Pure) (a0 : ByteArray) (w : World) (hG : G w) (w0 : a0.size ≤ 140737488351232) :
    Calls Tryd.prog 4 #[.string a0] w fun e w' => e = .returned (.bool true) ∧ Below w.heap.size w w' := by
  obtain ⟨k, h⟩ := P a0 w0
  refine (purlinlaw12_PathClean.calls k a0 true w hG (Aside0.mk rfl) h).mono ?_
  rintro e w' ⟨rfl, hd⟩
  exact ⟨rfl, hd⟩

end Go.Proofs.YtblejdnjemcpcaaDoor.PPathClean
