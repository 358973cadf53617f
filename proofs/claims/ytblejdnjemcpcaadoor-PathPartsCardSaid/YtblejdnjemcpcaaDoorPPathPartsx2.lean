-- made by the kit's print, one law, no byte bound
import Derived.Test.YtblejdnjemcpcaaDoorPPathPartsx0
import Derived.Test.YtblejdnjemcpcaaDoorPPathPartsx1
namespace Go.Proofs.YtblejdnjemcpcaaDoor.PPathParts
open Go.RowKit Go.Proofs.YtblejdnjemcpcaaDoorW.PrintWords Go.Proofs.YtblejdnjemcpcaaDoorW.PrintLast Go.Proofs.YtblejdnjemcpcaaDoorW.PrintMore Go.Proofs.YtblejdnjemcpcaaDoor.Hand
attribute [local go_sem] max2_int min2_int max_two min_two max_three min_three max_four min_four   -- for this text's walks alone
set_option linter.unusedVariables false
set_option linter.unusedSimpArgs false

/-! ### purlinlaw12_PathParts: function 5 -/
mutual
def purlinlaw12_PathParts.l0 : Nat → List Int → List ByteArray → Int → Int → Option (Bool)
  | 0, _, _, _, _ => none
  | k + 1, x0, x3, x4, x5 => if x5 < (x0.length : Int) then (purlinlaw12_PathParts.l1 k x0 x3 x4 x5 (⟨#[]⟩ : ByteArray) 0) else ((path_Join.f x3).bind fun t157 => ((path_Split.f t157).bind fun bt158 => (if x4 > 200 then (if bt158.2 = 11 then ((purlinlaw12_awake.f k).bind fun t162 => (some t162)) else (some false)) else ((path_Last.f t157).bind fun bt163 => (if (x3.length : Int) = 0 then (if t157.toList = ([47] : List UInt8) then (if bt158.2 = 0 then (if (bt158.1.length : Int) = 0 then (if bt163.2.2 = 2 then ((purlinlaw12_awake.f k).bind fun t166 => (some t166)) else (some false)) else (some false)) else (some false)) else (some false)) else ((path_Split.f bt163.1).bind fun bt167 => (if bt158.2 = 0 then ((purlinlaw0_SameTexts.f k bt158.1 x3).bind fun t171 => (if t171 = true then (if bt163.2.2 = 0 then (if bt167.2 = 0 then (if bt167.1.length < 8796093022208 then ((purlinlaw0_SameTexts.f k (bt167.1 ++ [bt163.2.1]) x3).bind fun t175 => (if t175 = true then ((purlinlaw12_awake.f k).bind fun t176 => (some t176)) else (some false))) else (none)) else (some false)) else (some false)) else (some false))) else (some false))))))))
def purlinlaw12_PathParts.l1 : Nat → List Int → List ByteArray → Int → Int → ByteArray → Int → Option (Bool)
  | 0, _, _, _, _, _, _ => none
  | k + 1, x0, x3, x4, x5, x6, x7 => if 0 ≤ x5 then (if x5 < (x0.length : Int) then ((purlinlaw0_Low.f (rd x0 x5) 9).bind fun t148 => (if x7 ≤ t148 then (if (wrap64 (x7 + 1)) = 0 then (none) else ((purlinlaw0_Low.f (wrap64 (Int.tdiv (rd x0 x5) (wrap64 (x7 + 1)))) 26).bind fun t150 => ((some (([(wrap64 (97 + t150)) % 256] : List Int) : List Int)).bind fun y151 => (if x6.size + (strOfNums y151).size ≤ 9223372036854775807 then (purlinlaw12_PathParts.l1 k x0 x3 x4 x5 (x6 ++ (strOfNums y151)) (wrap64 (x7 + 1))) else (none))))) else (if x3.length < 8796093022208 then (purlinlaw12_PathParts.l0 k x0 (x3 ++ [x6]) (wrap64 ((wrap64 (x4 + 1)) + (x6.size : Int))) (wrap64 (x5 + 1))) else (none)))) else (none)) else (none)
end
def purlinlaw12_PathParts.f (k : Nat) (l0 : List Int) : Option (Bool) := if (l0.length : Int) > 20 then ((purlinlaw12_awake.f k).bind fun t146 => (some t146)) else (purlinlaw12_PathParts.l0 k l0 ([] : List ByteArray) 0 0)
theorem purlinlaw12_PathParts.mono_l : ∀ k, (∀ y0 y1 y2 y3, LeO (purlinlaw12_PathParts.l0 k y0 y1 y2 y3) (purlinlaw12_PathParts.l0 (k + 1) y0 y1 y2 y3)) ∧ (∀ y0 y1 y2 y3 y4 y5, LeO (purlinlaw12_PathParts.l1 k y0 y1 y2 y3 y4 y5) (purlinlaw12_PathParts.l1 (k + 1) y0 y1 y2 y3 y4 y5))
  | 0 => ⟨fun _ _ _ _ r h => by simp [purlinlaw12_PathParts.l0] at h, fun _ _ _ _ _ _ r h => by simp [purlinlaw12_PathParts.l1] at h⟩
  | k + 1 => by
    obtain ⟨ih0, ih1⟩ := purlinlaw12_PathParts.mono_l k
    refine ⟨?_, ?_⟩
    · intro y0 y1 y2 y3
      unfold purlinlaw12_PathParts.l0
      repeat' first
      | (with_reducible exact ih0 _ _ _ _)
      | (with_reducible exact ih1 _ _ _ _ _ _)
      | (with_reducible exact purlinlaw0_SameTexts.mono _ _ _)
      | (with_reducible exact purlinlaw12_awake.mono _)
      | (with_reducible exact LeO.refl _)
      | (with_reducible exact LeO.none _)
      | (with_reducible refine LeO.ite ?_ ?_)
      | (with_reducible refine LeO.bind ?_ (fun _ => ?_))
      | exact ih0 _ _ _ _
      | exact ih1 _ _ _ _ _ _
      | exact purlinlaw0_SameTexts.mono _ _ _
      | exact purlinlaw12_awake.mono _
      | exact LeO.none _
      | refine LeO.ite ?_ ?_
      | refine LeO.bind ?_ (fun _ => ?_)
    · intro y0 y1 y2 y3 y4 y5
      unfold purlinlaw12_PathParts.l1
      repeat' first
      | (with_reducible exact ih0 _ _ _ _)
      | (with_reducible exact ih1 _ _ _ _ _ _)
      | (with_reducible exact purlinlaw0_SameTexts.mono _ _ _)
      | (with_reducible exact purlinlaw12_awake.mono _)
      | (with_reducible exact LeO.refl _)
      | (with_reducible exact LeO.none _)
      | (with_reducible refine LeO.ite ?_ ?_)
      | (with_reducible refine LeO.bind ?_ (fun _ => ?_))
      | exact ih0 _ _ _ _
      | exact ih1 _ _ _ _ _ _
      | exact purlinlaw0_SameTexts.mono _ _ _
      | exact purlinlaw12_awake.mono _
      | exact LeO.none _
      | refine LeO.ite ?_ ?_
      | refine LeO.bind ?_ (fun _ => ?_)
theorem purlinlaw12_PathParts.mono : ∀ a0 k, LeO (purlinlaw12_PathParts.f k a0) (purlinlaw12_PathParts.f (k + 1) a0) := by
  intro a0 k
  obtain ⟨ih0, ih1⟩ := purlinlaw12_PathParts.mono_l k
  unfold purlinlaw12_PathParts.f
  repeat' first
      | (with_reducible exact ih0 _ _ _ _)
      | (with_reducible exact ih1 _ _ _ _ _ _)
      | (with_reducible exact purlinlaw0_SameTexts.mono _ _ _)
      | (with_reducible exact purlinlaw12_awake.mono _)
      | (with_reducible exact LeO.refl _)
      | (with_reducible exact LeO.none _)
      | (with_reducible refine LeO.ite ?_ ?_)
      | (with_reducible refine LeO.bind ?_ (fun _ => ?_))
      | exact ih0 _ _ _ _
      | exact ih1 _ _ _ _ _ _
      | exact purlinlaw0_SameTexts.mono _ _ _
      | exact purlinlaw12_awake.mono _
      | exact LeO.none _
      | refine LeO.ite ?_ ?_
      | refine LeO.bind ?_ (fun _ => ?_)
set_option maxHeartbeats 8000000 in
set_option maxRecDepth 100000 in
theorem purlinlaw12_PathParts.calls (k : Nat) (A0 : Option Addr) (c0 : Nat) (l0 : List Int) (r : Bool) (w : World) (hG : G w) (hr0 : Kd.C (Kd.int .i64) w A0 l0.length l0) (hc0 : l0.length ≤ c0) (hrT : Aside0 (r = true)) (h : purlinlaw12_PathParts.f k l0 = some r) :
    Calls Tryd.prog 5 #[.slice A0 l0.length c0] w fun e w' => e = .returned (.bool r) ∧ Below w.heap.size w w' := by
  have HR0 := Aside0.mk hr0
  have HC0 := Aside0.mk hc0
  clear hr0 hc0
  have HB := Aside0.mk (Below.refl w.heap.size w)
  have H : (if (l0.length : Int) > 20 then ((purlinlaw12_awake.f k).bind fun t146 => (some t146)) else (purlinlaw12_PathParts.l0 k l0 ([] : List ByteArray) 0 0)) = some r := h
  clear h
  by_cases c2 : (l0.length : Int) > 20
  · rw [if_pos c2] at H
    have c2b0 : decide (20 < (l0.length : Int)) = true := decide_eq_true c2
    have c2b1 : decide (20 < l0.length) = true := decide_eq_true (by omega)
    clear c2
    replace H := Option.bind_eq_some_iff.mp H
    obtain ⟨t146, A30, H⟩ := H
    replace H : (some t146) = some r := H
    have A3 := Aside0.mk A30
    clear A30
    obtain rfl := Option.some.inj H
    go_enter Tryd.func5, Tryd.ntmps5
    go_wp2_with (first | ((with_reducible refine gate_callee (f := 8) rfl ?_); refine goesL_ (some 19) rfl rfl Tryd.func8 (by kernel_rfl) rfl #[] rfl (by (try simp only [List.map_toArray, List.map_cons, List.map_nil]); first | done | rfl | (simp only [List.length_drop, List.length_take]; rfl)) ?_; (with_reducible refine (purlinlaw12_awake.calls k  t146 _ ?side1 A3.out).mono ?_); (case side1 => exact G_below hG (by repeat (first | (with_reducible first | exact HB.out | apply below_alloc | apply pw_below_drewN | apply below_drew1) | exact HB.out))); rintro e w4 ⟨rfl, hb⟩; refine ⟨_, rfl, ?_⟩; have n0_ := Aside0.mk (below_step (by repeat (first | (with_reducible first | exact HB.out | apply below_alloc | apply pw_below_drewN | apply below_drew1) | exact HB.out)) hb); clear HB; have HB := n0_; clear n0_; (try clear hb); (try clear hb2); (try clear hk); (try clear hi)))
    go_ret
    exact ⟨by first | rfl | (simp [errW_none, errW_some] <;> rfl) | (simp [*, errW_none, errW_some] <;> rfl), by repeat (first | (with_reducible first | exact HB.out | apply below_alloc | apply pw_below_drewN | apply below_drew1) | exact HB.out)⟩
  · rw [if_neg c2] at H
    have c2b0 : decide (20 < (l0.length : Int)) = false := decide_eq_false c2
    have c2b1 : decide (20 < l0.length) = false := decide_eq_false (by omega)
    clear c2
    have H' := Aside0.mk H
    clear H
    go_enter Tryd.func5, Tryd.ntmps5
    go_wp2
    go_loopg [3, 4, 5] k (fun kq v3 v4 v5 w' => ∃ (x3_1 : List ByteArray) (x4_1 : Int) (x5_1 : Int), v4 = .int .i64 x4_1 ∧ v5 = .int .i64 x5_1 ∧ Aside0 (purlinlaw12_PathParts.l0 kq l0 x3_1 x4_1 x5_1 = some r) ∧ Aside0 (kq ≤ k) ∧ Aside0 (Kd.R Kd.string 9 w' w.heap.size (fun _ => True) v3 x3_1) ∧ Aside0 (Below w.heap.size w w'))
    case atStart => exact ⟨(([] : List ByteArray)), (0), (0), (by first | rfl | (simp; done) | (simp [*]; done)), (by first | rfl | (simp; done) | (simp [*]; done)), H', ⟨Nat.le_refl _⟩, ⟨by first | exact Kd.R_nil _ _ _ _ _ | exact Kd.N_nil _ _ _ _ _ | exact Kd.V_nil _ _ _ _ _ | exact Kd.Q_nil _ _ _ _ _ | exact Kd.S_nil _ _ _ _ _⟩, ⟨by repeat (first | (with_reducible first | exact HB.out | apply below_alloc | apply pw_below_drewN | apply below_drew1) | exact HB.out)⟩⟩
    case round =>
      clear H'
      try clear c2
      try clear c2b0
      try clear c2b1
      try clear p2
      obtain ⟨x3_1, x4_1, x5_1, rfl, rfl, HA, HK1, HO_3, HB⟩ := hrel
      cases gk with
      | zero => exact absurd HA.out (by simp [purlinlaw12_PathParts.l0])
      | succ k1 =>
        have H := HA.out
        clear HA
        simp only [purlinlaw12_PathParts.l0] at H
        by_cases c5 : x5_1 < (l0.length : Int)
        · rw [if_pos c5] at H
          have c5b0 : decide (x5_1 < (l0.length : Int)) = true := decide_eq_true c5
          clear c5
          have H' := Aside0.mk H
          clear H
          go_wp2
          go_loopg [6, 7] k1 (fun kq v6 v7 w' => ∃ (x6_2 : ByteArray) (x7_2 : Int), v6 = .string x6_2 ∧ v7 = .int .i64 x7_2 ∧ Aside0 (purlinlaw12_PathParts.l1 kq l0 x3_1 x4_1 x5_1 x6_2 x7_2 = some r) ∧ Aside0 (kq ≤ k1) ∧ Aside0 (Kd.R Kd.string 9 w' w.heap.size (fun _ => True) u3 x3_1) ∧ Aside0 (Below w.heap.size w w'))
          case atStart => exact ⟨((⟨#[]⟩ : ByteArray)), (0), (by first | rfl | (simp; done) | (simp [*]; done)), (by first | rfl | (simp; done) | (simp [*]; done)), H', ⟨Nat.le_refl _⟩, ⟨by (with_reducible repeat (first | apply Kd.R_alloc | apply Kd.R_drewN | apply Kd.R_drew)); exact HO_3.out⟩, ⟨by repeat (first | (with_reducible first | exact HB.out | apply below_alloc | apply pw_below_drewN | apply below_drew1) | exact HB.out)⟩⟩
          case round =>
            clear H'
            try clear c2
            try clear c2b0
            try clear c2b1
            try clear p2
            try clear c5
            try clear c5b0
            try clear p2
            obtain ⟨x6_2, x7_2, rfl, rfl, HA, HK2, HO_3, HB⟩ := hrel
            cases gk with
            | zero => exact absurd HA.out (by simp [purlinlaw12_PathParts.l1])
            | succ k2 =>
              have H := HA.out
              clear HA
              simp only [purlinlaw12_PathParts.l1] at H
              by_cases c6 : 0 ≤ x5_1
              · rw [if_pos c6] at H
                have c6b0 : decide (0 ≤ x5_1) = true := decide_eq_true c6
                clear c6
                by_cases c7 : x5_1 < (l0.length : Int)
                · rw [if_pos c7] at H
                  have c7b0 : decide (x5_1 < (l0.length : Int)) = true := decide_eq_true c7
                  clear c7
                  replace H := Option.bind_eq_some_iff.mp H
                  obtain ⟨t148, A80, H⟩ := H
                  replace H : (if x7_2 ≤ t148 then (if (wrap64 (x7_2 + 1)) = 0 then (none) else ((purlinlaw0_Low.f (wrap64 (Int.tdiv (rd l0 x5_1) (wrap64 (x7_2 + 1)))) 26).bind fun t150 => ((some (([(wrap64 (97 + t150)) % 256] : List Int) : List Int)).bind fun y151 => (if x6_2.size + (strOfNums y151).size ≤ 9223372036854775807 then (purlinlaw12_PathParts.l1 k2 l0 x3_1 x4_1 x5_1 (x6_2 ++ (strOfNums y151)) (wrap64 (x7_2 + 1))) else (none))))) else (if x3_1.length < 8796093022208 then (purlinlaw12_PathParts.l0 k2 l0 (x3_1 ++ [x6_2]) (wrap64 ((wrap64 (x4_1 + 1)) + (x6_2.size : Int))) (wrap64 (x5_1 + 1))) else (none))) = some r := H
                  have A8 := Aside0.mk A80
                  clear A80
                  by_cases c9 : x7_2 ≤ t148
                  · rw [if_pos c9] at H
                    have c9b0 : decide (x7_2 ≤ t148) = true := decide_eq_true c9
                    clear c9
                    by_cases c10 : (wrap64 (x7_2 + 1)) = 0
                    · rw [if_pos c10] at H
                      exact absurd H (by simp)
                    · rw [if_neg c10] at H
                      have c10b0 : ((wrap64 (x7_2 + 1)) == 0) = false := beq_eq_false_iff_ne.mpr c10
                      have c10b1 : ((wrap64 (x7_2 + 1)) != 0) = true := bne_iff_ne.mpr c10
                      replace H := Option.bind_eq_some_iff.mp H
                      obtain ⟨t150, A110, H⟩ := H
                      replace H : ((some (([(wrap64 (97 + t150)) % 256] : List Int) : List Int)).bind fun y151 => (if x6_2.size + (strOfNums y151).size ≤ 9223372036854775807 then (purlinlaw12_PathParts.l1 k2 l0 x3_1 x4_1 x5_1 (x6_2 ++ (strOfNums y151)) (wrap64 (x7_2 + 1))) else (none))) = some r := H
                      have A11 := Aside0.mk A110
                      clear A110
                      obtain ⟨y151, hy151⟩ : ∃ y_ : List Int, y_ = (([(wrap64 (97 + t150)) % 256] : List Int)) := ⟨_, rfl⟩
                      replace H : (if x6_2.size + (strOfNums y151).size ≤ 9223372036854775807 then (purlinlaw12_PathParts.l1 k2 l0 x3_1 x4_1 x5_1 (x6_2 ++ (strOfNums y151)) (wrap64 (x7_2 + 1))) else (none)) = some r := by first | (rw [hy151]; with_reducible exact H) | (have H2_ := (Option.bind_some _ _).symm.trans H; rw [hy151]; with_reducible exact H2_) | (have H2_ := (Option.bind_some _ _).symm.trans H; with_reducible exact H2_) | with_reducible exact H | (rw [hy151]; exact H) | exact H
                      have Ny151 := Aside0.mk hy151
                      clear hy151
                      by_cases c12 : x6_2.size + (strOfNums y151).size ≤ 9223372036854775807
                      · rw [if_pos c12] at H
                        have c12b0 := eq_true c12
                        have c12b1 : decide (x6_2.size + (strOfNums y151).size ≤ 9223372036854775807) = true := decide_eq_true c12
                        try have c12b2 : (9223372036854775807 < x6_2.size + (strOfNums y151).size) = False := eq_false (Nat.not_lt.2 c12)
                        have H' := Aside0.mk H
                        clear H
                        have p147 : 0 ≤ (x5_1 : Int) := of_decide_eq_true (by first | (with_reducible assumption) | assumption)
                        have q147 : x5_1 < (l0.length : Int) := of_decide_eq_true (by first | (with_reducible assumption) | assumption)
                        obtain ⟨ad147, e147, hx147_0⟩ := Kd.at_int HR0.out x5_1 p147 q147
                        cases e147
                        replace hx147_0 := (HB.out.cell (World.block_lt_of_cell? w _ hx147_0)).trans hx147_0
                        replace p147 := eq_true p147
                        replace q147 := eq_true q147
                        go_wp2_with (first | ((with_reducible refine gate_callee (f := 20) rfl ?_); refine goesL_ (some 31) rfl rfl Tryd.func20 (by kernel_rfl) rfl #[.int .i64 (rd l0 x5_1), .int .i64 9] rfl (by (try simp only [List.map_toArray, List.map_cons, List.map_nil]); first | done | rfl | (simp only [List.length_drop, List.length_take]; rfl)) ?_; (with_reducible refine (purlinlaw0_Low.calls (rd l0 x5_1) 9 t148 _ A8.out).mono ?_); rintro e w' ⟨rfl, ⟨nd, rfl⟩⟩; refine ⟨_, rfl, ?_⟩; have p149 : 0 ≤ (x5_1 : Int) := of_decide_eq_true (by first | (with_reducible assumption) | assumption); have q149 : x5_1 < (l0.length : Int) := of_decide_eq_true (by first | (with_reducible assumption) | assumption); obtain ⟨ad149, e149, hx149_0⟩ := Kd.at_int HR0.out x5_1 p149 q149; obtain rfl : ad147 = ad149 := (by injection e149); replace hx149_0 := (HB.out.cell (World.block_lt_of_cell? w _ hx149_0)).trans hx149_0; replace p149 := eq_true p149; replace q149 := eq_true q149) | ((with_reducible refine gate_callee (f := 20) rfl ?_); refine goesL_ (some 43) rfl rfl Tryd.func20 (by kernel_rfl) rfl #[.int .i64 (wrap64 (Int.tdiv (rd l0 x5_1) (wrap64 (x7_2 + 1)))), .int .i64 26] rfl (by (try simp only [List.map_toArray, List.map_cons, List.map_nil]); first | done | rfl | (simp only [List.length_drop, List.length_take]; rfl)) ?_; (with_reducible refine (purlinlaw0_Low.calls (wrap64 (Int.tdiv (rd l0 x5_1) (wrap64 (x7_2 + 1)))) 26 t150 _ A11.out).mono ?_); rintro e w' ⟨rfl, ⟨nd, rfl⟩⟩; refine ⟨_, rfl, ?_⟩) | ((with_reducible refine gate_dst (N := 46) rfl ?_); (try (refine gate_guard (by rfl) ?_; dsimp only)); refine Kd.R_lit (Kd.int .u8) _ 5 ?hg (N := 46) ?hd (xs := ([(wrap64 (97 + t150)) % 256] : List Int)) (inner := [.int .u8 ((wrap64 (97 + t150)) % 256)]) (ok := fun _ => True) (okp := fun _ => True) ?hr ?hp (fun _ hk => hk) trivial (Below.refl _ _) (Nat.le_refl _) (by simp) ?_; (case hd => rfl); (case hg => rfl); (case hr => first | (go_simp; done) | (go_simp; rfl)); (case hp => exact (Reps.one (show Kd.M (Kd.int .u8) _ _ _ ((wrap64 (97 + t150)) % 256) [.int .u8 ((wrap64 (97 + t150)) % 256)] from rfl) (Reps.none _ _))); intro v152 w13 ho14 hb hg_ hnew_; clear hg_ hnew_; (first | rw [← Ny151.out] at ho14 | (simp only [Int.reduceToNat] at ho14; rw [← Ny151.out] at ho14)); have n0_ := Aside0.mk (Kd.R_below (by (with_reducible repeat (first | apply Kd.R_alloc | apply Kd.R_drewN | apply Kd.R_drew)); exact HO_3.out) hb); have n1_ := Aside0.mk (Kd.R_lower ho14 (below_size (by repeat (first | (with_reducible first | exact HB.out | apply below_alloc | apply pw_below_drewN | apply below_drew1) | exact HB.out)))); have n2_ := Aside0.mk (below_step (by repeat (first | (with_reducible first | exact HB.out | apply below_alloc | apply pw_below_drewN | apply below_drew1) | exact HB.out)) hb); clear HO_3; clear HB; have HO_3 := n0_; have HO153 := n1_; have HB := n2_; clear n0_ n1_ n2_; clear hb ho14; have hcv15 := own_string (P := Tryd.prog) Tryd.underlying39 Tryd.underlying5 Tryd.underlying9 (Kd.own_of_R HO153.out)))
                        go_roundg k2
                        case measure => have := HK1.out; have := HK2.out; omega
                        case rel => exact ⟨(x6_2 ++ (strOfNums y151)), (wrap64 (x7_2 + 1)), (by first | rfl | (simp; done) | (simp [*]; done)), (by first | rfl | (simp; done) | (simp [*]; done)), H', ⟨by have := HK1.out; have := HK2.out; omega⟩, ⟨by (with_reducible repeat (first | apply Kd.R_alloc | apply Kd.R_drewN | apply Kd.R_drew)); exact HO_3.out⟩, ⟨by repeat (first | (with_reducible first | exact HB.out | apply below_alloc | apply pw_below_drewN | apply below_drew1) | exact HB.out)⟩⟩
                      · rw [if_neg c12] at H
                        exact absurd H (by simp)
                  · rw [if_neg c9] at H
                    have c9b0 : decide (x7_2 ≤ t148) = false := decide_eq_false c9
                    clear c9
                    by_cases c16 : x3_1.length < 8796093022208
                    · rw [if_pos c16] at H
                      have LMc16 := Aside0.mk c16
                      clear c16
                      obtain ⟨y154, hy154⟩ : ∃ y_ : List ByteArray, y_ = (x3_1 ++ [x6_2]) := ⟨_, rfl⟩
                      replace H : (purlinlaw12_PathParts.l0 k2 l0 y154 (wrap64 ((wrap64 (x4_1 + 1)) + (x6_2.size : Int))) (wrap64 (x5_1 + 1))) = some r := by first | (rw [hy154]; with_reducible exact H) | (have H2_ := (Option.bind_some _ _).symm.trans H; rw [hy154]; with_reducible exact H2_) | (have H2_ := (Option.bind_some _ _).symm.trans H; with_reducible exact H2_) | with_reducible exact H | (rw [hy154]; exact H) | exact H
                      have Ny154 := Aside0.mk hy154
                      clear hy154
                      have H' := Aside0.mk H
                      clear H
                      have p147 : 0 ≤ (x5_1 : Int) := of_decide_eq_true (by first | (with_reducible assumption) | assumption)
                      have q147 : x5_1 < (l0.length : Int) := of_decide_eq_true (by first | (with_reducible assumption) | assumption)
                      obtain ⟨ad147, e147, hx147_0⟩ := Kd.at_int HR0.out x5_1 p147 q147
                      cases e147
                      replace hx147_0 := (HB.out.cell (World.block_lt_of_cell? w _ hx147_0)).trans hx147_0
                      replace p147 := eq_true p147
                      replace q147 := eq_true q147
                      go_wp2_with (first | ((with_reducible refine gate_callee (f := 20) rfl ?_); refine goesL_ (some 31) rfl rfl Tryd.func20 (by kernel_rfl) rfl #[.int .i64 (rd l0 x5_1), .int .i64 9] rfl (by (try simp only [List.map_toArray, List.map_cons, List.map_nil]); first | done | rfl | (simp only [List.length_drop, List.length_take]; rfl)) ?_; (with_reducible refine (purlinlaw0_Low.calls (rd l0 x5_1) 9 t148 _ A8.out).mono ?_); rintro e w' ⟨rfl, ⟨nd, rfl⟩⟩; refine ⟨_, rfl, ?_⟩) | ((with_reducible refine gate_builtin (b := .append) (xs := #[.tmp 49, .tmp 51]) rfl ?_); (try (refine gate_guard (by rfl) ?_; dsimp only)); at_builtin; refine Kd.R_append Kd.string (w0 := w) w.heap.size rfl (.tmp 49) (.tmp 51) 23 9 (.string ⟨#[]⟩) 16 rfl Tryd.underlying23 info9 rfl (by decide) (by omega) u3 x3_1 x6_2 [.string x6_2] (fun _ => True) (fun _ => False) rfl rfl ?aP (fun _ hk => hk.elim) ?aF ?aO ?aB ?aS ?aL ?_; (case aP => exact rfl); (case aB => exact (by repeat (first | (with_reducible first | exact HB.out | apply below_alloc | apply pw_below_drewN | apply below_drew1) | exact HB.out))); (case aF => exact (fun _ _ => trivial)); (case aO => exact (by (with_reducible repeat (first | apply Kd.R_alloc | apply Kd.R_drewN | apply Kd.R_drew)); exact HO_3.out)); (case aS => exact (below_size (by repeat (first | (with_reducible first | exact HB.out | apply below_alloc | apply pw_below_drewN | apply below_drew1) | exact HB.out)))); (case aL => have := LMc16.out; omega); intro v155 w17 ho hb hg hat; rw [← Ny154.out] at ho; have n0_ := Aside0.mk (hb); have n1_ := Aside0.mk (ho); clear HB; clear HO_3; have HB := n0_; have HO156 := n1_; clear n0_ n1_; clear ho hb hg hat))
                      go_roundg k2
                      case measure => have := HK1.out; have := HK2.out; omega
                      case rel => exact ⟨(y154), (wrap64 ((wrap64 (x4_1 + 1)) + (x6_2.size : Int))), (wrap64 (x5_1 + 1)), (by first | rfl | (simp; done) | (simp [*]; done)), (by first | rfl | (simp; done) | (simp [*]; done)), H', ⟨by have := HK1.out; have := HK2.out; omega⟩, ⟨by (with_reducible repeat (first | apply Kd.R_alloc | apply Kd.R_drewN | apply Kd.R_drew)); exact HO156.out⟩, ⟨by repeat (first | (with_reducible first | exact HB.out | apply below_alloc | apply pw_below_drewN | apply below_drew1) | exact HB.out)⟩⟩
                    · rw [if_neg c16] at H
                      exact absurd H (by simp)
                · rw [if_neg c7] at H
                  exact absurd H (by simp)
              · rw [if_neg c6] at H
                exact absurd H (by simp)
        · rw [if_neg c5] at H
          have c5b0 : decide (x5_1 < (l0.length : Int)) = false := decide_eq_false c5
          clear c5
          replace H := Option.bind_eq_some_iff.mp H
          obtain ⟨t157, A180, H⟩ := H
          replace H : ((path_Split.f t157).bind fun bt158 => (if x4_1 > 200 then (if bt158.2 = 11 then ((purlinlaw12_awake.f k1).bind fun t162 => (some t162)) else (some false)) else ((path_Last.f t157).bind fun bt163 => (if (x3_1.length : Int) = 0 then (if t157.toList = ([47] : List UInt8) then (if bt158.2 = 0 then (if (bt158.1.length : Int) = 0 then (if bt163.2.2 = 2 then ((purlinlaw12_awake.f k1).bind fun t166 => (some t166)) else (some false)) else (some false)) else (some false)) else (some false)) else ((path_Split.f bt163.1).bind fun bt167 => (if bt158.2 = 0 then ((purlinlaw0_SameTexts.f k1 bt158.1 x3_1).bind fun t171 => (if t171 = true then (if bt163.2.2 = 0 then (if bt167.2 = 0 then (if bt167.1.length < 8796093022208 then ((purlinlaw0_SameTexts.f k1 (bt167.1 ++ [bt163.2.1]) x3_1).bind fun t175 => (if t175 = true then ((purlinlaw12_awake.f k1).bind fun t176 => (some t176)) else (some false))) else (none)) else (some false)) else (some false)) else (some false))) else (some false))))))) = some r := H
          have A18 := Aside0.mk A180
          clear A180
          replace H := Option.bind_eq_some_iff.mp H
          obtain ⟨⟨t158, t159⟩, A190, H⟩ := H
          replace H : (if x4_1 > 200 then (if t159 = 11 then ((purlinlaw12_awake.f k1).bind fun t162 => (some t162)) else (some false)) else ((path_Last.f t157).bind fun bt163 => (if (x3_1.length : Int) = 0 then (if t157.toList = ([47] : List UInt8) then (if t159 = 0 then (if (t158.length : Int) = 0 then (if bt163.2.2 = 2 then ((purlinlaw12_awake.f k1).bind fun t166 => (some t166)) else (some false)) else (some false)) else (some false)) else (some false)) else ((path_Split.f bt163.1).bind fun bt167 => (if t159 = 0 then ((purlinlaw0_SameTexts.f k1 t158 x3_1).bind fun t171 => (if t171 = true then (if bt163.2.2 = 0 then (if bt167.2 = 0 then (if bt167.1.length < 8796093022208 then ((purlinlaw0_SameTexts.f k1 (bt167.1 ++ [bt163.2.1]) x3_1).bind fun t175 => (if t175 = true then ((purlinlaw12_awake.f k1).bind fun t176 => (some t176)) else (some false))) else (none)) else (some false)) else (some false)) else (some false))) else (some false)))))) = some r := H
          have A19 := Aside0.mk A190
          clear A190
          by_cases c20 : x4_1 > 200
          · rw [if_pos c20] at H
            have c20b0 : decide (200 < x4_1) = true := decide_eq_true c20
            clear c20
            by_cases c21 : t159 = 11
            · rw [if_pos c21] at H
              have c21b0 : (t159 == 11) = true := beq_iff_eq.mpr c21
              have c21b1 : (t159 != 11) = false := bne_eq_false_iff_eq.mpr c21
              clear c21
              replace H := Option.bind_eq_some_iff.mp H
              obtain ⟨t162, A220, H⟩ := H
              replace H : (some t162) = some r := H
              have A22 := Aside0.mk A220
              clear A220
              obtain rfl := Option.some.inj H
              obtain ⟨Ao23, co23, eo23⟩ := Kd.R_slice HO_3.out
              subst eo23
              go_wp2_with (first | ((with_reducible refine gate_callee (f := 19) rfl ?_); refine goesL_ (some 59) rfl rfl Tryd.func19 (by kernel_rfl) rfl #[.slice Ao23 x3_1.length co23] rfl (by (try simp only [List.map_toArray, List.map_cons, List.map_nil]); first | done | rfl | (simp only [List.length_drop, List.length_take]; rfl)) ?_; (with_reducible refine (path_Join.calls _ _ x3_1 t157 _ ?side1 ?side2 A18.out).mono ?_); (case side1 => repeat (first | exact (Kd.R_reads' HO_3.out).2.2 | (with_reducible refine Kd.C_alloc ?_ _) | (with_reducible refine Kd.C_drewN ?_ _) | (with_reducible refine Kd.C_drew ?_))); (case side2 => exact (Kd.R_reads' HO_3.out).2.1); rintro e w24 ⟨rfl, hb⟩; refine ⟨_, rfl, ?_⟩; have n0_ := Aside0.mk (Kd.R_below (by (with_reducible repeat (first | apply Kd.R_alloc | apply Kd.R_drewN | apply Kd.R_drew)); exact HO_3.out) hb); have n1_ := Aside0.mk (below_step (by repeat (first | (with_reducible first | exact HB.out | apply below_alloc | apply pw_below_drewN | apply below_drew1) | exact HB.out)) hb); clear HO_3; clear HB; have HO_3 := n0_; have HB := n1_; clear n0_ n1_; (try clear hb); (try clear hb2); (try clear hk); (try clear hi)) | ((with_reducible refine gate_callee (f := 9) rfl ?_); refine goesL_ (some 62) rfl rfl Tryd.func9 (by kernel_rfl) rfl #[.string t157] rfl (by (try simp only [List.map_toArray, List.map_cons, List.map_nil]); first | done | rfl | (simp only [List.length_drop, List.length_take]; rfl)) ?_; (with_reducible refine (path_Split.calls t157 t158 t159 _ ?side1 A19.out).mono ?_); (case side1 => exact G_below hG (by repeat (first | (with_reducible first | exact HB.out | apply below_alloc | apply pw_below_drewN | apply below_drew1) | exact HB.out))); rintro e w25 ⟨v160, rfl, ho0, hb⟩; refine ⟨_, rfl, ?_⟩; have n0_ := Aside0.mk (Kd.R_elder' (by (with_reducible repeat (first | apply Kd.R_alloc | apply Kd.R_drewN | apply Kd.R_drew)); exact HO_3.out) (Kd.R_base ho0) hb); have n1_ := Aside0.mk (Kd.R_lower (Kd.R_new' ho0 (Kd.R_lt (by (with_reducible repeat (first | apply Kd.R_alloc | apply Kd.R_drewN | apply Kd.R_drew)); exact HO_3.out))) (below_size (by repeat (first | (with_reducible first | exact HB.out | apply below_alloc | apply pw_below_drewN | apply below_drew1) | exact HB.out)))); have n2_ := Aside0.mk (below_step (by repeat (first | (with_reducible first | exact HB.out | apply below_alloc | apply pw_below_drewN | apply below_drew1) | exact HB.out)) hb); clear HO_3; clear HB; have HO_3 := n0_; have HO161 := n1_; have HB := n2_; clear n0_ n1_ n2_; (try clear hb); (try clear hb2); (try clear hk); (try clear hi); (try clear ho0)) | (go_at_call 8; (with_reducible refine (purlinlaw12_awake.calls k1  t162 _ ?side1 A22.out).mono ?_); (case side1 => exact G_below hG (by repeat (first | (with_reducible first | exact HB.out | apply below_alloc | apply pw_below_drewN | apply below_drew1) | exact HB.out))); rintro e w26 ⟨rfl, hb⟩; have n0_ := Aside0.mk (Kd.R_below (by (with_reducible repeat (first | apply Kd.R_alloc | apply Kd.R_drewN | apply Kd.R_drew)); exact HO_3.out) hb); have n1_ := Aside0.mk (Kd.R_below (by (with_reducible repeat (first | apply Kd.R_alloc | apply Kd.R_drewN | apply Kd.R_drew)); exact HO161.out) hb); have n2_ := Aside0.mk (below_step (by repeat (first | (with_reducible first | exact HB.out | apply below_alloc | apply pw_below_drewN | apply below_drew1) | exact HB.out)) hb); clear HO_3; clear HO161; clear HB; have HO_3 := n0_; have HO161 := n1_; have HB := n2_; clear n0_ n1_ n2_; (try clear hb); (try clear hb2); (try clear hk); (try clear hi)))
              go_ret
              exact ⟨by first | rfl | (simp [errW_none, errW_some] <;> rfl) | (simp [*, errW_none, errW_some] <;> rfl), by repeat (first | (with_reducible first | exact HB.out | apply below_alloc | apply pw_below_drewN | apply below_drew1) | exact HB.out)⟩
            · rw [if_neg c21] at H
              have c21b0 : (t159 == 11) = false := beq_eq_false_iff_ne.mpr c21
              have c21b1 : (t159 != 11) = true := bne_iff_ne.mpr c21
              exact absurd ((Option.some.inj H).trans hrT.out) (by simp)
          · rw [if_neg c20] at H
            have c20b0 : decide (200 < x4_1) = false := decide_eq_false c20
            clear c20
            replace H := Option.bind_eq_some_iff.mp H
            obtain ⟨⟨t163, t164, t165⟩, A270, H⟩ := H
            replace H : (if (x3_1.length : Int) = 0 then (if t157.toList = ([47] : List UInt8) then (if t159 = 0 then (if (t158.length : Int) = 0 then (if t165 = 2 then ((purlinlaw12_awake.f k1).bind fun t166 => (some t166)) else (some false)) else (some false)) else (some false)) else (some false)) else ((path_Split.f t163).bind fun bt167 => (if t159 = 0 then ((purlinlaw0_SameTexts.f k1 t158 x3_1).bind fun t171 => (if t171 = true then (if t165 = 0 then (if bt167.2 = 0 then (if bt167.1.length < 8796093022208 then ((purlinlaw0_SameTexts.f k1 (bt167.1 ++ [t164]) x3_1).bind fun t175 => (if t175 = true then ((purlinlaw12_awake.f k1).bind fun t176 => (some t176)) else (some false))) else (none)) else (some false)) else (some false)) else (some false))) else (some false)))) = some r := H
            have A27 := Aside0.mk A270
            clear A270
            by_cases c28 : (x3_1.length : Int) = 0
            · rw [if_pos c28] at H
              have c28b0 : ((x3_1.length : Int) == 0) = true := beq_iff_eq.mpr c28
              have c28b1 : ((x3_1.length : Int) != 0) = false := bne_eq_false_iff_eq.mpr c28
              clear c28
              by_cases c29 : t157.toList = ([47] : List UInt8)
              · rw [if_pos c29] at H
                have c29b0 : (t157.toList == ([47] : List UInt8)) = true := beq_iff_eq.mpr c29
                have c29b1 : (t157.toList != ([47] : List UInt8)) = false := bne_eq_false_iff_eq.mpr c29
                clear c29
                by_cases c30 : t159 = 0
                · rw [if_pos c30] at H
                  have c30b0 : (t159 == 0) = true := beq_iff_eq.mpr c30
                  have c30b1 : (t159 != 0) = false := bne_eq_false_iff_eq.mpr c30
                  clear c30
                  by_cases c31 : (t158.length : Int) = 0
                  · rw [if_pos c31] at H
                    have c31b0 : ((t158.length : Int) == 0) = true := beq_iff_eq.mpr c31
                    have c31b1 : ((t158.length : Int) != 0) = false := bne_eq_false_iff_eq.mpr c31
                    clear c31
                    by_cases c32 : t165 = 2
                    · rw [if_pos c32] at H
                      have c32b0 : (t165 == 2) = true := beq_iff_eq.mpr c32
                      have c32b1 : (t165 != 2) = false := bne_eq_false_iff_eq.mpr c32
                      clear c32
                      replace H := Option.bind_eq_some_iff.mp H
                      obtain ⟨t166, A330, H⟩ := H
                      replace H : (some t166) = some r := H
                      have A33 := Aside0.mk A330
                      clear A330
                      obtain rfl := Option.some.inj H
                      obtain ⟨Ao34, co34, eo34⟩ := Kd.R_slice HO_3.out
                      subst eo34
                      go_wp2_with (first | ((with_reducible refine gate_callee (f := 19) rfl ?_); refine goesL_ (some 59) rfl rfl Tryd.func19 (by kernel_rfl) rfl #[.slice Ao34 x3_1.length co34] rfl (by (try simp only [List.map_toArray, List.map_cons, List.map_nil]); first | done | rfl | (simp only [List.length_drop, List.length_take]; rfl)) ?_; (with_reducible refine (path_Join.calls _ _ x3_1 t157 _ ?side1 ?side2 A18.out).mono ?_); (case side1 => repeat (first | exact (Kd.R_reads' HO_3.out).2.2 | (with_reducible refine Kd.C_alloc ?_ _) | (with_reducible refine Kd.C_drewN ?_ _) | (with_reducible refine Kd.C_drew ?_))); (case side2 => exact (Kd.R_reads' HO_3.out).2.1); rintro e w35 ⟨rfl, hb⟩; refine ⟨_, rfl, ?_⟩; have n0_ := Aside0.mk (Kd.R_below (by (with_reducible repeat (first | apply Kd.R_alloc | apply Kd.R_drewN | apply Kd.R_drew)); exact HO_3.out) hb); have n1_ := Aside0.mk (below_step (by repeat (first | (with_reducible first | exact HB.out | apply below_alloc | apply pw_below_drewN | apply below_drew1) | exact HB.out)) hb); clear HO_3; clear HB; have HO_3 := n0_; have HB := n1_; clear n0_ n1_; (try clear hb); (try clear hb2); (try clear hk); (try clear hi)) | ((with_reducible refine gate_callee (f := 9) rfl ?_); refine goesL_ (some 62) rfl rfl Tryd.func9 (by kernel_rfl) rfl #[.string t157] rfl (by (try simp only [List.map_toArray, List.map_cons, List.map_nil]); first | done | rfl | (simp only [List.length_drop, List.length_take]; rfl)) ?_; (with_reducible refine (path_Split.calls t157 t158 t159 _ ?side1 A19.out).mono ?_); (case side1 => exact G_below hG (by repeat (first | (with_reducible first | exact HB.out | apply below_alloc | apply pw_below_drewN | apply below_drew1) | exact HB.out))); rintro e w36 ⟨v160, rfl, ho0, hb⟩; refine ⟨_, rfl, ?_⟩; have n0_ := Aside0.mk (Kd.R_elder' (by (with_reducible repeat (first | apply Kd.R_alloc | apply Kd.R_drewN | apply Kd.R_drew)); exact HO_3.out) (Kd.R_base ho0) hb); have n1_ := Aside0.mk (Kd.R_lower (Kd.R_new' ho0 (Kd.R_lt (by (with_reducible repeat (first | apply Kd.R_alloc | apply Kd.R_drewN | apply Kd.R_drew)); exact HO_3.out))) (below_size (by repeat (first | (with_reducible first | exact HB.out | apply below_alloc | apply pw_below_drewN | apply below_drew1) | exact HB.out)))); have n2_ := Aside0.mk (below_step (by repeat (first | (with_reducible first | exact HB.out | apply below_alloc | apply pw_below_drewN | apply below_drew1) | exact HB.out)) hb); clear HO_3; clear HB; have HO_3 := n0_; have HO161 := n1_; have HB := n2_; clear n0_ n1_ n2_; (try clear hb); (try clear hb2); (try clear hk); (try clear hi); (try clear ho0)) | ((with_reducible refine gate_callee (f := 13) rfl ?_); refine goesL_ (some 74) rfl rfl Tryd.func13 (by kernel_rfl) rfl #[.string t157] rfl (by (try simp only [List.map_toArray, List.map_cons, List.map_nil]); first | done | rfl | (simp only [List.length_drop, List.length_take]; rfl)) ?_; (with_reducible refine (path_Last.calls t157 t163 t164 t165 _ ?side1 A27.out).mono ?_); (case side1 => exact G_below hG (by repeat (first | (with_reducible first | exact HB.out | apply below_alloc | apply pw_below_drewN | apply below_drew1) | exact HB.out))); rintro e w37 ⟨rfl, hb⟩; refine ⟨_, rfl, ?_⟩; have n0_ := Aside0.mk (Kd.R_below (by (with_reducible repeat (first | apply Kd.R_alloc | apply Kd.R_drewN | apply Kd.R_drew)); exact HO_3.out) hb); have n1_ := Aside0.mk (Kd.R_below (by (with_reducible repeat (first | apply Kd.R_alloc | apply Kd.R_drewN | apply Kd.R_drew)); exact HO161.out) hb); have n2_ := Aside0.mk (below_step (by repeat (first | (with_reducible first | exact HB.out | apply below_alloc | apply pw_below_drewN | apply below_drew1) | exact HB.out)) hb); clear HO_3; clear HO161; clear HB; have HO_3 := n0_; have HO161 := n1_; have HB := n2_; clear n0_ n1_ n2_; (try clear hb); (try clear hb2); (try clear hk); (try clear hi); obtain ⟨Ao38, co38, eo38⟩ := Kd.R_slice HO161.out; subst eo38) | (go_at_call 8; (with_reducible refine (purlinlaw12_awake.calls k1  t166 _ ?side1 A33.out).mono ?_); (case side1 => exact G_below hG (by repeat (first | (with_reducible first | exact HB.out | apply below_alloc | apply pw_below_drewN | apply below_drew1) | exact HB.out))); rintro e w39 ⟨rfl, hb⟩; have n0_ := Aside0.mk (Kd.R_below (by (with_reducible repeat (first | apply Kd.R_alloc | apply Kd.R_drewN | apply Kd.R_drew)); exact HO_3.out) hb); have n1_ := Aside0.mk (Kd.R_below (by (with_reducible repeat (first | apply Kd.R_alloc | apply Kd.R_drewN | apply Kd.R_drew)); exact HO161.out) hb); have n2_ := Aside0.mk (below_step (by repeat (first | (with_reducible first | exact HB.out | apply below_alloc | apply pw_below_drewN | apply below_drew1) | exact HB.out)) hb); clear HO_3; clear HO161; clear HB; have HO_3 := n0_; have HO161 := n1_; have HB := n2_; clear n0_ n1_ n2_; (try clear hb); (try clear hb2); (try clear hk); (try clear hi)))
                      go_ret
                      exact ⟨by first | rfl | (simp [errW_none, errW_some] <;> rfl) | (simp [*, errW_none, errW_some] <;> rfl), by repeat (first | (with_reducible first | exact HB.out | apply below_alloc | apply pw_below_drewN | apply below_drew1) | exact HB.out)⟩
                    · rw [if_neg c32] at H
                      have c32b0 : (t165 == 2) = false := beq_eq_false_iff_ne.mpr c32
                      have c32b1 : (t165 != 2) = true := bne_iff_ne.mpr c32
                      exact absurd ((Option.some.inj H).trans hrT.out) (by simp)
                  · rw [if_neg c31] at H
                    have c31b0 : ((t158.length : Int) == 0) = false := beq_eq_false_iff_ne.mpr c31
                    have c31b1 : ((t158.length : Int) != 0) = true := bne_iff_ne.mpr c31
                    have c31b2 : ¬ (t158 = []) := fun h_ => c31 (by rw [h_]; rfl)
                    exact absurd ((Option.some.inj H).trans hrT.out) (by simp)
                · rw [if_neg c30] at H
                  have c30b0 : (t159 == 0) = false := beq_eq_false_iff_ne.mpr c30
                  have c30b1 : (t159 != 0) = true := bne_iff_ne.mpr c30
                  exact absurd ((Option.some.inj H).trans hrT.out) (by simp)
              · rw [if_neg c29] at H
                have c29b0 : (t157.toList == ([47] : List UInt8)) = false := beq_eq_false_iff_ne.mpr c29
                have c29b1 : (t157.toList != ([47] : List UInt8)) = true := bne_iff_ne.mpr c29
                exact absurd ((Option.some.inj H).trans hrT.out) (by simp)
            · rw [if_neg c28] at H
              have c28b0 : ((x3_1.length : Int) == 0) = false := beq_eq_false_iff_ne.mpr c28
              have c28b1 : ((x3_1.length : Int) != 0) = true := bne_iff_ne.mpr c28
              have c28b2 : ¬ (x3_1 = []) := fun h_ => c28 (by rw [h_]; rfl)
              replace H := Option.bind_eq_some_iff.mp H
              obtain ⟨⟨t167, t168⟩, A400, H⟩ := H
              replace H : (if t159 = 0 then ((purlinlaw0_SameTexts.f k1 t158 x3_1).bind fun t171 => (if t171 = true then (if t165 = 0 then (if t168 = 0 then (if t167.length < 8796093022208 then ((purlinlaw0_SameTexts.f k1 (t167 ++ [t164]) x3_1).bind fun t175 => (if t175 = true then ((purlinlaw12_awake.f k1).bind fun t176 => (some t176)) else (some false))) else (none)) else (some false)) else (some false)) else (some false))) else (some false)) = some r := H
              have A40 := Aside0.mk A400
              clear A400
              by_cases c41 : t159 = 0
              · rw [if_pos c41] at H
                have c41b0 : (t159 == 0) = true := beq_iff_eq.mpr c41
                have c41b1 : (t159 != 0) = false := bne_eq_false_iff_eq.mpr c41
                clear c41
                replace H := Option.bind_eq_some_iff.mp H
                obtain ⟨t171, A420, H⟩ := H
                replace H : (if t171 = true then (if t165 = 0 then (if t168 = 0 then (if t167.length < 8796093022208 then ((purlinlaw0_SameTexts.f k1 (t167 ++ [t164]) x3_1).bind fun t175 => (if t175 = true then ((purlinlaw12_awake.f k1).bind fun t176 => (some t176)) else (some false))) else (none)) else (some false)) else (some false)) else (some false)) = some r := H
                have A42 := Aside0.mk A420
                clear A420
                by_cases c43 : t171 = true
                · subst c43
                  have H1 : (if t165 = 0 then (if t168 = 0 then (if t167.length < 8796093022208 then ((purlinlaw0_SameTexts.f k1 (t167 ++ [t164]) x3_1).bind fun t175 => (if t175 = true then ((purlinlaw12_awake.f k1).bind fun t176 => (some t176)) else (some false))) else (none)) else (some false)) else (some false)) = some r := by rw [if_pos rfl] at H; exact H
                  clear H
                  have H := H1
                  clear H1
                  by_cases c44 : t165 = 0
                  · rw [if_pos c44] at H
                    have c44b0 : (t165 == 0) = true := beq_iff_eq.mpr c44
                    have c44b1 : (t165 != 0) = false := bne_eq_false_iff_eq.mpr c44
                    clear c44
                    by_cases c45 : t168 = 0
                    · rw [if_pos c45] at H
                      have c45b0 : (t168 == 0) = true := beq_iff_eq.mpr c45
                      have c45b1 : (t168 != 0) = false := bne_eq_false_iff_eq.mpr c45
                      clear c45
                      by_cases c46 : t167.length < 8796093022208
                      · rw [if_pos c46] at H
                        have LMc46 := Aside0.mk c46
                        clear c46
                        obtain ⟨y172, hy172⟩ : ∃ y_ : List ByteArray, y_ = (t167 ++ [t164]) := ⟨_, rfl⟩
                        replace H : ((purlinlaw0_SameTexts.f k1 y172 x3_1).bind fun t175 => (if t175 = true then ((purlinlaw12_awake.f k1).bind fun t176 => (some t176)) else (some false))) = some r := by first | (rw [hy172]; with_reducible exact H) | (have H2_ := (Option.bind_some _ _).symm.trans H; rw [hy172]; with_reducible exact H2_) | (have H2_ := (Option.bind_some _ _).symm.trans H; with_reducible exact H2_) | with_reducible exact H | (rw [hy172]; exact H) | exact H
                        have Ny172 := Aside0.mk hy172
                        clear hy172
                        replace H := Option.bind_eq_some_iff.mp H
                        obtain ⟨t175, A470, H⟩ := H
                        replace H : (if t175 = true then ((purlinlaw12_awake.f k1).bind fun t176 => (some t176)) else (some false)) = some r := H
                        have A47 := Aside0.mk A470
                        clear A470
                        by_cases c48 : t175 = true
                        · subst c48
                          have H1 : ((purlinlaw12_awake.f k1).bind fun t176 => (some t176)) = some r := by rw [if_pos rfl] at H; exact H
                          clear H
                          have H := H1
                          clear H1
                          replace H := Option.bind_eq_some_iff.mp H
                          obtain ⟨t176, A490, H⟩ := H
                          replace H : (some t176) = some r := H
                          have A49 := Aside0.mk A490
                          clear A490
                          obtain rfl := Option.some.inj H
                          obtain ⟨Ao50, co50, eo50⟩ := Kd.R_slice HO_3.out
                          subst eo50
                          go_wp2_with (first | ((with_reducible refine gate_callee (f := 19) rfl ?_); refine goesL_ (some 59) rfl rfl Tryd.func19 (by kernel_rfl) rfl #[.slice Ao50 x3_1.length co50] rfl (by (try simp only [List.map_toArray, List.map_cons, List.map_nil]); first | done | rfl | (simp only [List.length_drop, List.length_take]; rfl)) ?_; (with_reducible refine (path_Join.calls _ _ x3_1 t157 _ ?side1 ?side2 A18.out).mono ?_); (case side1 => repeat (first | exact (Kd.R_reads' HO_3.out).2.2 | (with_reducible refine Kd.C_alloc ?_ _) | (with_reducible refine Kd.C_drewN ?_ _) | (with_reducible refine Kd.C_drew ?_))); (case side2 => exact (Kd.R_reads' HO_3.out).2.1); rintro e w51 ⟨rfl, hb⟩; refine ⟨_, rfl, ?_⟩; have n0_ := Aside0.mk (Kd.R_below (by (with_reducible repeat (first | apply Kd.R_alloc | apply Kd.R_drewN | apply Kd.R_drew)); exact HO_3.out) hb); have n1_ := Aside0.mk (below_step (by repeat (first | (with_reducible first | exact HB.out | apply below_alloc | apply pw_below_drewN | apply below_drew1) | exact HB.out)) hb); clear HO_3; clear HB; have HO_3 := n0_; have HB := n1_; clear n0_ n1_; (try clear hb); (try clear hb2); (try clear hk); (try clear hi)) | ((with_reducible refine gate_callee (f := 9) rfl ?_); refine goesL_ (some 62) rfl rfl Tryd.func9 (by kernel_rfl) rfl #[.string t157] rfl (by (try simp only [List.map_toArray, List.map_cons, List.map_nil]); first | done | rfl | (simp only [List.length_drop, List.length_take]; rfl)) ?_; (with_reducible refine (path_Split.calls t157 t158 t159 _ ?side1 A19.out).mono ?_); (case side1 => exact G_below hG (by repeat (first | (with_reducible first | exact HB.out | apply below_alloc | apply pw_below_drewN | apply below_drew1) | exact HB.out))); rintro e w52 ⟨v160, rfl, ho0, hb⟩; refine ⟨_, rfl, ?_⟩; have n0_ := Aside0.mk (Kd.R_elder' (by (with_reducible repeat (first | apply Kd.R_alloc | apply Kd.R_drewN | apply Kd.R_drew)); exact HO_3.out) (Kd.R_base ho0) hb); have n1_ := Aside0.mk (Kd.R_lower (Kd.R_new' ho0 (Kd.R_lt (by (with_reducible repeat (first | apply Kd.R_alloc | apply Kd.R_drewN | apply Kd.R_drew)); exact HO_3.out))) (below_size (by repeat (first | (with_reducible first | exact HB.out | apply below_alloc | apply pw_below_drewN | apply below_drew1) | exact HB.out)))); have n2_ := Aside0.mk (below_step (by repeat (first | (with_reducible first | exact HB.out | apply below_alloc | apply pw_below_drewN | apply below_drew1) | exact HB.out)) hb); clear HO_3; clear HB; have HO_3 := n0_; have HO161 := n1_; have HB := n2_; clear n0_ n1_ n2_; (try clear hb); (try clear hb2); (try clear hk); (try clear hi); (try clear ho0)) | ((with_reducible refine gate_callee (f := 13) rfl ?_); refine goesL_ (some 74) rfl rfl Tryd.func13 (by kernel_rfl) rfl #[.string t157] rfl (by (try simp only [List.map_toArray, List.map_cons, List.map_nil]); first | done | rfl | (simp only [List.length_drop, List.length_take]; rfl)) ?_; (with_reducible refine (path_Last.calls t157 t163 t164 t165 _ ?side1 A27.out).mono ?_); (case side1 => exact G_below hG (by repeat (first | (with_reducible first | exact HB.out | apply below_alloc | apply pw_below_drewN | apply below_drew1) | exact HB.out))); rintro e w53 ⟨rfl, hb⟩; refine ⟨_, rfl, ?_⟩; have n0_ := Aside0.mk (Kd.R_below (by (with_reducible repeat (first | apply Kd.R_alloc | apply Kd.R_drewN | apply Kd.R_drew)); exact HO_3.out) hb); have n1_ := Aside0.mk (Kd.R_below (by (with_reducible repeat (first | apply Kd.R_alloc | apply Kd.R_drewN | apply Kd.R_drew)); exact HO161.out) hb); have n2_ := Aside0.mk (below_step (by repeat (first | (with_reducible first | exact HB.out | apply below_alloc | apply pw_below_drewN | apply below_drew1) | exact HB.out)) hb); clear HO_3; clear HO161; clear HB; have HO_3 := n0_; have HO161 := n1_; have HB := n2_; clear n0_ n1_ n2_; (try clear hb); (try clear hb2); (try clear hk); (try clear hi)) | ((with_reducible refine gate_callee (f := 9) rfl ?_); refine goesL_ (some 101) rfl rfl Tryd.func9 (by kernel_rfl) rfl #[.string t163] rfl (by (try simp only [List.map_toArray, List.map_cons, List.map_nil]); first | done | rfl | (simp only [List.length_drop, List.length_take]; rfl)) ?_; (with_reducible refine (path_Split.calls t163 t167 t168 _ ?side1 A40.out).mono ?_); (case side1 => exact G_below hG (by repeat (first | (with_reducible first | exact HB.out | apply below_alloc | apply pw_below_drewN | apply below_drew1) | exact HB.out))); rintro e w54 ⟨v169, rfl, ho0, hb⟩; refine ⟨_, rfl, ?_⟩; have n0_ := Aside0.mk (Kd.R_elder' (by (with_reducible repeat (first | apply Kd.R_alloc | apply Kd.R_drewN | apply Kd.R_drew)); exact HO_3.out) (Kd.R_base ho0) hb); have n1_ := Aside0.mk (Kd.R_elder' (by (with_reducible repeat (first | apply Kd.R_alloc | apply Kd.R_drewN | apply Kd.R_drew)); exact HO161.out) (Kd.R_base ho0) hb); have n2_ := Aside0.mk (Kd.R_lower (Kd.R_new' (Kd.R_new' ho0 (Kd.R_lt (by (with_reducible repeat (first | apply Kd.R_alloc | apply Kd.R_drewN | apply Kd.R_drew)); exact HO_3.out))) (Kd.R_lt (by (with_reducible repeat (first | apply Kd.R_alloc | apply Kd.R_drewN | apply Kd.R_drew)); exact HO161.out))) (below_size (by repeat (first | (with_reducible first | exact HB.out | apply below_alloc | apply pw_below_drewN | apply below_drew1) | exact HB.out)))); have n3_ := Aside0.mk (below_step (by repeat (first | (with_reducible first | exact HB.out | apply below_alloc | apply pw_below_drewN | apply below_drew1) | exact HB.out)) hb); clear HO_3; clear HO161; clear HB; have HO_3 := n0_; have HO161 := n1_; have HO170 := n2_; have HB := n3_; clear n0_ n1_ n2_ n3_; (try clear hb); (try clear hb2); (try clear hk); (try clear hi); (try clear ho0); obtain ⟨Ao55, co55, eo55⟩ := Kd.R_slice HO161.out; subst eo55) | (go_at_call 17; (with_reducible refine (purlinlaw0_SameTexts.calls k1 _ _ t158 _ _ x3_1 true _ ?side1 ?side2 ?side3 ?side4 A42.out).mono ?_); (case side1 => repeat (first | exact (Kd.R_reads' HO161.out).2.2 | (with_reducible refine Kd.C_alloc ?_ _) | (with_reducible refine Kd.C_drewN ?_ _) | (with_reducible refine Kd.C_drew ?_))); (case side2 => exact (Kd.R_reads' HO161.out).2.1); (case side3 => repeat (first | exact (Kd.R_reads' HO_3.out).2.2 | (with_reducible refine Kd.C_alloc ?_ _) | (with_reducible refine Kd.C_drewN ?_ _) | (with_reducible refine Kd.C_drew ?_))); (case side4 => exact (Kd.R_reads' HO_3.out).2.1); rintro e w' ⟨rfl, ⟨nd, rfl⟩⟩) | ((with_reducible refine gate_builtin (b := .append) (xs := #[.tmp 120, .tmp 122]) rfl ?_); (try (refine gate_guard (by rfl) ?_; dsimp only)); at_builtin; refine Kd.R_append Kd.string (w0 := w) w.heap.size rfl (.tmp 120) (.tmp 122) 23 9 (.string ⟨#[]⟩) 16 rfl Tryd.underlying23 info9 rfl (by decide) (by omega) v169 t167 t164 [.string t164] (fun k_ => some k_ ≠ (.slice Ao50 x3_1.length co50 : Value).ownBlock ∧ some k_ ≠ (.slice Ao55 t158.length co55 : Value).ownBlock) (fun _ => False) rfl rfl ?aP (fun _ hk => hk.elim) ?aF ?aO ?aB ?aS ?aL ?_; (case aP => exact rfl); (case aB => exact (by repeat (first | (with_reducible first | exact HB.out | apply below_alloc | apply pw_below_drewN | apply below_drew1) | exact HB.out))); (case aF => exact (fun k_ hk => ⟨Kd.fresh' (Kd.R_lt (by (with_reducible repeat (first | apply Kd.R_alloc | apply Kd.R_drewN | apply Kd.R_drew)); exact HO_3.out)) k_ hk, Kd.fresh' (Kd.R_lt (by (with_reducible repeat (first | apply Kd.R_alloc | apply Kd.R_drewN | apply Kd.R_drew)); exact HO161.out)) k_ hk⟩)); (case aO => exact (by (with_reducible repeat (first | apply Kd.R_alloc | apply Kd.R_drewN | apply Kd.R_drew)); exact Kd.R_mono HO170.out (fun _ hk => ⟨hk.1.2, hk.2⟩))); (case aS => exact (below_size (by repeat (first | (with_reducible first | exact HB.out | apply below_alloc | apply pw_below_drewN | apply below_drew1) | exact HB.out)))); (case aL => have := LMc46.out; omega); intro v173 w56 ho hb hg hat; rw [← Ny172.out] at ho; have n0_ := Aside0.mk (Kd.R_after (ok := (fun k_ => some k_ ≠ (.slice Ao55 t158.length co55 : Value).ownBlock)) (by (with_reducible repeat (first | apply Kd.R_alloc | apply Kd.R_drewN | apply Kd.R_drew)); exact Kd.R_mono HO_3.out (fun _ hk => ⟨hk.1.2, hk.2⟩)) hg hat); have n1_ := Aside0.mk (Kd.R_after (ok := (fun k_ => some k_ ≠ (.slice Ao50 x3_1.length co50 : Value).ownBlock)) (by (with_reducible repeat (first | apply Kd.R_alloc | apply Kd.R_drewN | apply Kd.R_drew)); exact Kd.R_mono HO161.out (fun _ hk => ⟨hk.1.2, hk.2⟩)) hg hat); have n2_ := Aside0.mk (hb); have n3_ := Aside0.mk (ho); clear HO_3; clear HO161; clear HB; clear HO170; have HO_3 := n0_; have HO161 := n1_; have HB := n2_; have HO174 := n3_; clear n0_ n1_ n2_ n3_; clear ho hb hg hat; obtain ⟨Ao57, co57, eo57⟩ := Kd.R_slice HO174.out; subst eo57) | (go_at_call 17; (with_reducible refine (purlinlaw0_SameTexts.calls k1 _ _ y172 _ _ x3_1 true _ ?side1 ?side2 ?side3 ?side4 A47.out).mono ?_); (case side1 => repeat (first | exact (Kd.R_reads' HO174.out).2.2 | (with_reducible refine Kd.C_alloc ?_ _) | (with_reducible refine Kd.C_drewN ?_ _) | (with_reducible refine Kd.C_drew ?_))); (case side2 => exact (Kd.R_reads' HO174.out).2.1); (case side3 => repeat (first | exact (Kd.R_reads' HO_3.out).2.2 | (with_reducible refine Kd.C_alloc ?_ _) | (with_reducible refine Kd.C_drewN ?_ _) | (with_reducible refine Kd.C_drew ?_))); (case side4 => exact (Kd.R_reads' HO_3.out).2.1); rintro e w' ⟨rfl, ⟨nd, rfl⟩⟩) | (go_at_call 8; (with_reducible refine (purlinlaw12_awake.calls k1  t176 _ ?side1 A49.out).mono ?_); (case side1 => exact G_below hG (by repeat (first | (with_reducible first | exact HB.out | apply below_alloc | apply pw_below_drewN | apply below_drew1) | exact HB.out))); rintro e w58 ⟨rfl, hb⟩; have n0_ := Aside0.mk (Kd.R_below (by (with_reducible repeat (first | apply Kd.R_alloc | apply Kd.R_drewN | apply Kd.R_drew)); exact HO_3.out) hb); have n1_ := Aside0.mk (Kd.R_below (by (with_reducible repeat (first | apply Kd.R_alloc | apply Kd.R_drewN | apply Kd.R_drew)); exact HO161.out) hb); have n2_ := Aside0.mk (Kd.R_below (by (with_reducible repeat (first | apply Kd.R_alloc | apply Kd.R_drewN | apply Kd.R_drew)); exact HO174.out) hb); have n3_ := Aside0.mk (below_step (by repeat (first | (with_reducible first | exact HB.out | apply below_alloc | apply pw_below_drewN | apply below_drew1) | exact HB.out)) hb); clear HO_3; clear HO161; clear HO174; clear HB; have HO_3 := n0_; have HO161 := n1_; have HO174 := n2_; have HB := n3_; clear n0_ n1_ n2_ n3_; (try clear hb); (try clear hb2); (try clear hk); (try clear hi)))
                          go_ret
                          exact ⟨by first | rfl | (simp [errW_none, errW_some] <;> rfl) | (simp [*, errW_none, errW_some] <;> rfl), by repeat (first | (with_reducible first | exact HB.out | apply below_alloc | apply pw_below_drewN | apply below_drew1) | exact HB.out)⟩
                        · replace c48 := Bool.eq_false_iff.mpr c48
                          subst c48
                          have H1 : (some false) = some r := by rw [if_neg (show ¬ (false = true) by decide)] at H; exact H
                          clear H
                          have H := H1
                          clear H1
                          exact absurd ((Option.some.inj H).trans hrT.out) (by simp)
                      · rw [if_neg c46] at H
                        exact absurd H (by simp)
                    · rw [if_neg c45] at H
                      have c45b0 : (t168 == 0) = false := beq_eq_false_iff_ne.mpr c45
                      have c45b1 : (t168 != 0) = true := bne_iff_ne.mpr c45
                      exact absurd ((Option.some.inj H).trans hrT.out) (by simp)
                  · rw [if_neg c44] at H
                    have c44b0 : (t165 == 0) = false := beq_eq_false_iff_ne.mpr c44
                    have c44b1 : (t165 != 0) = true := bne_iff_ne.mpr c44
                    exact absurd ((Option.some.inj H).trans hrT.out) (by simp)
                · replace c43 := Bool.eq_false_iff.mpr c43
                  subst c43
                  have H1 : (some false) = some r := by rw [if_neg (show ¬ (false = true) by decide)] at H; exact H
                  clear H
                  have H := H1
                  clear H1
                  exact absurd ((Option.some.inj H).trans hrT.out) (by simp)
              · rw [if_neg c41] at H
                have c41b0 : (t159 == 0) = false := beq_eq_false_iff_ne.mpr c41
                have c41b1 : (t159 != 0) = true := bne_iff_ne.mpr c41
                exact absurd ((Option.some.inj H).trans hrT.out) (by simp)

/-- THE ONE PURE STATEMENT of purlinlaw12_PathParts: yours. -/
def purlinlaw12_PathParts.Pure : Prop := ∀ (l0 : List Int), l0.length ≤ maxLen → l0.length * 8 ≤ 140737488351232 → (∀ x ∈ l0, (Lit.int .i64 x).wf = true) → ∃ k, purlinlaw12_PathParts.f k l0 = some true
theorem purlinlaw12_PathParts.walk (P : purlinlaw12_PathParts.Pure) (a0 : Option Addr) (len0 cap0 : Nat) (z0 : List Int) (w : World) (hG : G w) (w0 : (a0 = none ∧ len0 = 0 ∧ cap0 = 0 ∧ z0 = []) ∨ ∃ x, a0 = some x ∧ len0 ≤ cap0 ∧ cap0 ≤ maxLen ∧ z0.length = cap0 ∧ (∀ i, i < z0.length → w.cell? (x.add i) = some (.int .i64 (z0.getD i 0))) ∧ ∀ n ∈ z0, (Lit.int .i64 n).wf = true) (y0 : len0 * 8 ≤ 140737488351232) :
    Calls Tryd.prog 5 #[.slice a0 len0 cap0] w fun e w' => e = .returned (.bool true) ∧ Below w.heap.size w w' := by
  obtain ⟨l0, rfl, hr0, hm0, hw0, hc0⟩ := ReadsInt.ofRowC w0
  obtain ⟨k, h⟩ := P l0 hm0 y0 hw0
  refine (purlinlaw12_PathParts.calls k _ _ l0 true w hG (Kd.C_of_reads (d := (0 : Int)) (h1 := fun _ => rfl) hr0) hc0 (Aside0.mk rfl) h).mono ?_
  rintro e w' ⟨rfl, hd⟩
  exact ⟨rfl, hd⟩

end Go.Proofs.YtblejdnjemcpcaaDoor.PPathParts
