/- The walk of the law, part 2: made by the kit's print, and mended by hand. -/
import Derived.Test.YtibjgmhhecbhbaaDoorPLongx0
import Derived.Test.YtibjgmhhecbhbaaDoorPLongx1
namespace Go.Proofs.YtibjgmhhecbhbaaDoor.PSpellLong
open Go.RowKit Go.Proofs.YtibjgmhhecbhbaaDoorW.PrintWords Go.Proofs.YtibjgmhhecbhbaaDoorW.PrintLast Go.Proofs.YtibjgmhhecbhbaaDoorW.PrintMore Go.Proofs.YtibjgmhhecbhbaaDoor.Hand
attribute [local go_sem] max2_int min2_int max_two min_two max_three min_three max_four min_four   -- for this text's walks alone
set_option linter.unusedVariables false
set_option linter.unusedSimpArgs false

/-! ### purlinlaw25_SpellLong: function 5 -/
mutual
def purlinlaw25_SpellLong.l0 : Nat → ByteArray → Int → List Int → Int → Int → Int → Int → Int → Int → ByteArray → ByteArray → List Int → Option (Bool)
  | 0, _, _, _, _, _, _, _, _, _, _, _, _ => none
  | k + 1, x3, x4, x5, x6, x139000, x139001, x139002, x139003, x139004, x139005, x139006, x139007 => if x6 < 4 then (if 0 ≤ x6 then (if x6 < (x5.length : Int) then (if (rd x5 x6) = 0 then (purlinlaw25_SpellLong.l0 k x3 x4 x5 (wrap64 (x6 + 1)) x139000 x139001 x139002 x139003 x139004 x139005 x139006 x139007) else (purlinlaw25_SpellLong.l1 k x3 x4 x5 x6 0 (rd x5 x6) x139000 x139001 x139002 x139003 x139004 x139005 x139006 x139007)) else (none)) else (none)) else (purlinlaw25_SpellLong.l2 k x3 x4 (([(x139005.size : Int), (x139006.size : Int), (x139007.length : Int)] : List Int)) 0 x139000 x139001 x139002 x139003 x139004 x139005 x139006 x139007)
def purlinlaw25_SpellLong.l1 : Nat → ByteArray → Int → List Int → Int → Int → Int → Int → Int → Int → Int → Int → ByteArray → ByteArray → List Int → Option (Bool)
  | 0, _, _, _, _, _, _, _, _, _, _, _, _, _, _ => none
  | k + 1, x3, x4, x5, x6, x7, x8, x139000, x139001, x139002, x139003, x139004, x139005, x139006, x139007 => if x8 = 0 then (if 0 ≤ x6 then (if x6 < (x5.length : Int) then (if (rd x5 x6) < 0 then ((some (([4, 3, 5, 7] : List Int) : List Int)).bind fun y149 => (if x6 < (y149.length : Int) then (purlinlaw25_SpellLong.l0 k x3 (wrap64 ((wrap64 (x4 + (rd y149 x6))) + (wrap64 (x7 + 1)))) x5 (wrap64 (x6 + 1)) x139000 x139001 x139002 x139003 x139004 x139005 x139006 x139007) else (none))) else ((some (([4, 3, 5, 7] : List Int) : List Int)).bind fun y153 => (if x6 < (y153.length : Int) then (purlinlaw25_SpellLong.l0 k x3 (wrap64 ((wrap64 (x4 + (rd y153 x6))) + x7)) x5 (wrap64 (x6 + 1)) x139000 x139001 x139002 x139003 x139004 x139005 x139006 x139007) else (none)))) else (none)) else (none)) else (purlinlaw25_SpellLong.l1 k x3 x4 x5 x6 (wrap64 (x7 + 1)) (wrap64 (Int.tdiv x8 10)) x139000 x139001 x139002 x139003 x139004 x139005 x139006 x139007)
def purlinlaw25_SpellLong.l2 : Nat → ByteArray → Int → List Int → Int → Int → Int → Int → Int → Int → ByteArray → ByteArray → List Int → Option (Bool)
  | 0, _, _, _, _, _, _, _, _, _, _, _, _ => none
  | k + 1, x3, x4, x9, x10, x139000, x139001, x139002, x139003, x139004, x139005, x139006, x139007 => if x10 < 3 then (if 0 ≤ x10 then (if x10 < (x9.length : Int) then (if (rd x9 x10) > 0 then ((some (([6, 4, 6] : List Int) : List Int)).bind fun y161 => (if x10 < (y161.length : Int) then (purlinlaw25_SpellLong.l2 k x3 (wrap64 ((wrap64 (x4 + (rd y161 x10))) + (wrap64 (2 * (rd x9 x10))))) x9 (wrap64 (x10 + 1)) x139000 x139001 x139002 x139003 x139004 x139005 x139006 x139007) else (none))) else (purlinlaw25_SpellLong.l2 k x3 x4 x9 (wrap64 (x10 + 1)) x139000 x139001 x139002 x139003 x139004 x139005 x139006 x139007)) else (none)) else (none)) else ((spell_Say.f x139000 x139001 x139002 x139003 x139004 x139005 x139006 x139007).bind fun t166 => ((spell_Read.f x3).bind fun bt167 => (if (t166.size : Int) = x4 then (if 0 ≤ (mn (x3.size : Int) (t166.size : Int)) then (if (mn (x3.size : Int) (t166.size : Int)) ≤ (t166.size : Int) then (if (t166.extract 0 ((mn (x3.size : Int) (t166.size : Int)) : Int).toNat).toList = x3.toList then (if bt167.2.2.2.2.2.2.2.2 = 0 then (if bt167.1 = x139000 then ((spell_Same.f bt167.1 bt167.2.1 bt167.2.2.1 bt167.2.2.2.1 bt167.2.2.2.2.1 bt167.2.2.2.2.2.1 bt167.2.2.2.2.2.2.1 bt167.2.2.2.2.2.2.2.1 x139000 0 0 0 0 (⟨#[]⟩ : ByteArray) (⟨#[]⟩ : ByteArray) ([] : List Int)).bind fun t179 => (if t179 = true then ((purlinlaw25_awake.f k).bind fun t180 => (some t180)) else (some false))) else (some false)) else (some false)) else (some false)) else (none)) else (none)) else (some false))))
end
def purlinlaw25_SpellLong.f (k : Nat) (a0_0 : Int) (a0_1 : Int) (a0_2 : Int) (a0_3 : Int) (a0_4 : Int) (a0_5 : ByteArray) (a0_6 : ByteArray) (l0_7 : List Int) : Option (Bool) := (purlinlaw0_Great.f a0_0 a0_1 a0_2 a0_3 a0_4 a0_5 a0_6 l0_7).bind fun t139 => (if t139 = true then ((purlinlaw25_awake.f k).bind fun t140 => (some t140)) else ((purlinlaw0_Low.f a0_0 23).bind fun t141 => ((spell_Say.f (wrap64 (1 + t141)) 0 0 0 0 (⟨#[]⟩ : ByteArray) (⟨#[]⟩ : ByteArray) ([] : List Int)).bind fun t142 => (purlinlaw25_SpellLong.l0 k t142 (t142.size : Int) (([a0_1, a0_2, a0_3, a0_4] : List Int)) 0 (wrap64 (1 + t141)) a0_1 a0_2 a0_3 a0_4 a0_5 a0_6 l0_7))))
theorem purlinlaw25_SpellLong.mono_l : ∀ k, (∀ y0 y1 y2 y3 y4 y5 y6 y7 y8 y9 y10 y11, LeO (purlinlaw25_SpellLong.l0 k y0 y1 y2 y3 y4 y5 y6 y7 y8 y9 y10 y11) (purlinlaw25_SpellLong.l0 (k + 1) y0 y1 y2 y3 y4 y5 y6 y7 y8 y9 y10 y11)) ∧ (∀ y0 y1 y2 y3 y4 y5 y6 y7 y8 y9 y10 y11 y12 y13, LeO (purlinlaw25_SpellLong.l1 k y0 y1 y2 y3 y4 y5 y6 y7 y8 y9 y10 y11 y12 y13) (purlinlaw25_SpellLong.l1 (k + 1) y0 y1 y2 y3 y4 y5 y6 y7 y8 y9 y10 y11 y12 y13)) ∧ (∀ y0 y1 y2 y3 y4 y5 y6 y7 y8 y9 y10 y11, LeO (purlinlaw25_SpellLong.l2 k y0 y1 y2 y3 y4 y5 y6 y7 y8 y9 y10 y11) (purlinlaw25_SpellLong.l2 (k + 1) y0 y1 y2 y3 y4 y5 y6 y7 y8 y9 y10 y11))
  | 0 => ⟨fun _ _ _ _ _ _ _ _ _ _ _ _ r h => by simp [purlinlaw25_SpellLong.l0] at h, fun _ _ _ _ _ _ _ _ _ _ _ _ _ _ r h => by simp [purlinlaw25_SpellLong.l1] at h, fun _ _ _ _ _ _ _ _ _ _ _ _ r h => by simp [purlinlaw25_SpellLong.l2] at h⟩
  | k + 1 => by
    obtain ⟨ih0, ih1, ih2⟩ := purlinlaw25_SpellLong.mono_l k
    refine ⟨?_, ?_, ?_⟩
    · intro y0 y1 y2 y3 y4 y5 y6 y7 y8 y9 y10 y11
      unfold purlinlaw25_SpellLong.l0
      repeat' first
      | (with_reducible exact ih0 _ _ _ _ _ _ _ _ _ _ _ _)
      | (with_reducible exact ih1 _ _ _ _ _ _ _ _ _ _ _ _ _ _)
      | (with_reducible exact ih2 _ _ _ _ _ _ _ _ _ _ _ _)
      | (with_reducible exact purlinlaw25_awake.mono _)
      | (with_reducible exact LeO.refl _)
      | (with_reducible exact LeO.none _)
      | (with_reducible refine LeO.ite ?_ ?_)
      | (with_reducible refine LeO.bind ?_ (fun _ => ?_))
      | exact ih0 _ _ _ _ _ _ _ _ _ _ _ _
      | exact ih1 _ _ _ _ _ _ _ _ _ _ _ _ _ _
      | exact ih2 _ _ _ _ _ _ _ _ _ _ _ _
      | exact purlinlaw25_awake.mono _
      | exact LeO.none _
      | refine LeO.ite ?_ ?_
      | refine LeO.bind ?_ (fun _ => ?_)
    · intro y0 y1 y2 y3 y4 y5 y6 y7 y8 y9 y10 y11 y12 y13
      unfold purlinlaw25_SpellLong.l1
      repeat' first
      | (with_reducible exact ih0 _ _ _ _ _ _ _ _ _ _ _ _)
      | (with_reducible exact ih1 _ _ _ _ _ _ _ _ _ _ _ _ _ _)
      | (with_reducible exact ih2 _ _ _ _ _ _ _ _ _ _ _ _)
      | (with_reducible exact purlinlaw25_awake.mono _)
      | (with_reducible exact LeO.refl _)
      | (with_reducible exact LeO.none _)
      | (with_reducible refine LeO.ite ?_ ?_)
      | (with_reducible refine LeO.bind ?_ (fun _ => ?_))
      | exact ih0 _ _ _ _ _ _ _ _ _ _ _ _
      | exact ih1 _ _ _ _ _ _ _ _ _ _ _ _ _ _
      | exact ih2 _ _ _ _ _ _ _ _ _ _ _ _
      | exact purlinlaw25_awake.mono _
      | exact LeO.none _
      | refine LeO.ite ?_ ?_
      | refine LeO.bind ?_ (fun _ => ?_)
    · intro y0 y1 y2 y3 y4 y5 y6 y7 y8 y9 y10 y11
      unfold purlinlaw25_SpellLong.l2
      repeat' first
      | (with_reducible exact ih0 _ _ _ _ _ _ _ _ _ _ _ _)
      | (with_reducible exact ih1 _ _ _ _ _ _ _ _ _ _ _ _ _ _)
      | (with_reducible exact ih2 _ _ _ _ _ _ _ _ _ _ _ _)
      | (with_reducible exact purlinlaw25_awake.mono _)
      | (with_reducible exact LeO.refl _)
      | (with_reducible exact LeO.none _)
      | (with_reducible refine LeO.ite ?_ ?_)
      | (with_reducible refine LeO.bind ?_ (fun _ => ?_))
      | exact ih0 _ _ _ _ _ _ _ _ _ _ _ _
      | exact ih1 _ _ _ _ _ _ _ _ _ _ _ _ _ _
      | exact ih2 _ _ _ _ _ _ _ _ _ _ _ _
      | exact purlinlaw25_awake.mono _
      | exact LeO.none _
      | refine LeO.ite ?_ ?_
      | refine LeO.bind ?_ (fun _ => ?_)
theorem purlinlaw25_SpellLong.mono : ∀ a0 a1 a2 a3 a4 a5 a6 a7 k, LeO (purlinlaw25_SpellLong.f k a0 a1 a2 a3 a4 a5 a6 a7) (purlinlaw25_SpellLong.f (k + 1) a0 a1 a2 a3 a4 a5 a6 a7) := by
  intro a0 a1 a2 a3 a4 a5 a6 a7 k
  obtain ⟨ih0, ih1, ih2⟩ := purlinlaw25_SpellLong.mono_l k
  unfold purlinlaw25_SpellLong.f
  repeat' first
      | (with_reducible exact ih0 _ _ _ _ _ _ _ _ _ _ _ _)
      | (with_reducible exact ih1 _ _ _ _ _ _ _ _ _ _ _ _ _ _)
      | (with_reducible exact ih2 _ _ _ _ _ _ _ _ _ _ _ _)
      | (with_reducible exact purlinlaw25_awake.mono _)
      | (with_reducible exact LeO.refl _)
      | (with_reducible exact LeO.none _)
      | (with_reducible refine LeO.ite ?_ ?_)
      | (with_reducible refine LeO.bind ?_ (fun _ => ?_))
      | exact ih0 _ _ _ _ _ _ _ _ _ _ _ _
      | exact ih1 _ _ _ _ _ _ _ _ _ _ _ _ _ _
      | exact ih2 _ _ _ _ _ _ _ _ _ _ _ _
      | exact purlinlaw25_awake.mono _
      | exact LeO.none _
      | refine LeO.ite ?_ ?_
      | refine LeO.bind ?_ (fun _ => ?_)
def purlinlaw25_SpellLong.T24 : Bool × List (List Nat × List Nat) := (true, [([], []), ([], []), ([], []), ([1, 2], [1, 2]), ([3], [3]), ([0, 4], [0, 4]), ([], []), ([], []), ([6, 7], [6, 7]), ([8], [8]), ([9], [9]), ([5, 10], [5, 10]), ([11, 0, 1, 2, 3, 4, 5, 6, 7, 8, 9, 10, 11], [0, 11])])
def purlinlaw25_SpellLong.B24 : List Nat := [0, 0, 0, 6, 14, 31, 0, 0, 192, 448, 960, 2047, 4095]
theorem purlinlaw25_SpellLong.tab24 : rtab .any (opsOf Tryd.f5 24) = purlinlaw25_SpellLong.T24 := by kernel_rfl
theorem purlinlaw25_SpellLong.bits24 : waitsOk purlinlaw25_SpellLong.T24.2 purlinlaw25_SpellLong.B24 = true := by kernel_rfl
set_option maxHeartbeats 8000000 in
set_option maxRecDepth 100000 in
theorem purlinlaw25_SpellLong.calls (k : Nat) (a0_0 : Int) (a0_1 : Int) (a0_2 : Int) (a0_3 : Int) (a0_4 : Int) (a0_5 : ByteArray) (a0_6 : ByteArray) (A0_7 : Option Addr) (c0_7 : Nat) (l0_7 : List Int) (r : Bool) (w : World) (hG : G w) (hr0_7 : Kd.C (Kd.int .u8) w A0_7 l0_7.length l0_7) (hc0_7 : l0_7.length ≤ c0_7) (hrT : Aside0 (r = true)) (h : purlinlaw25_SpellLong.f k a0_0 a0_1 a0_2 a0_3 a0_4 a0_5 a0_6 l0_7 = some r) :
    Calls Tryd.prog 5 #[.agg #[.int .i64 a0_0, .int .i64 a0_1, .int .i64 a0_2, .int .i64 a0_3, .int .i64 a0_4, .string a0_5, .string a0_6, .slice A0_7 l0_7.length c0_7]] w fun e w' => e = .returned (.bool r) ∧ Below w.heap.size w w' := by
  have hu24 := Tryd.underlying24
  have HR0_7 := Aside0.mk hr0_7
  have HC0_7 := Aside0.mk hc0_7
  clear hr0_7 hc0_7
  have HB := Aside0.mk (Below.refl w.heap.size w)
  have H : ((purlinlaw0_Great.f a0_0 a0_1 a0_2 a0_3 a0_4 a0_5 a0_6 l0_7).bind fun t139 => (if t139 = true then ((purlinlaw25_awake.f k).bind fun t140 => (some t140)) else ((purlinlaw0_Low.f a0_0 23).bind fun t141 => ((spell_Say.f (wrap64 (1 + t141)) 0 0 0 0 (⟨#[]⟩ : ByteArray) (⟨#[]⟩ : ByteArray) ([] : List Int)).bind fun t142 => (purlinlaw25_SpellLong.l0 k t142 (t142.size : Int) (([a0_1, a0_2, a0_3, a0_4] : List Int)) 0 (wrap64 (1 + t141)) a0_1 a0_2 a0_3 a0_4 a0_5 a0_6 l0_7))))) = some r := h
  clear h
  replace H := Option.bind_eq_some_iff.mp H
  obtain ⟨t139, A20, H⟩ := H
  replace H : (if t139 = true then ((purlinlaw25_awake.f k).bind fun t140 => (some t140)) else ((purlinlaw0_Low.f a0_0 23).bind fun t141 => ((spell_Say.f (wrap64 (1 + t141)) 0 0 0 0 (⟨#[]⟩ : ByteArray) (⟨#[]⟩ : ByteArray) ([] : List Int)).bind fun t142 => (purlinlaw25_SpellLong.l0 k t142 (t142.size : Int) (([a0_1, a0_2, a0_3, a0_4] : List Int)) 0 (wrap64 (1 + t141)) a0_1 a0_2 a0_3 a0_4 a0_5 a0_6 l0_7)))) = some r := H
  have A2 := Aside0.mk A20
  clear A20
  by_cases c3 : t139 = true
  · subst c3
    have H1 : ((purlinlaw25_awake.f k).bind fun t140 => (some t140)) = some r := by rw [if_pos rfl] at H; exact H
    clear H
    have H := H1
    clear H1
    replace H := Option.bind_eq_some_iff.mp H
    obtain ⟨t140, A40, H⟩ := H
    replace H : (some t140) = some r := H
    have A4 := Aside0.mk A40
    clear A40
    obtain rfl := Option.some.inj H
    go_enter Tryd.func5, Tryd.ntmps5
    go_wp2_with (first | ((with_reducible refine gate_dst (N := 1) rfl ?_); (try (refine gate_guard (by rfl) ?_; dsimp only)); refine box_event ?hg (N := 1) ?hd (cs := #[.int .i64 a0_0, .int .i64 a0_1, .int .i64 a0_2, .int .i64 a0_3, .int .i64 a0_4, .string a0_5, .string a0_6, .slice A0_7 l0_7.length c0_7]) (t := 24) ?hr ?_; (case hd => rfl); (case hg => rfl); (case hr => first | (go_simp; done) | (go_simp; rfl)); intro gb138 hg w5 hbox hb; have n0_ := Aside0.mk (below_step (by repeat (first | (with_reducible first | exact HB.out | apply below_alloc | apply pw_below_drewN | apply below_drew1) | exact HB.out)) hb); have n1_ := Aside0.mk (hbox); have n2_ := Aside0.mk ((by rw [hg]; exact (below_size (by repeat (first | (with_reducible first | exact HB.out | apply below_alloc | apply pw_below_drewN | apply below_drew1) | exact HB.out))) : w.heap.size ≤ gb138)); have n3_ := Aside0.mk ((by rw [hg]; exact (below_size (by repeat (first | (with_reducible first | exact HB.out | apply below_alloc | apply pw_below_drewN | apply below_drew1) | exact HB.out))) : w.heap.size ≤ gb138)); clear HB; have HB := n0_; have BK138 := n1_; have GW138 := n2_; have GE138 := n3_; clear n0_ n1_ n2_ n3_; clear hb hbox hg; have hcz6_0 : w5.cell? ⟨gb138, 0, none⟩ = some (.int .i64 a0_0) := (blk_cell BK138.out 0).trans rfl; have hcz6_1 : w5.cell? ⟨gb138, 1, none⟩ = some (.int .i64 a0_1) := (blk_cell BK138.out 1).trans rfl; have hcz6_2 : w5.cell? ⟨gb138, 2, none⟩ = some (.int .i64 a0_2) := (blk_cell BK138.out 2).trans rfl; have hcz6_3 : w5.cell? ⟨gb138, 3, none⟩ = some (.int .i64 a0_3) := (blk_cell BK138.out 3).trans rfl; have hcz6_4 : w5.cell? ⟨gb138, 4, none⟩ = some (.int .i64 a0_4) := (blk_cell BK138.out 4).trans rfl; have hcz6_5 : w5.cell? ⟨gb138, 5, none⟩ = some (.string a0_5) := (blk_cell BK138.out 5).trans rfl; have hcz6_6 : w5.cell? ⟨gb138, 6, none⟩ = some (.string a0_6) := (blk_cell BK138.out 6).trans rfl; have hcz6_7 : w5.cell? ⟨gb138, 7, none⟩ = some (.slice A0_7 l0_7.length c0_7) := (blk_cell BK138.out 7).trans rfl; have hfz6_0 := blk_frozen BK138.out 0; have hfz6_1 := blk_frozen BK138.out 1; have hfz6_2 := blk_frozen BK138.out 2; have hfz6_3 := blk_frozen BK138.out 3; have hfz6_4 := blk_frozen BK138.out 4; have hfz6_5 := blk_frozen BK138.out 5; have hfz6_6 := blk_frozen BK138.out 6; have hfz6_7 := blk_frozen BK138.out 7) | ((with_reducible refine gate_callee (f := 6) rfl ?_); refine goesL_ (some 15) rfl rfl Tryd.func6 (by kernel_rfl) rfl #[.agg #[.int .i64 a0_0, .int .i64 a0_1, .int .i64 a0_2, .int .i64 a0_3, .int .i64 a0_4, .string a0_5, .string a0_6, .slice A0_7 l0_7.length c0_7]] rfl (by (try simp only [List.map_toArray, List.map_cons, List.map_nil]); first | done | rfl | (simp only [List.length_drop, List.length_take]; rfl)) ?_; (with_reducible refine (purlinlaw0_Great.calls a0_0 a0_1 a0_2 a0_3 a0_4 a0_5 a0_6 _ _ l0_7 true _ ?side1 ?side2 A2.out).mono ?_); (case side1 => repeat (first | exact (Kd.C_below HR0_7.out HB.out) | (with_reducible refine Kd.C_alloc ?_ _) | (with_reducible refine Kd.C_drewN ?_ _) | (with_reducible refine Kd.C_drew ?_))); (case side2 => exact HC0_7.out); rintro e w7 ⟨rfl, hb⟩; refine ⟨_, rfl, ?_⟩; have n0_ := Aside0.mk (blk_below (g := gb138) (o := .cells #[.int .i64 a0_0, .int .i64 a0_1, .int .i64 a0_2, .int .i64 a0_3, .int .i64 a0_4, .string a0_5, .string a0_6, .slice A0_7 l0_7.length c0_7] 24 (0, 0)) (by (with_reducible repeat (first | refine blk_drewN ?_ _ | refine blk_drew ?_ | refine blk_alloc ?_ _)); exact BK138.out) hb); have n1_ := Aside0.mk (below_step (by repeat (first | (with_reducible first | exact HB.out | apply below_alloc | apply pw_below_drewN | apply below_drew1 | refine below_set ?_ GE138.out) | exact HB.out)) hb); clear BK138; clear HB; have BK138 := n0_; have HB := n1_; clear n0_ n1_; (try clear hb); (try clear hb2); (try clear hk); (try clear hi)) | ((with_reducible refine gate_callee (f := 7) rfl ?_); refine goesL_ (some 16) rfl rfl Tryd.func7 (by kernel_rfl) rfl #[] rfl (by (try simp only [List.map_toArray, List.map_cons, List.map_nil]); first | done | rfl | (simp only [List.length_drop, List.length_take]; rfl)) ?_; (with_reducible refine (purlinlaw25_awake.calls k  t140 _ ?side1 A4.out).mono ?_); (case side1 => exact G_below hG (by repeat (first | (with_reducible first | exact HB.out | apply below_alloc | apply pw_below_drewN | apply below_drew1 | refine below_set ?_ GE138.out) | exact HB.out))); rintro e w8 ⟨rfl, hb⟩; refine ⟨_, rfl, ?_⟩; have n0_ := Aside0.mk (blk_below (g := gb138) (o := .cells #[.int .i64 a0_0, .int .i64 a0_1, .int .i64 a0_2, .int .i64 a0_3, .int .i64 a0_4, .string a0_5, .string a0_6, .slice A0_7 l0_7.length c0_7] 24 (0, 0)) (by (with_reducible repeat (first | refine blk_drewN ?_ _ | refine blk_drew ?_ | refine blk_alloc ?_ _)); exact BK138.out) hb); have n1_ := Aside0.mk (below_step (by repeat (first | (with_reducible first | exact HB.out | apply below_alloc | apply pw_below_drewN | apply below_drew1 | refine below_set ?_ GE138.out) | exact HB.out)) hb); clear BK138; clear HB; have BK138 := n0_; have HB := n1_; clear n0_ n1_; (try clear hb); (try clear hb2); (try clear hk); (try clear hi)))
    go_ret
    exact ⟨by first | rfl | (simp [errW_none, errW_some] <;> rfl) | (simp [*, errW_none, errW_some] <;> rfl), by repeat (first | (with_reducible first | exact HB.out | apply below_alloc | apply pw_below_drewN | apply below_drew1 | refine below_set ?_ GE138.out) | exact HB.out)⟩
  · replace c3 := Bool.eq_false_iff.mpr c3
    subst c3
    have H1 : ((purlinlaw0_Low.f a0_0 23).bind fun t141 => ((spell_Say.f (wrap64 (1 + t141)) 0 0 0 0 (⟨#[]⟩ : ByteArray) (⟨#[]⟩ : ByteArray) ([] : List Int)).bind fun t142 => (purlinlaw25_SpellLong.l0 k t142 (t142.size : Int) (([a0_1, a0_2, a0_3, a0_4] : List Int)) 0 (wrap64 (1 + t141)) a0_1 a0_2 a0_3 a0_4 a0_5 a0_6 l0_7))) = some r := by rw [if_neg (show ¬ (false = true) by decide)] at H; exact H
    clear H
    have H := H1
    clear H1
    replace H := Option.bind_eq_some_iff.mp H
    obtain ⟨t141, A90, H⟩ := H
    replace H : ((spell_Say.f (wrap64 (1 + t141)) 0 0 0 0 (⟨#[]⟩ : ByteArray) (⟨#[]⟩ : ByteArray) ([] : List Int)).bind fun t142 => (purlinlaw25_SpellLong.l0 k t142 (t142.size : Int) (([a0_1, a0_2, a0_3, a0_4] : List Int)) 0 (wrap64 (1 + t141)) a0_1 a0_2 a0_3 a0_4 a0_5 a0_6 l0_7)) = some r := H
    have A9 := Aside0.mk A90
    clear A90
    replace H := Option.bind_eq_some_iff.mp H
    obtain ⟨t142, A100, H⟩ := H
    replace H : (purlinlaw25_SpellLong.l0 k t142 (t142.size : Int) (([a0_1, a0_2, a0_3, a0_4] : List Int)) 0 (wrap64 (1 + t141)) a0_1 a0_2 a0_3 a0_4 a0_5 a0_6 l0_7) = some r := H
    have A10 := Aside0.mk A100
    clear A100
    obtain ⟨y143, hy143⟩ : ∃ y_ : List Int, y_ = (([a0_1, a0_2, a0_3, a0_4] : List Int)) := ⟨_, rfl⟩
    replace H : (purlinlaw25_SpellLong.l0 k t142 (t142.size : Int) y143 0 (wrap64 (1 + t141)) a0_1 a0_2 a0_3 a0_4 a0_5 a0_6 l0_7) = some r := by first | (rw [hy143]; with_reducible exact H) | (have H2_ := (Option.bind_some _ _).symm.trans H; rw [hy143]; with_reducible exact H2_) | (have H2_ := (Option.bind_some _ _).symm.trans H; with_reducible exact H2_) | with_reducible exact H | (rw [hy143]; exact H) | exact H
    have Ny143 := Aside0.mk hy143
    clear hy143
    have H' := Aside0.mk H
    clear H
    go_enter Tryd.func5, Tryd.ntmps5
    go_wp2_with (first | ((with_reducible refine gate_dst (N := 1) rfl ?_); (try (refine gate_guard (by rfl) ?_; dsimp only)); refine box_event ?hg (N := 1) ?hd (cs := #[.int .i64 a0_0, .int .i64 a0_1, .int .i64 a0_2, .int .i64 a0_3, .int .i64 a0_4, .string a0_5, .string a0_6, .slice A0_7 l0_7.length c0_7]) (t := 24) ?hr ?_; (case hd => rfl); (case hg => rfl); (case hr => first | (go_simp; done) | (go_simp; rfl)); intro gb138 hg w11 hbox hb; have n0_ := Aside0.mk (below_step (by repeat (first | (with_reducible first | exact HB.out | apply below_alloc | apply pw_below_drewN | apply below_drew1) | exact HB.out)) hb); have n1_ := Aside0.mk (hbox); have n2_ := Aside0.mk ((by rw [hg]; exact (below_size (by repeat (first | (with_reducible first | exact HB.out | apply below_alloc | apply pw_below_drewN | apply below_drew1) | exact HB.out))) : w.heap.size ≤ gb138)); have n3_ := Aside0.mk ((by rw [hg]; exact (below_size (by repeat (first | (with_reducible first | exact HB.out | apply below_alloc | apply pw_below_drewN | apply below_drew1) | exact HB.out))) : w.heap.size ≤ gb138)); clear HB; have HB := n0_; have BK138 := n1_; have GW138 := n2_; have GE138 := n3_; clear n0_ n1_ n2_ n3_; clear hb hbox hg; have hcz12_0 : w11.cell? ⟨gb138, 0, none⟩ = some (.int .i64 a0_0) := (blk_cell BK138.out 0).trans rfl; have hcz12_1 : w11.cell? ⟨gb138, 1, none⟩ = some (.int .i64 a0_1) := (blk_cell BK138.out 1).trans rfl; have hcz12_2 : w11.cell? ⟨gb138, 2, none⟩ = some (.int .i64 a0_2) := (blk_cell BK138.out 2).trans rfl; have hcz12_3 : w11.cell? ⟨gb138, 3, none⟩ = some (.int .i64 a0_3) := (blk_cell BK138.out 3).trans rfl; have hcz12_4 : w11.cell? ⟨gb138, 4, none⟩ = some (.int .i64 a0_4) := (blk_cell BK138.out 4).trans rfl; have hcz12_5 : w11.cell? ⟨gb138, 5, none⟩ = some (.string a0_5) := (blk_cell BK138.out 5).trans rfl; have hcz12_6 : w11.cell? ⟨gb138, 6, none⟩ = some (.string a0_6) := (blk_cell BK138.out 6).trans rfl; have hcz12_7 : w11.cell? ⟨gb138, 7, none⟩ = some (.slice A0_7 l0_7.length c0_7) := (blk_cell BK138.out 7).trans rfl; have hfz12_0 := blk_frozen BK138.out 0; have hfz12_1 := blk_frozen BK138.out 1; have hfz12_2 := blk_frozen BK138.out 2; have hfz12_3 := blk_frozen BK138.out 3; have hfz12_4 := blk_frozen BK138.out 4; have hfz12_5 := blk_frozen BK138.out 5; have hfz12_6 := blk_frozen BK138.out 6; have hfz12_7 := blk_frozen BK138.out 7) | ((with_reducible refine gate_callee (f := 6) rfl ?_); refine goesL_ (some 15) rfl rfl Tryd.func6 (by kernel_rfl) rfl #[.agg #[.int .i64 a0_0, .int .i64 a0_1, .int .i64 a0_2, .int .i64 a0_3, .int .i64 a0_4, .string a0_5, .string a0_6, .slice A0_7 l0_7.length c0_7]] rfl (by (try simp only [List.map_toArray, List.map_cons, List.map_nil]); first | done | rfl | (simp only [List.length_drop, List.length_take]; rfl)) ?_; (with_reducible refine (purlinlaw0_Great.calls a0_0 a0_1 a0_2 a0_3 a0_4 a0_5 a0_6 _ _ l0_7 false _ ?side1 ?side2 A2.out).mono ?_); (case side1 => repeat (first | exact (Kd.C_below HR0_7.out HB.out) | (with_reducible refine Kd.C_alloc ?_ _) | (with_reducible refine Kd.C_drewN ?_ _) | (with_reducible refine Kd.C_drew ?_))); (case side2 => exact HC0_7.out); rintro e w13 ⟨rfl, hb⟩; refine ⟨_, rfl, ?_⟩; have n0_ := Aside0.mk (blk_below (g := gb138) (o := .cells #[.int .i64 a0_0, .int .i64 a0_1, .int .i64 a0_2, .int .i64 a0_3, .int .i64 a0_4, .string a0_5, .string a0_6, .slice A0_7 l0_7.length c0_7] 24 (0, 0)) (by (with_reducible repeat (first | refine blk_drewN ?_ _ | refine blk_drew ?_ | refine blk_alloc ?_ _)); exact BK138.out) hb); have n1_ := Aside0.mk (below_step (by repeat (first | (with_reducible first | exact HB.out | apply below_alloc | apply pw_below_drewN | apply below_drew1 | refine below_set ?_ GE138.out) | exact HB.out)) hb); clear BK138; clear HB; have BK138 := n0_; have HB := n1_; clear n0_ n1_; (try clear hb); (try clear hb2); (try clear hk); (try clear hi); have hcz14_0 : w13.cell? ⟨gb138, 0, none⟩ = some (.int .i64 a0_0) := (blk_cell BK138.out 0).trans rfl; have hcz14_1 : w13.cell? ⟨gb138, 1, none⟩ = some (.int .i64 a0_1) := (blk_cell BK138.out 1).trans rfl; have hcz14_2 : w13.cell? ⟨gb138, 2, none⟩ = some (.int .i64 a0_2) := (blk_cell BK138.out 2).trans rfl; have hcz14_3 : w13.cell? ⟨gb138, 3, none⟩ = some (.int .i64 a0_3) := (blk_cell BK138.out 3).trans rfl; have hcz14_4 : w13.cell? ⟨gb138, 4, none⟩ = some (.int .i64 a0_4) := (blk_cell BK138.out 4).trans rfl; have hcz14_5 : w13.cell? ⟨gb138, 5, none⟩ = some (.string a0_5) := (blk_cell BK138.out 5).trans rfl; have hcz14_6 : w13.cell? ⟨gb138, 6, none⟩ = some (.string a0_6) := (blk_cell BK138.out 6).trans rfl; have hcz14_7 : w13.cell? ⟨gb138, 7, none⟩ = some (.slice A0_7 l0_7.length c0_7) := (blk_cell BK138.out 7).trans rfl; have hfz14_0 := blk_frozen BK138.out 0; have hfz14_1 := blk_frozen BK138.out 1; have hfz14_2 := blk_frozen BK138.out 2; have hfz14_3 := blk_frozen BK138.out 3; have hfz14_4 := blk_frozen BK138.out 4; have hfz14_5 := blk_frozen BK138.out 5; have hfz14_6 := blk_frozen BK138.out 6; have hfz14_7 := blk_frozen BK138.out 7) | ((with_reducible refine gate_callee (f := 14) rfl ?_); refine goesL_ (some 19) rfl rfl Tryd.func14 (by kernel_rfl) rfl #[.int .i64 a0_0, .int .i64 23] rfl (by (try simp only [List.map_toArray, List.map_cons, List.map_nil]); first | done | rfl | (simp only [List.length_drop, List.length_take]; rfl)) ?_; (with_reducible refine (purlinlaw0_Low.calls a0_0 23 t141 _ A9.out).mono ?_); rintro e w' ⟨rfl, ⟨nd, rfl⟩⟩; refine ⟨_, rfl, ?_⟩; (try (rw [drewN_self w13]; generalize hq_ : World.drewN w13 _ = w13; have n0_ : Aside0 (w13.heap[gb138]? = some (.cells #[.int .i64 a0_0, .int .i64 a0_1, .int .i64 a0_2, .int .i64 a0_3, .int .i64 a0_4, .string a0_5, .string a0_6, .slice A0_7 l0_7.length c0_7] 24 (0, 0))) := ⟨by rw [← hq_]; exact (by (with_reducible repeat (first | refine blk_drewN ?_ _ | refine blk_drew ?_ | refine blk_alloc ?_ _)); exact BK138.out)⟩; have n1_ : Aside0 (Below w.heap.size w w13) := ⟨by rw [← hq_]; exact (by repeat (first | (with_reducible first | exact HB.out | apply below_alloc | apply pw_below_drewN | apply below_drew1 | refine below_set ?_ GE138.out) | exact HB.out))⟩; clear BK138 HB hq_; have BK138 := n0_; have HB := n1_; clear n0_ n1_)); have hczq_0 : w13.cell? ⟨gb138, 0, none⟩ = some (.int .i64 a0_0) := (blk_cell BK138.out 0).trans rfl; have hczq_1 : w13.cell? ⟨gb138, 1, none⟩ = some (.int .i64 a0_1) := (blk_cell BK138.out 1).trans rfl; have hczq_2 : w13.cell? ⟨gb138, 2, none⟩ = some (.int .i64 a0_2) := (blk_cell BK138.out 2).trans rfl; have hczq_3 : w13.cell? ⟨gb138, 3, none⟩ = some (.int .i64 a0_3) := (blk_cell BK138.out 3).trans rfl; have hczq_4 : w13.cell? ⟨gb138, 4, none⟩ = some (.int .i64 a0_4) := (blk_cell BK138.out 4).trans rfl; have hczq_5 : w13.cell? ⟨gb138, 5, none⟩ = some (.string a0_5) := (blk_cell BK138.out 5).trans rfl; have hczq_6 : w13.cell? ⟨gb138, 6, none⟩ = some (.string a0_6) := (blk_cell BK138.out 6).trans rfl; have hczq_7 : w13.cell? ⟨gb138, 7, none⟩ = some (.slice A0_7 l0_7.length c0_7) := (blk_cell BK138.out 7).trans rfl; have hfzq_0 := blk_frozen BK138.out 0; have hfzq_1 := blk_frozen BK138.out 1; have hfzq_2 := blk_frozen BK138.out 2; have hfzq_3 := blk_frozen BK138.out 3; have hfzq_4 := blk_frozen BK138.out 4; have hfzq_5 := blk_frozen BK138.out 5; have hfzq_6 := blk_frozen BK138.out 6; have hfzq_7 := blk_frozen BK138.out 7) | ((with_reducible refine gate_callee (f := 10) rfl ?_); refine goesL_ (some 25) rfl rfl Tryd.func10 (by kernel_rfl) rfl #[.agg #[.int .i64 (wrap64 (1 + t141)), .int .i64 0, .int .i64 0, .int .i64 0, .int .i64 0, .string (⟨#[]⟩ : ByteArray), .string (⟨#[]⟩ : ByteArray), .slice none 0 0]] rfl (by (try simp only [List.map_toArray, List.map_cons, List.map_nil]); first | done | rfl | (simp only [List.length_drop, List.length_take]; rfl)) ?_; (refine (spell_Say.calls (wrap64 (1 + t141)) 0 0 0 0 (⟨#[]⟩ : ByteArray) (⟨#[]⟩ : ByteArray) _ _ ([] : List Int) t142 _ ?side3 ?side1 ?side2 A10.out).mono ?_); (case side1 => exact Kd.C_nil _ _); (case side2 => exact Nat.le_refl _); (case side3 => exact G_below hG (by repeat (first | (with_reducible first | exact HB.out | apply below_alloc | apply pw_below_drewN | apply below_drew1 | refine below_set ?_ GE138.out) | exact HB.out))); rintro e w15 ⟨rfl, hb⟩; refine ⟨_, rfl, ?_⟩; have n0_ := Aside0.mk (blk_below (g := gb138) (o := .cells #[.int .i64 (wrap64 (1 + t141)), .int .i64 a0_1, .int .i64 a0_2, .int .i64 a0_3, .int .i64 a0_4, .string a0_5, .string a0_6, .slice A0_7 l0_7.length c0_7] 24 (0, 0)) (by (with_reducible repeat (first | refine blk_drewN ?_ _ | refine blk_drew ?_ | refine blk_alloc ?_ _)); refine blk_put (cs := #[.int .i64 a0_0, .int .i64 a0_1, .int .i64 a0_2, .int .i64 a0_3, .int .i64 a0_4, .string a0_5, .string a0_6, .slice A0_7 l0_7.length c0_7]) ?_ 0 _ rfl; (with_reducible repeat (first | refine blk_drewN ?_ _ | refine blk_drew ?_ | refine blk_alloc ?_ _)); exact BK138.out) hb); have n1_ := Aside0.mk (below_step (by repeat (first | (with_reducible first | exact HB.out | apply below_alloc | apply pw_below_drewN | apply below_drew1 | refine below_set ?_ GE138.out) | exact HB.out)) hb); clear BK138; clear HB; have BK138 := n0_; have HB := n1_; clear n0_ n1_; (try clear hb); (try clear hb2); (try clear hk); (try clear hi); have hcz16_0 : w15.cell? ⟨gb138, 0, none⟩ = some (.int .i64 (wrap64 (1 + t141))) := (blk_cell BK138.out 0).trans rfl; have hcz16_1 : w15.cell? ⟨gb138, 1, none⟩ = some (.int .i64 a0_1) := (blk_cell BK138.out 1).trans rfl; have hcz16_2 : w15.cell? ⟨gb138, 2, none⟩ = some (.int .i64 a0_2) := (blk_cell BK138.out 2).trans rfl; have hcz16_3 : w15.cell? ⟨gb138, 3, none⟩ = some (.int .i64 a0_3) := (blk_cell BK138.out 3).trans rfl; have hcz16_4 : w15.cell? ⟨gb138, 4, none⟩ = some (.int .i64 a0_4) := (blk_cell BK138.out 4).trans rfl; have hcz16_5 : w15.cell? ⟨gb138, 5, none⟩ = some (.string a0_5) := (blk_cell BK138.out 5).trans rfl; have hcz16_6 : w15.cell? ⟨gb138, 6, none⟩ = some (.string a0_6) := (blk_cell BK138.out 6).trans rfl; have hcz16_7 : w15.cell? ⟨gb138, 7, none⟩ = some (.slice A0_7 l0_7.length c0_7) := (blk_cell BK138.out 7).trans rfl; have hfz16_0 := blk_frozen BK138.out 0; have hfz16_1 := blk_frozen BK138.out 1; have hfz16_2 := blk_frozen BK138.out 2; have hfz16_3 := blk_frozen BK138.out 3; have hfz16_4 := blk_frozen BK138.out 4; have hfz16_5 := blk_frozen BK138.out 5; have hfz16_6 := blk_frozen BK138.out 6; have hfz16_7 := blk_frozen BK138.out 7) | ((with_reducible refine gate_dst (N := 36) rfl ?_); (try (refine gate_guard (by rfl) ?_; dsimp only)); refine Mk.R_lit (Kd.int .i64) _ 3 ?hg (N := 36) ?hd (xs := ([a0_1, a0_2, a0_3, a0_4] : List Int)) (inner := [.int .i64 a0_1, .int .i64 a0_2, .int .i64 a0_3, .int .i64 a0_4]) (ok := fun _ => True) (okp := fun _ => True) ?hr ?hp (fun _ hk => hk) trivial (Below.refl _ _) (Nat.le_refl _) (by simp) ?_; (case hd => rfl); (case hg => rfl); (case hr => first | (go_simp; done) | (go_simp; rfl)); (case hp => exact (Reps.one (show Kd.M (Kd.int .i64) _ _ _ a0_1 [.int .i64 a0_1] from rfl) (Reps.one (show Kd.M (Kd.int .i64) _ _ _ a0_2 [.int .i64 a0_2] from rfl) (Reps.one (show Kd.M (Kd.int .i64) _ _ _ a0_3 [.int .i64 a0_3] from rfl) (Reps.one (show Kd.M (Kd.int .i64) _ _ _ a0_4 [.int .i64 a0_4] from rfl) (Reps.none _ _)))))); intro v144 w17 ho18 hb hg_ hnew_; clear hg_ hnew_; (first | rw [← Ny143.out] at ho18 | (simp only [Int.reduceToNat] at ho18; rw [← Ny143.out] at ho18)); have n0_ := Aside0.mk (Mk.R_lower ho18 (below_size (by repeat (first | (with_reducible first | exact HB.out | apply below_alloc | apply pw_below_drewN | apply below_drew1 | refine below_set ?_ GE138.out) | exact HB.out)))); have n1_ := Aside0.mk (blk_below (g := gb138) (o := .cells #[.int .i64 (wrap64 (1 + t141)), .int .i64 a0_1, .int .i64 a0_2, .int .i64 a0_3, .int .i64 a0_4, .string a0_5, .string a0_6, .slice A0_7 l0_7.length c0_7] 24 (0, 0)) (by (with_reducible repeat (first | refine blk_drewN ?_ _ | refine blk_drew ?_ | refine blk_alloc ?_ _)); exact BK138.out) hb); have n2_ := Aside0.mk (below_step (by repeat (first | (with_reducible first | exact HB.out | apply below_alloc | apply pw_below_drewN | apply below_drew1 | refine below_set ?_ GE138.out) | exact HB.out)) hb); clear BK138; clear HB; have HO145 := n0_; have BK138 := n1_; have HB := n2_; clear n0_ n1_ n2_; clear hb ho18))
    go_loopg [4, 6] k (fun kq v4 v6 w' => ∃ (x4_1 : Int) (x6_1 : Int), v4 = .int .i64 x4_1 ∧ v6 = .int .i64 x6_1 ∧ Aside0 (purlinlaw25_SpellLong.l0 kq t142 x4_1 y143 x6_1 (wrap64 (1 + t141)) a0_1 a0_2 a0_3 a0_4 a0_5 a0_6 l0_7 = some r) ∧ Aside0 (kq ≤ k) ∧ Aside0 (Mk.R (Kd.int .i64) 3 w' w.heap.size (fun _ => True) v144 y143) ∧ Aside0 (w'.heap[gb138]? = some (.cells #[.int .i64 (wrap64 (1 + t141)), .int .i64 a0_1, .int .i64 a0_2, .int .i64 a0_3, .int .i64 a0_4, .string a0_5, .string a0_6, (.slice A0_7 l0_7.length c0_7)] 24 (0, 0))) ∧ Aside0 (Below w.heap.size w w'))
    case atStart => exact ⟨((t142.size : Int)), (0), (by first | rfl | (simp; done) | (simp [*]; done)), (by first | rfl | (simp; done) | (simp [*]; done)), H', ⟨Nat.le_refl _⟩, ⟨by (with_reducible repeat (first | apply Mk.R_alloc | apply Mk.R_drewN | apply Mk.R_drew)); exact HO145.out⟩, ⟨by (with_reducible repeat (first | refine blk_drewN ?_ _ | refine blk_drew ?_ | refine blk_alloc ?_ _)); exact BK138.out⟩, ⟨by repeat (first | (with_reducible first | exact HB.out | apply below_alloc | apply pw_below_drewN | apply below_drew1 | refine below_set ?_ GE138.out) | exact HB.out)⟩⟩
    case round =>
      clear H'
      try clear c1
      try clear p2
      try clear c3
      try clear c5
      try clear c6
      try clear p6
      try clear c7
      try clear c10
      try clear c14
      try clear hcz12_0
      try clear hcz12_1
      try clear hcz12_2
      try clear hcz12_3
      try clear hcz12_4
      try clear hcz12_5
      try clear hcz12_6
      try clear hcz12_7
      try clear hcz14_0
      try clear hcz14_1
      try clear hcz14_2
      try clear hcz14_3
      try clear hcz14_4
      try clear hcz14_5
      try clear hcz14_6
      try clear hcz14_7
      try clear hcz16_0
      try clear hcz16_1
      try clear hcz16_2
      try clear hcz16_3
      try clear hcz16_4
      try clear hcz16_5
      try clear hcz16_6
      try clear hcz16_7
      try clear hcz6_0
      try clear hcz6_1
      try clear hcz6_2
      try clear hcz6_3
      try clear hcz6_4
      try clear hcz6_5
      try clear hcz6_6
      try clear hcz6_7
      try clear hfz12_0
      try clear hfz12_1
      try clear hfz12_2
      try clear hfz12_3
      try clear hfz12_4
      try clear hfz12_5
      try clear hfz12_6
      try clear hfz12_7
      try clear hfz14_0
      try clear hfz14_1
      try clear hfz14_2
      try clear hfz14_3
      try clear hfz14_4
      try clear hfz14_5
      try clear hfz14_6
      try clear hfz14_7
      try clear hfz16_0
      try clear hfz16_1
      try clear hfz16_2
      try clear hfz16_3
      try clear hfz16_4
      try clear hfz16_5
      try clear hfz16_6
      try clear hfz16_7
      try clear hfz6_0
      try clear hfz6_1
      try clear hfz6_2
      try clear hfz6_3
      try clear hfz6_4
      try clear hfz6_5
      try clear hfz6_6
      try clear hfz6_7
      obtain ⟨x4_1, x6_1, rfl, rfl, HA, HK1, HO_5, BK138, HB⟩ := hrel
      cases gk with
      | zero => exact absurd HA.out (by simp [purlinlaw25_SpellLong.l0])
      | succ k1 =>
        have H := HA.out
        clear HA
        simp only [purlinlaw25_SpellLong.l0] at H
        by_cases c19 : x6_1 < 4
        · rw [if_pos c19] at H
          have c19b0 : decide (x6_1 < 4) = true := decide_eq_true c19
          clear c19
          by_cases c20 : 0 ≤ x6_1
          · rw [if_pos c20] at H
            have c20b0 : decide (0 ≤ x6_1) = true := decide_eq_true c20
            clear c20
            by_cases c21 : x6_1 < (y143.length : Int)
            · rw [if_pos c21] at H
              have c21b0 : decide (x6_1 < (y143.length : Int)) = true := decide_eq_true c21
              clear c21
              by_cases c22 : (rd y143 x6_1) = 0
              · rw [if_pos c22] at H
                have c22b0 : ((rd y143 x6_1) == 0) = true := beq_iff_eq.mpr c22
                have c22b1 : ((rd y143 x6_1) != 0) = false := bne_eq_false_iff_eq.mpr c22
                clear c22
                have H' := Aside0.mk H
                clear H
                obtain ⟨Ao23, co23, eo23⟩ := Mk.R_slice HO_5.out
                subst eo23
                have p146 : 0 ≤ (x6_1 : Int) := of_decide_eq_true (by first | (with_reducible assumption) | assumption)
                have q146 : x6_1 < (y143.length : Int) := of_decide_eq_true (by first | (with_reducible assumption) | assumption)
                obtain ⟨ad146, e146, hx146_0⟩ := Kd.at_int (Mk.R_reads' HO_5.out).2.2 x6_1 p146 q146
                cases e146
                replace p146 := eq_true p146
                replace q146 := eq_true q146
                go_wp2
                go_roundg k1
                case measure => have := HK1.out; omega
                case rel => exact ⟨(x4_1), (wrap64 (x6_1 + 1)), (by first | rfl | (simp; done) | (simp [*]; done)), (by first | rfl | (simp; done) | (simp [*]; done)), H', ⟨by have := HK1.out; omega⟩, ⟨by (with_reducible repeat (first | apply Mk.R_alloc | apply Mk.R_drewN | apply Mk.R_drew)); exact HO_5.out⟩, ⟨by (with_reducible repeat (first | refine blk_drewN ?_ _ | refine blk_drew ?_ | refine blk_alloc ?_ _)); exact BK138.out⟩, ⟨by repeat (first | (with_reducible first | exact HB.out | apply below_alloc | apply pw_below_drewN | apply below_drew1 | refine below_set ?_ GE138.out) | exact HB.out)⟩⟩
              · rw [if_neg c22] at H
                have c22b0 : ((rd y143 x6_1) == 0) = false := beq_eq_false_iff_ne.mpr c22
                have c22b1 : ((rd y143 x6_1) != 0) = true := bne_iff_ne.mpr c22
                have H' := Aside0.mk H
                clear H
                obtain ⟨Ao24, co24, eo24⟩ := Mk.R_slice HO_5.out
                subst eo24
                have p146 : 0 ≤ (x6_1 : Int) := of_decide_eq_true (by first | (with_reducible assumption) | assumption)
                have q146 : x6_1 < (y143.length : Int) := of_decide_eq_true (by first | (with_reducible assumption) | assumption)
                obtain ⟨ad146, e146, hx146_0⟩ := Kd.at_int (Mk.R_reads' HO_5.out).2.2 x6_1 p146 q146
                cases e146
                replace p146 := eq_true p146
                replace q146 := eq_true q146
                have p147 : 0 ≤ (x6_1 : Int) := of_decide_eq_true (by first | (with_reducible assumption) | assumption)
                have q147 : x6_1 < (y143.length : Int) := of_decide_eq_true (by first | (with_reducible assumption) | assumption)
                obtain ⟨ad147, e147, hx147_0⟩ := Kd.at_int (Mk.R_reads' HO_5.out).2.2 x6_1 p147 q147
                obtain rfl : ad146 = ad147 := (by injection e147)
                replace p147 := eq_true p147
                replace q147 := eq_true q147
                go_wp2
                go_loopg [7, 8] k1 (fun kq v7 v8 w' => ∃ (x7_2 : Int) (x8_2 : Int), v7 = .int .i64 x7_2 ∧ v8 = .int .i64 x8_2 ∧ Aside0 (purlinlaw25_SpellLong.l1 kq t142 x4_1 y143 x6_1 x7_2 x8_2 (wrap64 (1 + t141)) a0_1 a0_2 a0_3 a0_4 a0_5 a0_6 l0_7 = some r) ∧ Aside0 (kq ≤ k1) ∧ Aside0 (Mk.R (Kd.int .i64) 3 w' w.heap.size (fun _ => True) (.slice (some ad146) y143.length co24) y143) ∧ Aside0 (w'.heap[gb138]? = some (.cells #[.int .i64 (wrap64 (1 + t141)), .int .i64 a0_1, .int .i64 a0_2, .int .i64 a0_3, .int .i64 a0_4, .string a0_5, .string a0_6, (.slice A0_7 l0_7.length c0_7)] 24 (0, 0))) ∧ Aside0 (Below w.heap.size w w'))
                case atStart => exact ⟨(0), (rd y143 x6_1), (by first | rfl | (simp; done) | (simp [*]; done)), (by first | rfl | (simp; done) | (simp [*]; done)), H', ⟨Nat.le_refl _⟩, ⟨by (with_reducible repeat (first | apply Mk.R_alloc | apply Mk.R_drewN | apply Mk.R_drew)); exact HO_5.out⟩, ⟨by (with_reducible repeat (first | refine blk_drewN ?_ _ | refine blk_drew ?_ | refine blk_alloc ?_ _)); exact BK138.out⟩, ⟨by repeat (first | (with_reducible first | exact HB.out | apply below_alloc | apply pw_below_drewN | apply below_drew1 | refine below_set ?_ GE138.out) | exact HB.out)⟩⟩
                case round =>
                  clear H'
                  try clear c1
                  try clear p1
                  try clear q1
                  try clear hx1
                  try clear c2
                  try clear p2
                  try clear c3
                  try clear c5
                  try clear c6
                  try clear p6
                  try clear c7
                  try clear c10
                  try clear c14
                  try clear p14
                  try clear q14
                  try clear hx14
                  try clear c19
                  try clear c19b0
                  try clear c20
                  try clear c20b0
                  try clear c21
                  try clear c21b0
                  try clear c22
                  try clear c22b0
                  try clear c22b1
                  try clear hcz12_0
                  try clear hcz12_1
                  try clear hcz12_2
                  try clear hcz12_3
                  try clear hcz12_4
                  try clear hcz12_5
                  try clear hcz12_6
                  try clear hcz12_7
                  try clear hcz14_0
                  try clear hcz14_1
                  try clear hcz14_2
                  try clear hcz14_3
                  try clear hcz14_4
                  try clear hcz14_5
                  try clear hcz14_6
                  try clear hcz14_7
                  try clear hcz16_0
                  try clear hcz16_1
                  try clear hcz16_2
                  try clear hcz16_3
                  try clear hcz16_4
                  try clear hcz16_5
                  try clear hcz16_6
                  try clear hcz16_7
                  try clear hcz6_0
                  try clear hcz6_1
                  try clear hcz6_2
                  try clear hcz6_3
                  try clear hcz6_4
                  try clear hcz6_5
                  try clear hcz6_6
                  try clear hcz6_7
                  try clear hfz12_0
                  try clear hfz12_1
                  try clear hfz12_2
                  try clear hfz12_3
                  try clear hfz12_4
                  try clear hfz12_5
                  try clear hfz12_6
                  try clear hfz12_7
                  try clear hfz14_0
                  try clear hfz14_1
                  try clear hfz14_2
                  try clear hfz14_3
                  try clear hfz14_4
                  try clear hfz14_5
                  try clear hfz14_6
                  try clear hfz14_7
                  try clear hfz16_0
                  try clear hfz16_1
                  try clear hfz16_2
                  try clear hfz16_3
                  try clear hfz16_4
                  try clear hfz16_5
                  try clear hfz16_6
                  try clear hfz16_7
                  try clear hfz6_0
                  try clear hfz6_1
                  try clear hfz6_2
                  try clear hfz6_3
                  try clear hfz6_4
                  try clear hfz6_5
                  try clear hfz6_6
                  try clear hfz6_7
                  try clear hx146_0
                  try clear hx147_0
                  try clear p146
                  try clear p147
                  try clear p2
                  try clear p6
                  try clear q146
                  try clear q147
                  obtain ⟨x7_2, x8_2, rfl, rfl, HA, HK2, HO_5, BK138, HB⟩ := hrel
                  cases gk with
                  | zero => exact absurd HA.out (by simp [purlinlaw25_SpellLong.l1])
                  | succ k2 =>
                    have H := HA.out
                    clear HA
                    simp only [purlinlaw25_SpellLong.l1] at H
                    by_cases c25 : x8_2 = 0
                    · rw [if_pos c25] at H
                      have c25b0 : (x8_2 == 0) = true := beq_iff_eq.mpr c25
                      have c25b1 : (x8_2 != 0) = false := bne_eq_false_iff_eq.mpr c25
                      clear c25
                      by_cases c26 : 0 ≤ x6_1
                      · rw [if_pos c26] at H
                        have c26b0 : decide (0 ≤ x6_1) = true := decide_eq_true c26
                        clear c26
                        by_cases c27 : x6_1 < (y143.length : Int)
                        · rw [if_pos c27] at H
                          have c27b0 : decide (x6_1 < (y143.length : Int)) = true := decide_eq_true c27
                          clear c27
                          by_cases c28 : (rd y143 x6_1) < 0
                          · rw [if_pos c28] at H
                            have c28b0 : decide ((rd y143 x6_1) < 0) = true := decide_eq_true c28
                            clear c28
                            obtain ⟨y149, hy149⟩ : ∃ y_ : List Int, y_ = (([4, 3, 5, 7] : List Int)) := ⟨_, rfl⟩
                            replace H : (if x6_1 < (y149.length : Int) then (purlinlaw25_SpellLong.l0 k2 t142 (wrap64 ((wrap64 (x4_1 + (rd y149 x6_1))) + (wrap64 (x7_2 + 1)))) y143 (wrap64 (x6_1 + 1)) (wrap64 (1 + t141)) a0_1 a0_2 a0_3 a0_4 a0_5 a0_6 l0_7) else (none)) = some r := by first | (rw [hy149]; with_reducible exact H) | (have H2_ := (Option.bind_some _ _).symm.trans H; rw [hy149]; with_reducible exact H2_) | (have H2_ := (Option.bind_some _ _).symm.trans H; with_reducible exact H2_) | with_reducible exact H | (rw [hy149]; exact H) | exact H
                            have Ny149 := Aside0.mk hy149
                            clear hy149
                            by_cases c29 : x6_1 < (y149.length : Int)
                            · rw [if_pos c29] at H
                              have c29b0 : decide (x6_1 < (y149.length : Int)) = true := decide_eq_true c29
                              clear c29
                              have H' := Aside0.mk H
                              clear H
                              have p148 : 0 ≤ (x6_1 : Int) := of_decide_eq_true (by first | (with_reducible assumption) | assumption)
                              have q148 : x6_1 < (y143.length : Int) := of_decide_eq_true (by first | (with_reducible assumption) | assumption)
                              obtain ⟨ad148, e148, hx148_0⟩ := Kd.at_int (Mk.R_reads' HO_5.out).2.2 x6_1 p148 q148
                              obtain rfl : ad146 = ad148 := (by injection e148)
                              replace p148 := eq_true p148
                              replace q148 := eq_true q148
                              go_wp2_with (first | ((with_reducible refine gate_dst (N := 64) rfl ?_); (try (refine gate_guard (by rfl) ?_; dsimp only)); refine Mk.R_lit (Kd.int .i64) _ 3 ?hg (N := 64) ?hd (xs := ([4, 3, 5, 7] : List Int)) (inner := [.int .i64 4, .int .i64 3, .int .i64 5, .int .i64 7]) (ok := fun _ => True) (okp := fun _ => True) ?hr ?hp (fun _ hk => hk) trivial (Below.refl _ _) (Nat.le_refl _) (by simp) ?_; (case hd => rfl); (case hg => rfl); (case hr => first | (go_simp; done) | (go_simp; rfl)); (case hp => exact (Reps.one (show Kd.M (Kd.int .i64) _ _ _ 4 [.int .i64 4] from rfl) (Reps.one (show Kd.M (Kd.int .i64) _ _ _ 3 [.int .i64 3] from rfl) (Reps.one (show Kd.M (Kd.int .i64) _ _ _ 5 [.int .i64 5] from rfl) (Reps.one (show Kd.M (Kd.int .i64) _ _ _ 7 [.int .i64 7] from rfl) (Reps.none _ _)))))); intro v150 w30 ho31 hb hg_ hnew_; clear hg_ hnew_; (first | rw [← Ny149.out] at ho31 | (simp only [Int.reduceToNat] at ho31; rw [← Ny149.out] at ho31)); have n0_ := Aside0.mk (Mk.R_elder' (by (with_reducible repeat (first | apply Mk.R_alloc | apply Mk.R_drewN | apply Mk.R_drew)); exact HO_5.out) (Mk.R_base ho31) hb); have n1_ := Aside0.mk (Mk.R_lower (Mk.R_new' ho31 (Mk.R_lt (by (with_reducible repeat (first | apply Mk.R_alloc | apply Mk.R_drewN | apply Mk.R_drew)); exact HO_5.out))) (below_size (by repeat (first | (with_reducible first | exact HB.out | apply below_alloc | apply pw_below_drewN | apply below_drew1 | refine below_set ?_ GE138.out) | exact HB.out)))); have n2_ := Aside0.mk (blk_below (g := gb138) (o := .cells #[.int .i64 (wrap64 (1 + t141)), .int .i64 a0_1, .int .i64 a0_2, .int .i64 a0_3, .int .i64 a0_4, .string a0_5, .string a0_6, .slice A0_7 l0_7.length c0_7] 24 (0, 0)) (by (with_reducible repeat (first | refine blk_drewN ?_ _ | refine blk_drew ?_ | refine blk_alloc ?_ _)); exact BK138.out) hb); have n3_ := Aside0.mk (below_step (by repeat (first | (with_reducible first | exact HB.out | apply below_alloc | apply pw_below_drewN | apply below_drew1 | refine below_set ?_ GE138.out) | exact HB.out)) hb); clear HO_5; clear BK138; clear HB; have HO_5 := n0_; have HO151 := n1_; have BK138 := n2_; have HB := n3_; clear n0_ n1_ n2_ n3_; clear hb ho31; obtain ⟨Ao32, co32, eo32⟩ := Mk.R_slice HO151.out; subst eo32; have p152 : 0 ≤ (x6_1 : Int) := of_decide_eq_true (by first | (with_reducible assumption) | assumption); have q152 : x6_1 < (y149.length : Int) := of_decide_eq_true (by first | (with_reducible assumption) | assumption); obtain ⟨ad152, e152, hx152_0⟩ := Kd.at_int (Mk.R_reads' HO151.out).2.2 x6_1 p152 q152; cases e152; replace p152 := eq_true p152; replace q152 := eq_true q152))
                              go_roundg k2
                              case measure => have := HK1.out; have := HK2.out; omega
                              case rel => exact ⟨(wrap64 ((wrap64 (x4_1 + (rd y149 x6_1))) + (wrap64 (x7_2 + 1)))), (wrap64 (x6_1 + 1)), (by first | rfl | (simp; done) | (simp [*]; done)), (by first | rfl | (simp; done) | (simp [*]; done)), H', ⟨by have := HK1.out; have := HK2.out; omega⟩, ⟨by (with_reducible repeat (first | apply Mk.R_alloc | apply Mk.R_drewN | apply Mk.R_drew)); exact Mk.R_mono HO_5.out (fun _ hk => trivial)⟩, ⟨by (with_reducible repeat (first | refine blk_drewN ?_ _ | refine blk_drew ?_ | refine blk_alloc ?_ _)); exact BK138.out⟩, ⟨by repeat (first | (with_reducible first | exact HB.out | apply below_alloc | apply pw_below_drewN | apply below_drew1 | refine below_set ?_ GE138.out) | exact HB.out)⟩⟩
                            · rw [if_neg c29] at H
                              exact absurd H (by simp)
                          · rw [if_neg c28] at H
                            have c28b0 : decide ((rd y143 x6_1) < 0) = false := decide_eq_false c28
                            clear c28
                            obtain ⟨y153, hy153⟩ : ∃ y_ : List Int, y_ = (([4, 3, 5, 7] : List Int)) := ⟨_, rfl⟩
                            replace H : (if x6_1 < (y153.length : Int) then (purlinlaw25_SpellLong.l0 k2 t142 (wrap64 ((wrap64 (x4_1 + (rd y153 x6_1))) + x7_2)) y143 (wrap64 (x6_1 + 1)) (wrap64 (1 + t141)) a0_1 a0_2 a0_3 a0_4 a0_5 a0_6 l0_7) else (none)) = some r := by first | (rw [hy153]; with_reducible exact H) | (have H2_ := (Option.bind_some _ _).symm.trans H; rw [hy153]; with_reducible exact H2_) | (have H2_ := (Option.bind_some _ _).symm.trans H; with_reducible exact H2_) | with_reducible exact H | (rw [hy153]; exact H) | exact H
                            have Ny153 := Aside0.mk hy153
                            clear hy153
                            by_cases c33 : x6_1 < (y153.length : Int)
                            · rw [if_pos c33] at H
                              have c33b0 : decide (x6_1 < (y153.length : Int)) = true := decide_eq_true c33
                              clear c33
                              have H' := Aside0.mk H
                              clear H
                              have p148 : 0 ≤ (x6_1 : Int) := of_decide_eq_true (by first | (with_reducible assumption) | assumption)
                              have q148 : x6_1 < (y143.length : Int) := of_decide_eq_true (by first | (with_reducible assumption) | assumption)
                              obtain ⟨ad148, e148, hx148_0⟩ := Kd.at_int (Mk.R_reads' HO_5.out).2.2 x6_1 p148 q148
                              obtain rfl : ad146 = ad148 := (by injection e148)
                              replace p148 := eq_true p148
                              replace q148 := eq_true q148
                              go_wp2_with (first | ((with_reducible refine gate_dst (N := 64) rfl ?_); (try (refine gate_guard (by rfl) ?_; dsimp only)); refine Mk.R_lit (Kd.int .i64) _ 3 ?hg (N := 64) ?hd (xs := ([4, 3, 5, 7] : List Int)) (inner := [.int .i64 4, .int .i64 3, .int .i64 5, .int .i64 7]) (ok := fun _ => True) (okp := fun _ => True) ?hr ?hp (fun _ hk => hk) trivial (Below.refl _ _) (Nat.le_refl _) (by simp) ?_; (case hd => rfl); (case hg => rfl); (case hr => first | (go_simp; done) | (go_simp; rfl)); (case hp => exact (Reps.one (show Kd.M (Kd.int .i64) _ _ _ 4 [.int .i64 4] from rfl) (Reps.one (show Kd.M (Kd.int .i64) _ _ _ 3 [.int .i64 3] from rfl) (Reps.one (show Kd.M (Kd.int .i64) _ _ _ 5 [.int .i64 5] from rfl) (Reps.one (show Kd.M (Kd.int .i64) _ _ _ 7 [.int .i64 7] from rfl) (Reps.none _ _)))))); intro v154 w34 ho35 hb hg_ hnew_; clear hg_ hnew_; (first | rw [← Ny153.out] at ho35 | (simp only [Int.reduceToNat] at ho35; rw [← Ny153.out] at ho35)); have n0_ := Aside0.mk (Mk.R_elder' (by (with_reducible repeat (first | apply Mk.R_alloc | apply Mk.R_drewN | apply Mk.R_drew)); exact HO_5.out) (Mk.R_base ho35) hb); have n1_ := Aside0.mk (Mk.R_lower (Mk.R_new' ho35 (Mk.R_lt (by (with_reducible repeat (first | apply Mk.R_alloc | apply Mk.R_drewN | apply Mk.R_drew)); exact HO_5.out))) (below_size (by repeat (first | (with_reducible first | exact HB.out | apply below_alloc | apply pw_below_drewN | apply below_drew1 | refine below_set ?_ GE138.out) | exact HB.out)))); have n2_ := Aside0.mk (blk_below (g := gb138) (o := .cells #[.int .i64 (wrap64 (1 + t141)), .int .i64 a0_1, .int .i64 a0_2, .int .i64 a0_3, .int .i64 a0_4, .string a0_5, .string a0_6, .slice A0_7 l0_7.length c0_7] 24 (0, 0)) (by (with_reducible repeat (first | refine blk_drewN ?_ _ | refine blk_drew ?_ | refine blk_alloc ?_ _)); exact BK138.out) hb); have n3_ := Aside0.mk (below_step (by repeat (first | (with_reducible first | exact HB.out | apply below_alloc | apply pw_below_drewN | apply below_drew1 | refine below_set ?_ GE138.out) | exact HB.out)) hb); clear HO_5; clear BK138; clear HB; have HO_5 := n0_; have HO155 := n1_; have BK138 := n2_; have HB := n3_; clear n0_ n1_ n2_ n3_; clear hb ho35; obtain ⟨Ao36, co36, eo36⟩ := Mk.R_slice HO155.out; subst eo36; have p156 : 0 ≤ (x6_1 : Int) := of_decide_eq_true (by first | (with_reducible assumption) | assumption); have q156 : x6_1 < (y153.length : Int) := of_decide_eq_true (by first | (with_reducible assumption) | assumption); obtain ⟨ad156, e156, hx156_0⟩ := Kd.at_int (Mk.R_reads' HO155.out).2.2 x6_1 p156 q156; cases e156; replace p156 := eq_true p156; replace q156 := eq_true q156))
                              go_roundg k2
                              case measure => have := HK1.out; have := HK2.out; omega
                              case rel => exact ⟨(wrap64 ((wrap64 (x4_1 + (rd y153 x6_1))) + x7_2)), (wrap64 (x6_1 + 1)), (by first | rfl | (simp; done) | (simp [*]; done)), (by first | rfl | (simp; done) | (simp [*]; done)), H', ⟨by have := HK1.out; have := HK2.out; omega⟩, ⟨by (with_reducible repeat (first | apply Mk.R_alloc | apply Mk.R_drewN | apply Mk.R_drew)); exact Mk.R_mono HO_5.out (fun _ hk => trivial)⟩, ⟨by (with_reducible repeat (first | refine blk_drewN ?_ _ | refine blk_drew ?_ | refine blk_alloc ?_ _)); exact BK138.out⟩, ⟨by repeat (first | (with_reducible first | exact HB.out | apply below_alloc | apply pw_below_drewN | apply below_drew1 | refine below_set ?_ GE138.out) | exact HB.out)⟩⟩
                            · rw [if_neg c33] at H
                              exact absurd H (by simp)
                        · rw [if_neg c27] at H
                          exact absurd H (by simp)
                      · rw [if_neg c26] at H
                        exact absurd H (by simp)
                    · rw [if_neg c25] at H
                      have c25b0 : (x8_2 == 0) = false := beq_eq_false_iff_ne.mpr c25
                      have c25b1 : (x8_2 != 0) = true := bne_iff_ne.mpr c25
                      have H' := Aside0.mk H
                      clear H
                      go_wp2
                      go_roundg k2
                      case measure => have := HK1.out; have := HK2.out; omega
                      case rel => exact ⟨(wrap64 (x7_2 + 1)), (wrap64 (Int.tdiv x8_2 10)), (by first | rfl | (simp; done) | (simp [*]; done)), (by first | rfl | (simp; done) | (simp [*]; done)), H', ⟨by have := HK1.out; have := HK2.out; omega⟩, ⟨by (with_reducible repeat (first | apply Mk.R_alloc | apply Mk.R_drewN | apply Mk.R_drew)); exact HO_5.out⟩, ⟨by (with_reducible repeat (first | refine blk_drewN ?_ _ | refine blk_drew ?_ | refine blk_alloc ?_ _)); exact BK138.out⟩, ⟨by repeat (first | (with_reducible first | exact HB.out | apply below_alloc | apply pw_below_drewN | apply below_drew1 | refine below_set ?_ GE138.out) | exact HB.out)⟩⟩
            · rw [if_neg c21] at H
              exact absurd H (by simp)
          · rw [if_neg c20] at H
            exact absurd H (by simp)
        · rw [if_neg c19] at H
          have c19b0 : decide (x6_1 < 4) = false := decide_eq_false c19
          clear c19
          obtain ⟨y157, hy157⟩ : ∃ y_ : List Int, y_ = (([(a0_5.size : Int), (a0_6.size : Int), (l0_7.length : Int)] : List Int)) := ⟨_, rfl⟩
          replace H : (purlinlaw25_SpellLong.l2 k1 t142 x4_1 y157 0 (wrap64 (1 + t141)) a0_1 a0_2 a0_3 a0_4 a0_5 a0_6 l0_7) = some r := by first | (rw [hy157]; with_reducible exact H) | (have H2_ := (Option.bind_some _ _).symm.trans H; rw [hy157]; with_reducible exact H2_) | (have H2_ := (Option.bind_some _ _).symm.trans H; with_reducible exact H2_) | with_reducible exact H | (rw [hy157]; exact H) | exact H
          have Ny157 := Aside0.mk hy157
          clear hy157
          have H' := Aside0.mk H
          clear H
          have hcz37_0 : wr.cell? ⟨gb138, 0, none⟩ = some (.int .i64 (wrap64 (1 + t141))) := (blk_cell BK138.out 0).trans rfl
          have hcz37_1 : wr.cell? ⟨gb138, 1, none⟩ = some (.int .i64 a0_1) := (blk_cell BK138.out 1).trans rfl
          have hcz37_2 : wr.cell? ⟨gb138, 2, none⟩ = some (.int .i64 a0_2) := (blk_cell BK138.out 2).trans rfl
          have hcz37_3 : wr.cell? ⟨gb138, 3, none⟩ = some (.int .i64 a0_3) := (blk_cell BK138.out 3).trans rfl
          have hcz37_4 : wr.cell? ⟨gb138, 4, none⟩ = some (.int .i64 a0_4) := (blk_cell BK138.out 4).trans rfl
          have hcz37_5 : wr.cell? ⟨gb138, 5, none⟩ = some (.string a0_5) := (blk_cell BK138.out 5).trans rfl
          have hcz37_6 : wr.cell? ⟨gb138, 6, none⟩ = some (.string a0_6) := (blk_cell BK138.out 6).trans rfl
          have hcz37_7 : wr.cell? ⟨gb138, 7, none⟩ = some (.slice A0_7 l0_7.length c0_7) := (blk_cell BK138.out 7).trans rfl
          have hfz37_0 := blk_frozen BK138.out 0
          have hfz37_1 := blk_frozen BK138.out 1
          have hfz37_2 := blk_frozen BK138.out 2
          have hfz37_3 := blk_frozen BK138.out 3
          have hfz37_4 := blk_frozen BK138.out 4
          have hfz37_5 := blk_frozen BK138.out 5
          have hfz37_6 := blk_frozen BK138.out 6
          have hfz37_7 := blk_frozen BK138.out 7
          go_wp2_with (first | ((with_reducible refine gate_dst (N := 80) rfl ?_); (try (refine gate_guard (by rfl) ?_; dsimp only)); refine Mk.R_lit (Kd.int .i64) _ 3 ?hg (N := 80) ?hd (xs := ([(a0_5.size : Int), (a0_6.size : Int), (l0_7.length : Int)] : List Int)) (inner := [.int .i64 (a0_5.size : Int), .int .i64 (a0_6.size : Int), .int .i64 (l0_7.length : Int)]) (ok := fun _ => True) (okp := fun _ => True) ?hr ?hp (fun _ hk => hk) trivial (Below.refl _ _) (Nat.le_refl _) (by simp) ?_; (case hd => rfl); (case hg => rfl); (case hr => first | (go_simp; done) | (go_simp; rfl)); (case hp => exact (Reps.one (show Kd.M (Kd.int .i64) _ _ _ (a0_5.size : Int) [.int .i64 (a0_5.size : Int)] from rfl) (Reps.one (show Kd.M (Kd.int .i64) _ _ _ (a0_6.size : Int) [.int .i64 (a0_6.size : Int)] from rfl) (Reps.one (show Kd.M (Kd.int .i64) _ _ _ (l0_7.length : Int) [.int .i64 (l0_7.length : Int)] from rfl) (Reps.none _ _))))); intro v158 w38 ho39 hb hg_ hnew_; clear hg_ hnew_; (first | rw [← Ny157.out] at ho39 | (simp only [Int.reduceToNat] at ho39; rw [← Ny157.out] at ho39)); have n0_ := Aside0.mk (Mk.R_elder' (by (with_reducible repeat (first | apply Mk.R_alloc | apply Mk.R_drewN | apply Mk.R_drew)); exact HO_5.out) (Mk.R_base ho39) hb); have n1_ := Aside0.mk (Mk.R_lower (Mk.R_new' ho39 (Mk.R_lt (by (with_reducible repeat (first | apply Mk.R_alloc | apply Mk.R_drewN | apply Mk.R_drew)); exact HO_5.out))) (below_size (by repeat (first | (with_reducible first | exact HB.out | apply below_alloc | apply pw_below_drewN | apply below_drew1 | refine below_set ?_ GE138.out) | exact HB.out)))); have n2_ := Aside0.mk (blk_below (g := gb138) (o := .cells #[.int .i64 (wrap64 (1 + t141)), .int .i64 a0_1, .int .i64 a0_2, .int .i64 a0_3, .int .i64 a0_4, .string a0_5, .string a0_6, .slice A0_7 l0_7.length c0_7] 24 (0, 0)) (by (with_reducible repeat (first | refine blk_drewN ?_ _ | refine blk_drew ?_ | refine blk_alloc ?_ _)); exact BK138.out) hb); have n3_ := Aside0.mk (below_step (by repeat (first | (with_reducible first | exact HB.out | apply below_alloc | apply pw_below_drewN | apply below_drew1 | refine below_set ?_ GE138.out) | exact HB.out)) hb); clear HO_5; clear BK138; clear HB; have HO_5 := n0_; have HO159 := n1_; have BK138 := n2_; have HB := n3_; clear n0_ n1_ n2_ n3_; clear hb ho39))
          go_loopg [4, 10] k1 (fun kq v4 v10 w' => ∃ (x4_2 : Int) (x10_2 : Int), v4 = .int .i64 x4_2 ∧ v10 = .int .i64 x10_2 ∧ Aside0 (purlinlaw25_SpellLong.l2 kq t142 x4_2 y157 x10_2 (wrap64 (1 + t141)) a0_1 a0_2 a0_3 a0_4 a0_5 a0_6 l0_7 = some r) ∧ Aside0 (kq ≤ k1) ∧ Aside0 (Mk.R (Kd.int .i64) 3 w' w.heap.size (fun _ => True) v158 y157) ∧ Aside0 (w'.heap[gb138]? = some (.cells #[.int .i64 (wrap64 (1 + t141)), .int .i64 a0_1, .int .i64 a0_2, .int .i64 a0_3, .int .i64 a0_4, .string a0_5, .string a0_6, (.slice A0_7 l0_7.length c0_7)] 24 (0, 0))) ∧ Aside0 (Below w.heap.size w w'))
          case atStart => exact ⟨(x4_1), (0), (by first | rfl | (simp; done) | (simp [*]; done)), (by first | rfl | (simp; done) | (simp [*]; done)), H', ⟨Nat.le_refl _⟩, ⟨by (with_reducible repeat (first | apply Mk.R_alloc | apply Mk.R_drewN | apply Mk.R_drew)); exact Mk.R_mono HO159.out (fun _ hk => trivial)⟩, ⟨by (with_reducible repeat (first | refine blk_drewN ?_ _ | refine blk_drew ?_ | refine blk_alloc ?_ _)); exact BK138.out⟩, ⟨by repeat (first | (with_reducible first | exact HB.out | apply below_alloc | apply pw_below_drewN | apply below_drew1 | refine below_set ?_ GE138.out) | exact HB.out)⟩⟩
          case round =>
            clear H'
            try clear c1
            try clear p1
            try clear q1
            try clear hx1
            try clear c2
            try clear p2
            try clear c3
            try clear c5
            try clear c6
            try clear p6
            try clear c7
            try clear c10
            try clear c14
            try clear p14
            try clear q14
            try clear hx14
            try clear p15
            try clear q15
            try clear hx15
            try clear c19
            try clear c19b0
            try clear c20
            try clear c20b0
            try clear c21
            try clear c21b0
            try clear c22
            try clear c22b0
            try clear c22b1
            try clear c25
            try clear c25b0
            try clear c25b1
            try clear c26
            try clear c26b0
            try clear c27
            try clear c27b0
            try clear c28
            try clear c28b0
            try clear c29
            try clear c29b0
            try clear c33
            try clear c33b0
            try clear hcz12_0
            try clear hcz12_1
            try clear hcz12_2
            try clear hcz12_3
            try clear hcz12_4
            try clear hcz12_5
            try clear hcz12_6
            try clear hcz12_7
            try clear hcz14_0
            try clear hcz14_1
            try clear hcz14_2
            try clear hcz14_3
            try clear hcz14_4
            try clear hcz14_5
            try clear hcz14_6
            try clear hcz14_7
            try clear hcz16_0
            try clear hcz16_1
            try clear hcz16_2
            try clear hcz16_3
            try clear hcz16_4
            try clear hcz16_5
            try clear hcz16_6
            try clear hcz16_7
            try clear hcz37_0
            try clear hcz37_1
            try clear hcz37_2
            try clear hcz37_3
            try clear hcz37_4
            try clear hcz37_5
            try clear hcz37_6
            try clear hcz37_7
            try clear hcz6_0
            try clear hcz6_1
            try clear hcz6_2
            try clear hcz6_3
            try clear hcz6_4
            try clear hcz6_5
            try clear hcz6_6
            try clear hcz6_7
            try clear hfz12_0
            try clear hfz12_1
            try clear hfz12_2
            try clear hfz12_3
            try clear hfz12_4
            try clear hfz12_5
            try clear hfz12_6
            try clear hfz12_7
            try clear hfz14_0
            try clear hfz14_1
            try clear hfz14_2
            try clear hfz14_3
            try clear hfz14_4
            try clear hfz14_5
            try clear hfz14_6
            try clear hfz14_7
            try clear hfz16_0
            try clear hfz16_1
            try clear hfz16_2
            try clear hfz16_3
            try clear hfz16_4
            try clear hfz16_5
            try clear hfz16_6
            try clear hfz16_7
            try clear hfz37_0
            try clear hfz37_1
            try clear hfz37_2
            try clear hfz37_3
            try clear hfz37_4
            try clear hfz37_5
            try clear hfz37_6
            try clear hfz37_7
            try clear hfz6_0
            try clear hfz6_1
            try clear hfz6_2
            try clear hfz6_3
            try clear hfz6_4
            try clear hfz6_5
            try clear hfz6_6
            try clear hfz6_7
            try clear hx146_0
            try clear hx147_0
            try clear hx148_0
            try clear hx152_0
            try clear hx156_0
            try clear p1
            try clear p14
            try clear p146
            try clear p147
            try clear p148
            try clear p152
            try clear p156
            try clear p2
            try clear p6
            try clear q1
            try clear q14
            try clear q146
            try clear q147
            try clear q148
            try clear q152
            try clear q156
            obtain ⟨x4_2, x10_2, rfl, rfl, HA, HK2, HO_9, BK138, HB⟩ := hrel
            cases gk with
            | zero => exact absurd HA.out (by simp [purlinlaw25_SpellLong.l2])
            | succ k2 =>
              have H := HA.out
              clear HA
              simp only [purlinlaw25_SpellLong.l2] at H
              by_cases c40 : x10_2 < 3
              · rw [if_pos c40] at H
                have c40b0 : decide (x10_2 < 3) = true := decide_eq_true c40
                clear c40
                by_cases c41 : 0 ≤ x10_2
                · rw [if_pos c41] at H
                  have c41b0 : decide (0 ≤ x10_2) = true := decide_eq_true c41
                  clear c41
                  by_cases c42 : x10_2 < (y157.length : Int)
                  · rw [if_pos c42] at H
                    have c42b0 : decide (x10_2 < (y157.length : Int)) = true := decide_eq_true c42
                    clear c42
                    by_cases c43 : (rd y157 x10_2) > 0
                    · rw [if_pos c43] at H
                      have c43b0 : decide (0 < (rd y157 x10_2)) = true := decide_eq_true c43
                      clear c43
                      obtain ⟨y161, hy161⟩ : ∃ y_ : List Int, y_ = (([6, 4, 6] : List Int)) := ⟨_, rfl⟩
                      replace H : (if x10_2 < (y161.length : Int) then (purlinlaw25_SpellLong.l2 k2 t142 (wrap64 ((wrap64 (x4_2 + (rd y161 x10_2))) + (wrap64 (2 * (rd y157 x10_2))))) y157 (wrap64 (x10_2 + 1)) (wrap64 (1 + t141)) a0_1 a0_2 a0_3 a0_4 a0_5 a0_6 l0_7) else (none)) = some r := by first | (rw [hy161]; with_reducible exact H) | (have H2_ := (Option.bind_some _ _).symm.trans H; rw [hy161]; with_reducible exact H2_) | (have H2_ := (Option.bind_some _ _).symm.trans H; with_reducible exact H2_) | with_reducible exact H | (rw [hy161]; exact H) | exact H
                      have Ny161 := Aside0.mk hy161
                      clear hy161
                      by_cases c44 : x10_2 < (y161.length : Int)
                      · rw [if_pos c44] at H
                        have c44b0 : decide (x10_2 < (y161.length : Int)) = true := decide_eq_true c44
                        clear c44
                        have H' := Aside0.mk H
                        clear H
                        obtain ⟨Ao45, co45, eo45⟩ := Mk.R_slice HO_9.out
                        subst eo45
                        have p160 : 0 ≤ (x10_2 : Int) := of_decide_eq_true (by first | (with_reducible assumption) | assumption)
                        have q160 : x10_2 < (y157.length : Int) := of_decide_eq_true (by first | (with_reducible assumption) | assumption)
                        obtain ⟨ad160, e160, hx160_0⟩ := Kd.at_int (Mk.R_reads' HO_9.out).2.2 x10_2 p160 q160
                        cases e160
                        replace p160 := eq_true p160
                        replace q160 := eq_true q160
                        try go_wp2
                        have pi164 : (0 ≤ (x10_2 : Int)) = True := eq_true (of_decide_eq_true (by first | (with_reducible assumption) | assumption))
                        have qi164 : (x10_2 < (y161.length : Int)) = True := eq_true (of_decide_eq_true (by first | (with_reducible assumption) | assumption))
                        have n0_ := Aside0.mk (Mk.R_drew HO_9.out)
                        have n1_ := Aside0.mk (blk_drew BK138.out)
                        have n2_ := Aside0.mk (below_drew1 HB.out)
                        clear HO_9
                        clear BK138
                        clear HB
                        have HO_9 := n0_
                        have BK138 := n1_
                        have HB := n2_
                        clear n0_ n1_ n2_
                        have p165 : 0 ≤ (x10_2 : Int) := of_decide_eq_true (by first | (with_reducible assumption) | assumption)
                        have q165 : x10_2 < (y157.length : Int) := of_decide_eq_true (by first | (with_reducible assumption) | assumption)
                        obtain ⟨ad165, e165, hx165_0⟩ := Kd.at_int (Mk.R_reads' HO_9.out).2.2 x10_2 p165 q165
                        obtain rfl : ad160 = ad165 := (by injection e165)
                        replace p165 := eq_true p165
                        replace q165 := eq_true q165
                        refine start_ (n := 13) (S := fun w' => w'.cell? (ad160.add (x10_2).toNat) = some (.int .i64 (rd y157 x10_2))) (ds := []) #[false, false, false, false, false, false, false, false, false, false, false, false, false] (by kernel_rfl) rfl rfl (hx165_0) (fun hHeld => ?_); refine with_tabW purlinlaw25_SpellLong.tab24 purlinlaw25_SpellLong.bits24 (fun HT_ HW_ => ?_)
                        generalize wr.drew = w46 at HO_9 BK138 HB hx165_0 hHeld ⊢
                        refine pure_ (i := 0) (N := some 90) (v := ?_) (a' := ?_) #[true, false, false, false, false, false, false, false, false, false, false, false, false] rfl rfl (any_of HT_.out (by kernel_rfl)) (fun _ _ _ h => h) (Or.inl ⟨by rfl, ?_⟩) ?_ ?_
                        rotate_left
                        · intro w'
                          go_simp
                          with_reducible rfl
                        rotate_left
                        · simp only [Act.put, List.setIfInBounds_toArray, List.set_cons_zero, List.set_cons_succ, i64_w, i32_w]
                          rfl
                        refine pure_ (i := 2) (N := some 92) (v := ?_) (a' := ?_) #[true, false, true, false, false, false, false, false, false, false, false, false, false] rfl rfl (any_of HT_.out (by kernel_rfl)) (fun _ _ _ h => h) (Or.inl ⟨by rfl, ?_⟩) ?_ ?_
                        rotate_left
                        · intro w'
                          go_simp
                          with_reducible rfl
                        rotate_left
                        · simp only [Act.put, List.setIfInBounds_toArray, List.set_cons_zero, List.set_cons_succ, i64_w, i32_w]
                          rfl
                        refine pure_ (i := 6) (N := some 96) (v := ?_) (a' := ?_) #[true, false, true, false, false, false, true, false, false, false, false, false, false] rfl rfl (any_of HT_.out (by kernel_rfl)) (fun _ _ _ h => h) (Or.inl ⟨by rfl, ?_⟩) ?_ ?_
                        rotate_left
                        · intro w'
                          go_simp
                          with_reducible rfl
                        rotate_left
                        · simp only [Act.put, List.setIfInBounds_toArray, List.set_cons_zero, List.set_cons_succ, i64_w, i32_w]
                          rfl
                        refine pure_ (i := 7) (N := some 97) (v := ?_) (a' := ?_) #[true, false, true, false, false, false, true, true, false, false, false, false, false] rfl rfl (any_of HT_.out (by kernel_rfl)) (fun _ _ _ h => h) (Or.inl ⟨by rfl, ?_⟩) ?_ ?_
                        rotate_left
                        · intro w'
                          go_simp
                          with_reducible rfl
                        rotate_left
                        · simp only [Act.put, List.setIfInBounds_toArray, List.set_cons_zero, List.set_cons_succ, i64_w, i32_w]
                          rfl
                        refine pure_ (i := 8) (N := some 98) (v := ?_) (a' := ?_) #[true, false, true, false, false, false, true, true, true, false, false, false, false] rfl rfl (any_of HT_.out (by kernel_rfl)) (fun _ _ _ h => h) (Or.inl ⟨by rfl, ?_⟩) ?_ ?_
                        rotate_left
                        · intro w'
                          go_simp
                          with_reducible rfl
                        rotate_left
                        · simp only [Act.put, List.setIfInBounds_toArray, List.set_cons_zero, List.set_cons_succ, i64_w, i32_w]
                          rfl
                        refine take_ (i := 9) (N := some 99) (v := ?_) (a' := ?_) #[true, false, true, false, false, false, true, true, true, true, false, false, false] rfl rfl (take_ofW HT_.out HW_.out (by kernel_rfl)) (fun _ _ _ h => h) (Or.inl ⟨by rfl, ?_⟩) hHeld ?_ ?_
                        rotate_left
                        · intro w' s0
                          go_simp
                          with_reducible rfl
                        rotate_left
                        · simp only [Act.put, List.setIfInBounds_toArray, List.set_cons_zero, List.set_cons_succ, i64_w, i32_w]
                          rfl
                        refine pure_ (i := 10) (N := some 100) (v := ?_) (a' := ?_) #[true, false, true, false, false, false, true, true, true, true, true, false, false] rfl rfl (any_of HT_.out (by kernel_rfl)) (fun _ _ _ h => h) (Or.inl ⟨by rfl, ?_⟩) ?_ ?_
                        rotate_left
                        · intro w'
                          go_simp
                          with_reducible rfl
                        rotate_left
                        · simp only [Act.put, List.setIfInBounds_toArray, List.set_cons_zero, List.set_cons_succ, i64_w, i32_w]
                          rfl
                        refine one_ (i := 1) (N := some 91) #[true, true, true, false, false, false, true, true, true, true, true, false, false] rfl rfl (one_of HT_.out (by kernel_rfl)) (by decide) (fun K hK => ?_)
                        refine Mk.R_lit_step (Kd.int .i64) _ 3 ?hg (N := 91) ?hd (xs := ([6, 4, 6] : List Int)) (inner := [.int .i64 6, .int .i64 4, .int .i64 6]) (ok := fun _ => True) (okp := fun _ => True) ?hr ?hp (fun _ hk => hk) trivial (Below.refl _ _) (Nat.le_refl _) (by simp) ?_; (case hd => rfl); (case hg => rfl); (case hr => first | (go_simp; done) | (go_simp; rfl)); (case hp => exact (Reps.one (show Kd.M (Kd.int .i64) _ _ _ 6 [.int .i64 6] from rfl) (Reps.one (show Kd.M (Kd.int .i64) _ _ _ 4 [.int .i64 4] from rfl) (Reps.one (show Kd.M (Kd.int .i64) _ _ _ 6 [.int .i64 6] from rfl) (Reps.none _ _)))))
                        intro v162 w47 ho48 hb hg_ hnew_
                        have HS0_ := (hb.cell (World.block_lt_of_cell? _ _ (hHeld))).trans (hHeld)
                        clear hg_ hnew_
                        (first | rw [← Ny161.out] at ho48 | (simp only [Int.reduceToNat] at ho48; rw [← Ny161.out] at ho48))
                        have n0_ := Aside0.mk (Mk.R_elder' (by (with_reducible repeat (first | apply Mk.R_alloc | apply Mk.R_drewN | apply Mk.R_drew)); exact HO_9.out) (Mk.R_base ho48) hb)
                        have n1_ := Aside0.mk (Mk.R_lower (Mk.R_new' ho48 (Mk.R_lt (by (with_reducible repeat (first | apply Mk.R_alloc | apply Mk.R_drewN | apply Mk.R_drew)); exact HO_9.out))) (below_size (by repeat (first | (with_reducible first | exact HB.out | apply below_alloc | apply pw_below_drewN | apply below_drew1 | refine below_set ?_ GE138.out) | exact HB.out))))
                        have n2_ := Aside0.mk (blk_below (g := gb138) (o := .cells #[.int .i64 (wrap64 (1 + t141)), .int .i64 a0_1, .int .i64 a0_2, .int .i64 a0_3, .int .i64 a0_4, .string a0_5, .string a0_6, .slice A0_7 l0_7.length c0_7] 24 (0, 0)) (by (with_reducible repeat (first | refine blk_drewN ?_ _ | refine blk_drew ?_ | refine blk_alloc ?_ _)); exact BK138.out) hb)
                        have n3_ := Aside0.mk (below_step (by repeat (first | (with_reducible first | exact HB.out | apply below_alloc | apply pw_below_drewN | apply below_drew1 | refine below_set ?_ GE138.out) | exact HB.out)) hb)
                        clear HO_9
                        clear BK138
                        clear HB
                        have HO_9 := n0_
                        have HO163 := n1_
                        have BK138 := n2_
                        have HB := n3_
                        clear n0_ n1_ n2_ n3_
                        clear hb ho48
                        obtain ⟨Ao49, co49, eo49⟩ := Mk.R_slice HO163.out
                        subst eo49
                        obtain ⟨ado49, fo49, _⟩ := Kd.at_int (Mk.R_reads' HO163.out).2.2 0 (by decide) (by rw [Ny161.out]; simp)
                        cases fo49
                        refine hK.out _ _ (HS0_) (fun hHeld => ?_)
                        clear hK K
                        refine norm_ (a' := ?_) ?_ ?_
                        rotate_left
                        · show Act.put _ (some 91) _ = _
                          simp only [Act.put, List.setIfInBounds_toArray, List.set_cons_zero, List.set_cons_succ, i64_w, i32_w]
                          rfl
                        refine pure_ (i := 3) (N := some 93) (v := ?_) (a' := ?_) #[true, true, true, true, false, false, true, true, true, true, true, false, false] rfl rfl (any_of HT_.out (by kernel_rfl)) (fun _ _ _ h => h) (Or.inl ⟨by rfl, ?_⟩) ?_ ?_
                        rotate_left
                        · intro w'
                          go_simp
                          with_reducible rfl
                        rotate_left
                        · simp only [Act.put, List.setIfInBounds_toArray, List.set_cons_zero, List.set_cons_succ, i64_w, i32_w]
                          rfl
                        refine one_ (i := 4) (N := some 94) #[true, true, true, true, true, false, true, true, true, true, true, false, false] rfl rfl (one_of HT_.out (by kernel_rfl)) (by decide) (fun K hK => ?_)
                        (have p164 : 0 ≤ (x10_2 : Int) := of_decide_eq_true (by first | (with_reducible assumption) | assumption); have q164 : x10_2 < (y161.length : Int) := of_decide_eq_true (by first | (with_reducible assumption) | assumption); obtain ⟨ad164, e164, hx164_0⟩ := Kd.at_int (Mk.R_reads' HO163.out).2.2 x10_2 p164 q164; obtain rfl : ado49 = ad164 := (by injection e164))
                        refine value_ (w1 := ?_) (v := ?_) (by rfl) rfl ?_ ?_
                        rotate_left 2
                        · go_simp
                          constructor
                          · rfl
                          · rfl
                        clear hx164_0
                        refine hK.out _ _ (hHeld) (fun hHeld => ?_)
                        clear hK K
                        refine norm_ (a' := ?_) ?_ ?_
                        rotate_left
                        · show Act.put _ (some 94) _ = _
                          simp only [Act.put, List.setIfInBounds_toArray, List.set_cons_zero, List.set_cons_succ, i64_w, i32_w]
                          rfl
                        refine pure_ (i := 5) (N := some 95) (v := ?_) (a' := ?_) #[true, true, true, true, true, true, true, true, true, true, true, false, false] rfl rfl (any_of HT_.out (by kernel_rfl)) (fun _ _ _ h => h) (Or.inl ⟨by rfl, ?_⟩) ?_ ?_
                        rotate_left
                        · intro w'
                          go_simp
                          with_reducible rfl
                        rotate_left
                        · simp only [Act.put, List.setIfInBounds_toArray, List.set_cons_zero, List.set_cons_succ, i64_w, i32_w]
                          rfl
                        refine pure_ (i := 11) (N := some 101) (v := ?_) (a' := ?_) #[true, true, true, true, true, true, true, true, true, true, true, true, false] rfl rfl (any_of HT_.out (by kernel_rfl)) (fun _ _ _ h => h) (Or.inl ⟨by rfl, ?_⟩) ?_ ?_
                        rotate_left
                        · intro w'
                          go_simp
                          with_reducible rfl
                        rotate_left
                        · simp only [Act.put, List.setIfInBounds_toArray, List.set_cons_zero, List.set_cons_succ, i64_w, i32_w]
                          rfl
                        refine pure_ (i := 12) (N := some 4) (v := ?_) (a' := ?_) #[true, true, true, true, true, true, true, true, true, true, true, true, true] rfl rfl (any_of HT_.out (by kernel_rfl)) (fun _ _ _ h => h) (Or.inl ⟨by rfl, ?_⟩) ?_ ?_
                        rotate_left
                        · intro w'
                          go_simp
                          with_reducible rfl
                        rotate_left
                        · simp only [Act.put, List.setIfInBounds_toArray, List.set_cons_zero, List.set_cons_succ, i64_w, i32_w]
                          rfl
                        refine done_ (done_of HT_.out (by kernel_rfl)) ?_
                        try go_wp2
                        go_roundg k2
                        case measure => have := HK1.out; have := HK2.out; omega
                        case rel => exact ⟨(wrap64 ((wrap64 (x4_2 + (rd y161 x10_2))) + (wrap64 (2 * (rd y157 x10_2))))), (wrap64 (x10_2 + 1)), (by first | rfl | (simp; done) | (simp [*]; done)), (by first | rfl | (simp; done) | (simp [*]; done)), H', ⟨by have := HK1.out; have := HK2.out; omega⟩, ⟨by (with_reducible repeat (first | apply Mk.R_alloc | apply Mk.R_drewN | apply Mk.R_drew)); exact Mk.R_mono HO_9.out (fun _ hk => trivial)⟩, ⟨by (with_reducible repeat (first | refine blk_drewN ?_ _ | refine blk_drew ?_ | refine blk_alloc ?_ _)); exact BK138.out⟩, ⟨by repeat (first | (with_reducible first | exact HB.out | apply below_alloc | apply pw_below_drewN | apply below_drew1 | refine below_set ?_ GE138.out) | exact HB.out)⟩⟩
                      · rw [if_neg c44] at H
                        exact absurd H (by simp)
                    · rw [if_neg c43] at H
                      have c43b0 : decide (0 < (rd y157 x10_2)) = false := decide_eq_false c43
                      clear c43
                      have H' := Aside0.mk H
                      clear H
                      obtain ⟨Ao50, co50, eo50⟩ := Mk.R_slice HO_9.out
                      subst eo50
                      have p160 : 0 ≤ (x10_2 : Int) := of_decide_eq_true (by first | (with_reducible assumption) | assumption)
                      have q160 : x10_2 < (y157.length : Int) := of_decide_eq_true (by first | (with_reducible assumption) | assumption)
                      obtain ⟨ad160, e160, hx160_0⟩ := Kd.at_int (Mk.R_reads' HO_9.out).2.2 x10_2 p160 q160
                      cases e160
                      replace p160 := eq_true p160
                      replace q160 := eq_true q160
                      go_wp2
                      go_roundg k2
                      case measure => have := HK1.out; have := HK2.out; omega
                      case rel => exact ⟨(x4_2), (wrap64 (x10_2 + 1)), (by first | rfl | (simp; done) | (simp [*]; done)), (by first | rfl | (simp; done) | (simp [*]; done)), H', ⟨by have := HK1.out; have := HK2.out; omega⟩, ⟨by (with_reducible repeat (first | apply Mk.R_alloc | apply Mk.R_drewN | apply Mk.R_drew)); exact HO_9.out⟩, ⟨by (with_reducible repeat (first | refine blk_drewN ?_ _ | refine blk_drew ?_ | refine blk_alloc ?_ _)); exact BK138.out⟩, ⟨by repeat (first | (with_reducible first | exact HB.out | apply below_alloc | apply pw_below_drewN | apply below_drew1 | refine below_set ?_ GE138.out) | exact HB.out)⟩⟩
                  · rw [if_neg c42] at H
                    exact absurd H (by simp)
                · rw [if_neg c41] at H
                  exact absurd H (by simp)
              · rw [if_neg c40] at H
                have c40b0 : decide (x10_2 < 3) = false := decide_eq_false c40
                clear c40
                replace H := Option.bind_eq_some_iff.mp H
                obtain ⟨t166, A510, H⟩ := H
                replace H : ((spell_Read.f t142).bind fun bt167 => (if (t166.size : Int) = x4_2 then (if 0 ≤ (mn (t142.size : Int) (t166.size : Int)) then (if (mn (t142.size : Int) (t166.size : Int)) ≤ (t166.size : Int) then (if (t166.extract 0 ((mn (t142.size : Int) (t166.size : Int)) : Int).toNat).toList = t142.toList then (if bt167.2.2.2.2.2.2.2.2 = 0 then (if bt167.1 = (wrap64 (1 + t141)) then ((spell_Same.f bt167.1 bt167.2.1 bt167.2.2.1 bt167.2.2.2.1 bt167.2.2.2.2.1 bt167.2.2.2.2.2.1 bt167.2.2.2.2.2.2.1 bt167.2.2.2.2.2.2.2.1 (wrap64 (1 + t141)) 0 0 0 0 (⟨#[]⟩ : ByteArray) (⟨#[]⟩ : ByteArray) ([] : List Int)).bind fun t179 => (if t179 = true then ((purlinlaw25_awake.f k2).bind fun t180 => (some t180)) else (some false))) else (some false)) else (some false)) else (some false)) else (none)) else (none)) else (some false))) = some r := H
                have A51 := Aside0.mk A510
                clear A510
                replace H := Option.bind_eq_some_iff.mp H
                obtain ⟨⟨t167, t168, t169, t170, t171, t172, t173, t174, t177⟩, A520, H⟩ := H
                replace H : (if (t166.size : Int) = x4_2 then (if 0 ≤ (mn (t142.size : Int) (t166.size : Int)) then (if (mn (t142.size : Int) (t166.size : Int)) ≤ (t166.size : Int) then (if (t166.extract 0 ((mn (t142.size : Int) (t166.size : Int)) : Int).toNat).toList = t142.toList then (if t177 = 0 then (if t167 = (wrap64 (1 + t141)) then ((spell_Same.f t167 t168 t169 t170 t171 t172 t173 t174 (wrap64 (1 + t141)) 0 0 0 0 (⟨#[]⟩ : ByteArray) (⟨#[]⟩ : ByteArray) ([] : List Int)).bind fun t179 => (if t179 = true then ((purlinlaw25_awake.f k2).bind fun t180 => (some t180)) else (some false))) else (some false)) else (some false)) else (some false)) else (none)) else (none)) else (some false)) = some r := H
                have A52 := Aside0.mk A520
                clear A520
                by_cases c53 : (t166.size : Int) = x4_2
                · rw [if_pos c53] at H
                  have c53b0 : ((t166.size : Int) == x4_2) = true := beq_iff_eq.mpr c53
                  have c53b1 : ((t166.size : Int) != x4_2) = false := bne_eq_false_iff_eq.mpr c53
                  clear c53
                  obtain ⟨ji54, hji54⟩ : ∃ j_ : Int, (mn (t142.size : Int) (t166.size : Int)) = j_ := ⟨_, rfl⟩
                  replace H : (if 0 ≤ (ji54) then (if (ji54) ≤ (t166.size : Int) then (if (t166.extract 0 ((ji54) : Int).toNat).toList = t142.toList then (if t177 = 0 then (if t167 = (wrap64 (1 + t141)) then ((spell_Same.f t167 t168 t169 t170 t171 t172 t173 t174 (wrap64 (1 + t141)) 0 0 0 0 (⟨#[]⟩ : ByteArray) (⟨#[]⟩ : ByteArray) ([] : List Int)).bind fun t179 => (if t179 = true then ((purlinlaw25_awake.f k2).bind fun t180 => (some t180)) else (some false))) else (some false)) else (some false)) else (some false)) else (none)) else (none)) = some r := by first | (rw [hji54] at H; exact H) | (simp only [hji54] at H ⊢; exact H)
                  (try rw [hji54] at A51)
                  (try rw [hji54] at A52)
                  have hji54_ : (if (t166.size : Int) < (t142.size : Int) then (t166.size : Int) else (t142.size : Int)) = ji54 := hji54
                  by_cases c55 : 0 ≤ (ji54)
                  · rw [if_pos c55] at H
                    have c55b0 := eq_true c55
                    have c55b1 : decide (0 ≤ (ji54)) = true := decide_eq_true c55
                    clear c55
                    by_cases c56 : (ji54) ≤ (t166.size : Int)
                    · rw [if_pos c56] at H
                      have c56b0 := eq_true c56
                      have c56b1 : decide ((ji54) ≤ (t166.size : Int)) = true := decide_eq_true c56
                      clear c56
                      by_cases c57 : (t166.extract 0 ((ji54) : Int).toNat).toList = t142.toList
                      · rw [if_pos c57] at H
                        have c57b0 : ((t166.extract 0 ((ji54) : Int).toNat).toList == t142.toList) = true := beq_iff_eq.mpr c57
                        have c57b1 : ((t166.extract 0 ((ji54) : Int).toNat).toList != t142.toList) = false := bne_eq_false_iff_eq.mpr c57
                        have hle : t142.size ≤ t166.size := by
                          have e1 := congrArg List.length (beq_iff_eq.1 c57b0)
                          rw [Lib.toList_data, Lib.toList_data, Lib.extract_from_zero, List.length_take] at e1
                          have e2 : t166.data.toList.length = t166.size := rfl
                          have e3 : t142.data.toList.length = t142.size := rfl
                          have e4 : ji54 ≤ (t166.size : Int) := by rw [← hji54]; unfold mn; split <;> omega
                          omega
                        have hj : ji54 = (t142.size : Int) := by rw [← hji54]; unfold mn; rw [if_neg (by omega)]
                        subst hj
                        clear hji54_
                        have hnlt : ¬ (t166.size < t142.size) := by omega
                        have c57b2 : ((t166.extract 0 t142.size).toList == t142.toList) = true := c57b0
                        clear c57
                        by_cases c58 : t177 = 0
                        · rw [if_pos c58] at H
                          have c58b0 : (t177 == 0) = true := beq_iff_eq.mpr c58
                          have c58b1 : (t177 != 0) = false := bne_eq_false_iff_eq.mpr c58
                          clear c58
                          by_cases c59 : t167 = (wrap64 (1 + t141))
                          · rw [if_pos c59] at H
                            have c59b0 : (t167 == (wrap64 (1 + t141))) = true := beq_iff_eq.mpr c59
                            have c59b1 : (t167 != (wrap64 (1 + t141))) = false := bne_eq_false_iff_eq.mpr c59
                            clear c59
                            replace H := Option.bind_eq_some_iff.mp H
                            obtain ⟨t179, A600, H⟩ := H
                            replace H : (if t179 = true then ((purlinlaw25_awake.f k2).bind fun t180 => (some t180)) else (some false)) = some r := H
                            have A60 := Aside0.mk A600
                            clear A600
                            by_cases c61 : t179 = true
                            · subst c61
                              have H1 : ((purlinlaw25_awake.f k2).bind fun t180 => (some t180)) = some r := by rw [if_pos rfl] at H; exact H
                              clear H
                              have H := H1
                              clear H1
                              replace H := Option.bind_eq_some_iff.mp H
                              obtain ⟨t180, A620, H⟩ := H
                              replace H : (some t180) = some r := H
                              have A62 := Aside0.mk A620
                              clear A620
                              obtain rfl := Option.some.inj H
                              have hcz63_0 : wr.cell? ⟨gb138, 0, none⟩ = some (.int .i64 (wrap64 (1 + t141))) := (blk_cell BK138.out 0).trans rfl
                              have hcz63_1 : wr.cell? ⟨gb138, 1, none⟩ = some (.int .i64 a0_1) := (blk_cell BK138.out 1).trans rfl
                              have hcz63_2 : wr.cell? ⟨gb138, 2, none⟩ = some (.int .i64 a0_2) := (blk_cell BK138.out 2).trans rfl
                              have hcz63_3 : wr.cell? ⟨gb138, 3, none⟩ = some (.int .i64 a0_3) := (blk_cell BK138.out 3).trans rfl
                              have hcz63_4 : wr.cell? ⟨gb138, 4, none⟩ = some (.int .i64 a0_4) := (blk_cell BK138.out 4).trans rfl
                              have hcz63_5 : wr.cell? ⟨gb138, 5, none⟩ = some (.string a0_5) := (blk_cell BK138.out 5).trans rfl
                              have hcz63_6 : wr.cell? ⟨gb138, 6, none⟩ = some (.string a0_6) := (blk_cell BK138.out 6).trans rfl
                              have hcz63_7 : wr.cell? ⟨gb138, 7, none⟩ = some (.slice A0_7 l0_7.length c0_7) := (blk_cell BK138.out 7).trans rfl
                              have hfz63_0 := blk_frozen BK138.out 0
                              have hfz63_1 := blk_frozen BK138.out 1
                              have hfz63_2 := blk_frozen BK138.out 2
                              have hfz63_3 := blk_frozen BK138.out 3
                              have hfz63_4 := blk_frozen BK138.out 4
                              have hfz63_5 := blk_frozen BK138.out 5
                              have hfz63_6 := blk_frozen BK138.out 6
                              have hfz63_7 := blk_frozen BK138.out 7
                              go_wp2_with (first | ((with_reducible refine gate_callee (f := 10) rfl ?_); refine goesL_ (some 103) rfl rfl Tryd.func10 (by kernel_rfl) rfl #[.agg #[.int .i64 (wrap64 (1 + t141)), .int .i64 a0_1, .int .i64 a0_2, .int .i64 a0_3, .int .i64 a0_4, .string a0_5, .string a0_6, .slice A0_7 l0_7.length c0_7]] rfl (by (try simp only [List.map_toArray, List.map_cons, List.map_nil]); first | done | rfl | (simp only [List.length_drop, List.length_take]; rfl)) ?_; (with_reducible refine (spell_Say.calls (wrap64 (1 + t141)) a0_1 a0_2 a0_3 a0_4 a0_5 a0_6 _ _ l0_7 t166 _ ?side3 ?side1 ?side2 A51.out).mono ?_); (case side1 => repeat (first | exact (Kd.C_below HR0_7.out HB.out) | (with_reducible refine Kd.C_alloc ?_ _) | (with_reducible refine Kd.C_drewN ?_ _) | (with_reducible refine Kd.C_drew ?_))); (case side2 => exact HC0_7.out); (case side3 => exact G_below hG (by repeat (first | (with_reducible first | exact HB.out | apply below_alloc | apply pw_below_drewN | apply below_drew1 | refine below_set ?_ GE138.out) | exact HB.out))); rintro e w64 ⟨rfl, hb⟩; refine ⟨_, rfl, ?_⟩; have n0_ := Aside0.mk (Mk.R_below (by (with_reducible repeat (first | apply Mk.R_alloc | apply Mk.R_drewN | apply Mk.R_drew)); exact HO_9.out) hb); have n1_ := Aside0.mk (blk_below (g := gb138) (o := .cells #[.int .i64 (wrap64 (1 + t141)), .int .i64 a0_1, .int .i64 a0_2, .int .i64 a0_3, .int .i64 a0_4, .string a0_5, .string a0_6, .slice A0_7 l0_7.length c0_7] 24 (0, 0)) (by (with_reducible repeat (first | refine blk_drewN ?_ _ | refine blk_drew ?_ | refine blk_alloc ?_ _)); exact BK138.out) hb); have n2_ := Aside0.mk (below_step (by repeat (first | (with_reducible first | exact HB.out | apply below_alloc | apply pw_below_drewN | apply below_drew1 | refine below_set ?_ GE138.out) | exact HB.out)) hb); clear HO_9; clear BK138; clear HB; have HO_9 := n0_; have BK138 := n1_; have HB := n2_; clear n0_ n1_ n2_; (try clear hb); (try clear hb2); (try clear hk); (try clear hi)) | ((with_reducible refine gate_callee (f := 8) rfl ?_); refine goesL_ (some 106) rfl rfl Tryd.func8 (by kernel_rfl) rfl #[.string t142] rfl (by (try simp only [List.map_toArray, List.map_cons, List.map_nil]); first | done | rfl | (simp only [List.length_drop, List.length_take]; rfl)) ?_; (with_reducible refine (spell_Read.calls t142 t167 t168 t169 t170 t171 t172 t173 t174 t177 _ ?side1 A52.out).mono ?_); (case side1 => exact G_below hG (by repeat (first | (with_reducible first | exact HB.out | apply below_alloc | apply pw_below_drewN | apply below_drew1 | refine below_set ?_ GE138.out) | exact HB.out))); rintro e w65 ⟨v175, rfl, ho0, hb⟩; refine ⟨_, rfl, ?_⟩; have n0_ := Aside0.mk (Mk.R_below (by (with_reducible repeat (first | apply Mk.R_alloc | apply Mk.R_drewN | apply Mk.R_drew)); exact HO_9.out) hb); have n1_ := Aside0.mk (Mk.R_lower ho0 (below_size (by repeat (first | (with_reducible first | exact HB.out | apply below_alloc | apply pw_below_drewN | apply below_drew1 | refine below_set ?_ GE138.out) | exact HB.out)))); have n2_ := Aside0.mk (blk_below (g := gb138) (o := .cells #[.int .i64 (wrap64 (1 + t141)), .int .i64 a0_1, .int .i64 a0_2, .int .i64 a0_3, .int .i64 a0_4, .string a0_5, .string a0_6, .slice A0_7 l0_7.length c0_7] 24 (0, 0)) (by (with_reducible repeat (first | refine blk_drewN ?_ _ | refine blk_drew ?_ | refine blk_alloc ?_ _)); exact BK138.out) hb); have n3_ := Aside0.mk (below_step (by repeat (first | (with_reducible first | exact HB.out | apply below_alloc | apply pw_below_drewN | apply below_drew1 | refine below_set ?_ GE138.out) | exact HB.out)) hb); clear HO_9; clear BK138; clear HB; have HO_9 := n0_; have HO176 := n1_; have BK138 := n2_; have HB := n3_; clear n0_ n1_ n2_ n3_; (try clear hb); (try clear hb2); (try clear hk); (try clear hi); (try clear ho0)) | ((with_reducible refine gate_dst (N := 12) rfl ?_); (try (refine gate_guard (by rfl) ?_; dsimp only)); refine box_event ?hg (N := 12) ?hd (cs := #[.int .i64 0, .int .i64 0, .int .i64 0, .int .i64 0, .int .i64 0, .string (⟨#[]⟩ : ByteArray), .string (⟨#[]⟩ : ByteArray), .slice none 0 0]) (t := 24) ?hr ?_; (case hd => rfl); (case hg => rfl); (case hr => first | (go_simp; done) | (go_simp; rfl)); intro gb178 hg w66 hbox hb; have n0_ := Aside0.mk (Mk.R_below (by (with_reducible repeat (first | apply Mk.R_alloc | apply Mk.R_drewN | apply Mk.R_drew)); exact HO_9.out) hb); have n1_ := Aside0.mk (Mk.R_below (by (with_reducible repeat (first | apply Mk.R_alloc | apply Mk.R_drewN | apply Mk.R_drew)); exact HO176.out) hb); have n2_ := Aside0.mk (blk_below (g := gb138) (o := .cells #[.int .i64 (wrap64 (1 + t141)), .int .i64 a0_1, .int .i64 a0_2, .int .i64 a0_3, .int .i64 a0_4, .string a0_5, .string a0_6, .slice A0_7 l0_7.length c0_7] 24 (0, 0)) (by (with_reducible repeat (first | refine blk_drewN ?_ _ | refine blk_drew ?_ | refine blk_alloc ?_ _)); exact BK138.out) hb); have n3_ := Aside0.mk (below_step (by repeat (first | (with_reducible first | exact HB.out | apply below_alloc | apply pw_below_drewN | apply below_drew1 | refine below_set ?_ GE138.out) | exact HB.out)) hb); have n4_ := Aside0.mk (hbox); have n5_ := Aside0.mk ((by rw [hg]; exact (below_size (by repeat (first | (with_reducible first | exact HB.out | apply below_alloc | apply pw_below_drewN | apply below_drew1 | refine below_set ?_ GE138.out) | exact HB.out))) : w.heap.size ≤ gb178)); have n6_ := Aside0.mk ((by rw [hg]; exact (below_size (by repeat (first | (with_reducible first | exact HB.out | apply below_alloc | apply pw_below_drewN | apply below_drew1 | refine below_set ?_ GE138.out) | exact HB.out))) : w.heap.size ≤ gb178)); have n7_ := Aside0.mk ((by rw [hg]; exact Nat.ne_of_lt (blk_lt (g := gb138) (o := .cells #[.int .i64 (wrap64 (1 + t141)), .int .i64 a0_1, .int .i64 a0_2, .int .i64 a0_3, .int .i64 a0_4, .string a0_5, .string a0_6, .slice A0_7 l0_7.length c0_7] 24 (0, 0)) (by (with_reducible repeat (first | refine blk_drewN ?_ _ | refine blk_drew ?_ | refine blk_alloc ?_ _)); exact BK138.out)) : gb138 ≠ gb178)); have n8_ := Aside0.mk ((by rw [hg]; exact Nat.ne_of_gt (blk_lt (g := gb138) (o := .cells #[.int .i64 (wrap64 (1 + t141)), .int .i64 a0_1, .int .i64 a0_2, .int .i64 a0_3, .int .i64 a0_4, .string a0_5, .string a0_6, .slice A0_7 l0_7.length c0_7] 24 (0, 0)) (by (with_reducible repeat (first | refine blk_drewN ?_ _ | refine blk_drew ?_ | refine blk_alloc ?_ _)); exact BK138.out)) : gb178 ≠ gb138)); clear HO_9; clear HO176; clear BK138; clear HB; have HO_9 := n0_; have HO176 := n1_; have BK138 := n2_; have HB := n3_; have BK178 := n4_; have GW178 := n5_; have GE178 := n6_; have NB138_178 := n7_; have NB178_138 := n8_; clear n0_ n1_ n2_ n3_ n4_ n5_ n6_ n7_ n8_; clear hb hbox hg; have hnb67 := NB178_138.out; have hnc67 := NB138_178.out; have hcz68_0 : w66.cell? ⟨gb178, 0, none⟩ = some (.int .i64 0) := (blk_cell BK178.out 0).trans rfl; have hcz68_1 : w66.cell? ⟨gb178, 1, none⟩ = some (.int .i64 0) := (blk_cell BK178.out 1).trans rfl; have hcz68_2 : w66.cell? ⟨gb178, 2, none⟩ = some (.int .i64 0) := (blk_cell BK178.out 2).trans rfl; have hcz68_3 : w66.cell? ⟨gb178, 3, none⟩ = some (.int .i64 0) := (blk_cell BK178.out 3).trans rfl; have hcz68_4 : w66.cell? ⟨gb178, 4, none⟩ = some (.int .i64 0) := (blk_cell BK178.out 4).trans rfl; have hcz68_5 : w66.cell? ⟨gb178, 5, none⟩ = some (.string (⟨#[]⟩ : ByteArray)) := (blk_cell BK178.out 5).trans rfl; have hcz68_6 : w66.cell? ⟨gb178, 6, none⟩ = some (.string (⟨#[]⟩ : ByteArray)) := (blk_cell BK178.out 6).trans rfl; have hcz68_7 : w66.cell? ⟨gb178, 7, none⟩ = some (.slice none 0 0) := (blk_cell BK178.out 7).trans rfl; have hfz68_0 := blk_frozen BK178.out 0; have hfz68_1 := blk_frozen BK178.out 1; have hfz68_2 := blk_frozen BK178.out 2; have hfz68_3 := blk_frozen BK178.out 3; have hfz68_4 := blk_frozen BK178.out 4; have hfz68_5 := blk_frozen BK178.out 5; have hfz68_6 := blk_frozen BK178.out 6; have hfz68_7 := blk_frozen BK178.out 7; obtain ⟨Ao69, co69, eo69⟩ := Mk.R_slice HO176.out; subst eo69; have hcz70_0 : w66.cell? ⟨gb138, 0, none⟩ = some (.int .i64 (wrap64 (1 + t141))) := (blk_cell BK138.out 0).trans rfl; have hcz70_1 : w66.cell? ⟨gb138, 1, none⟩ = some (.int .i64 a0_1) := (blk_cell BK138.out 1).trans rfl; have hcz70_2 : w66.cell? ⟨gb138, 2, none⟩ = some (.int .i64 a0_2) := (blk_cell BK138.out 2).trans rfl; have hcz70_3 : w66.cell? ⟨gb138, 3, none⟩ = some (.int .i64 a0_3) := (blk_cell BK138.out 3).trans rfl; have hcz70_4 : w66.cell? ⟨gb138, 4, none⟩ = some (.int .i64 a0_4) := (blk_cell BK138.out 4).trans rfl; have hcz70_5 : w66.cell? ⟨gb138, 5, none⟩ = some (.string a0_5) := (blk_cell BK138.out 5).trans rfl; have hcz70_6 : w66.cell? ⟨gb138, 6, none⟩ = some (.string a0_6) := (blk_cell BK138.out 6).trans rfl; have hcz70_7 : w66.cell? ⟨gb138, 7, none⟩ = some (.slice A0_7 l0_7.length c0_7) := (blk_cell BK138.out 7).trans rfl; have hfz70_0 := blk_frozen BK138.out 0; have hfz70_1 := blk_frozen BK138.out 1; have hfz70_2 := blk_frozen BK138.out 2; have hfz70_3 := blk_frozen BK138.out 3; have hfz70_4 := blk_frozen BK138.out 4; have hfz70_5 := blk_frozen BK138.out 5; have hfz70_6 := blk_frozen BK138.out 6; have hfz70_7 := blk_frozen BK138.out 7) | (go_at_call 15; (refine (spell_Same.calls t167 t168 t169 t170 t171 t172 t173 _ _ t174 (wrap64 (1 + t141)) 0 0 0 0 (⟨#[]⟩ : ByteArray) (⟨#[]⟩ : ByteArray) _ _ ([] : List Int) true _ ?side1 ?side2 ?side3 ?side4 A60.out).mono ?_); (case side1 => refine (Mk.R_reads' (e := 5) (base := w.heap.size) (ok := fun k_ => True) (n := t174.length) (c := co69) ?_).2.2; exact (by (with_reducible repeat (first | apply Mk.R_alloc | apply Mk.R_drewN | apply Mk.R_drew)); exact (Mk.R_mono (Mk.R_far (p := ⟨gb178, 7, none⟩) (Mk.R_far (p := ⟨gb178, 6, none⟩) (Mk.R_far (p := ⟨gb178, 5, none⟩) (Mk.R_far (p := ⟨gb178, 4, none⟩) (Mk.R_far (p := ⟨gb178, 3, none⟩) (Mk.R_far (p := ⟨gb178, 2, none⟩) (Mk.R_far (p := ⟨gb178, 1, none⟩) (Mk.R_far (p := ⟨gb178, 0, none⟩) (Mk.R_types HO176.out BK178.out (by decide)) (fun _ hk => hk.2) (.int .i64 t167)) (fun _ hk => hk.2) (.int .i64 t168)) (fun _ hk => hk.2) (.int .i64 t169)) (fun _ hk => hk.2) (.int .i64 t170)) (fun _ hk => hk.2) (.int .i64 t171)) (fun _ hk => hk.2) (.string t172)) (fun _ hk => hk.2) (.string t173)) (fun _ hk => hk.2) (.slice Ao69 t174.length co69)) (fun _ h_ => h_.1)))); (case side2 => exact (Mk.R_reads' HO176.out).2.1); (case side3 => exact Kd.C_nil _ _); (case side4 => exact Nat.le_refl _); rintro e w71 ⟨rfl, hb⟩; have n0_ := Aside0.mk (Mk.R_below (by (with_reducible repeat (first | apply Mk.R_alloc | apply Mk.R_drewN | apply Mk.R_drew)); exact (Mk.R_mono (Mk.R_far (p := ⟨gb178, 7, none⟩) (Mk.R_far (p := ⟨gb178, 6, none⟩) (Mk.R_far (p := ⟨gb178, 5, none⟩) (Mk.R_far (p := ⟨gb178, 4, none⟩) (Mk.R_far (p := ⟨gb178, 3, none⟩) (Mk.R_far (p := ⟨gb178, 2, none⟩) (Mk.R_far (p := ⟨gb178, 1, none⟩) (Mk.R_far (p := ⟨gb178, 0, none⟩) (Mk.R_types HO_9.out BK178.out (by decide)) (fun _ hk => hk.2) (.int .i64 t167)) (fun _ hk => hk.2) (.int .i64 t168)) (fun _ hk => hk.2) (.int .i64 t169)) (fun _ hk => hk.2) (.int .i64 t170)) (fun _ hk => hk.2) (.int .i64 t171)) (fun _ hk => hk.2) (.string t172)) (fun _ hk => hk.2) (.string t173)) (fun _ hk => hk.2) (.slice Ao69 t174.length co69)) (fun _ h_ => h_.1))) hb); have n1_ := Aside0.mk (Mk.R_below (by (with_reducible repeat (first | apply Mk.R_alloc | apply Mk.R_drewN | apply Mk.R_drew)); exact (Mk.R_mono (Mk.R_far (p := ⟨gb178, 7, none⟩) (Mk.R_far (p := ⟨gb178, 6, none⟩) (Mk.R_far (p := ⟨gb178, 5, none⟩) (Mk.R_far (p := ⟨gb178, 4, none⟩) (Mk.R_far (p := ⟨gb178, 3, none⟩) (Mk.R_far (p := ⟨gb178, 2, none⟩) (Mk.R_far (p := ⟨gb178, 1, none⟩) (Mk.R_far (p := ⟨gb178, 0, none⟩) (Mk.R_types HO176.out BK178.out (by decide)) (fun _ hk => hk.2) (.int .i64 t167)) (fun _ hk => hk.2) (.int .i64 t168)) (fun _ hk => hk.2) (.int .i64 t169)) (fun _ hk => hk.2) (.int .i64 t170)) (fun _ hk => hk.2) (.int .i64 t171)) (fun _ hk => hk.2) (.string t172)) (fun _ hk => hk.2) (.string t173)) (fun _ hk => hk.2) (.slice Ao69 t174.length co69)) (fun _ h_ => h_.1))) hb); have n2_ := Aside0.mk (blk_below (g := gb138) (o := .cells #[.int .i64 (wrap64 (1 + t141)), .int .i64 a0_1, .int .i64 a0_2, .int .i64 a0_3, .int .i64 a0_4, .string a0_5, .string a0_6, .slice A0_7 l0_7.length c0_7] 24 (0, 0)) (by (with_reducible repeat (first | refine blk_drewN ?_ _ | refine blk_drew ?_ | refine blk_alloc ?_ _)); refine blk_far ?_ NB138_178.out _; (with_reducible repeat (first | refine blk_drewN ?_ _ | refine blk_drew ?_ | refine blk_alloc ?_ _)); refine blk_far ?_ NB138_178.out _; (with_reducible repeat (first | refine blk_drewN ?_ _ | refine blk_drew ?_ | refine blk_alloc ?_ _)); refine blk_far ?_ NB138_178.out _; (with_reducible repeat (first | refine blk_drewN ?_ _ | refine blk_drew ?_ | refine blk_alloc ?_ _)); refine blk_far ?_ NB138_178.out _; (with_reducible repeat (first | refine blk_drewN ?_ _ | refine blk_drew ?_ | refine blk_alloc ?_ _)); refine blk_far ?_ NB138_178.out _; (with_reducible repeat (first | refine blk_drewN ?_ _ | refine blk_drew ?_ | refine blk_alloc ?_ _)); refine blk_far ?_ NB138_178.out _; (with_reducible repeat (first | refine blk_drewN ?_ _ | refine blk_drew ?_ | refine blk_alloc ?_ _)); refine blk_far ?_ NB138_178.out _; (with_reducible repeat (first | refine blk_drewN ?_ _ | refine blk_drew ?_ | refine blk_alloc ?_ _)); refine blk_far ?_ NB138_178.out _; (with_reducible repeat (first | refine blk_drewN ?_ _ | refine blk_drew ?_ | refine blk_alloc ?_ _)); exact BK138.out) hb); have n3_ := Aside0.mk (blk_below (g := gb178) (o := .cells #[.int .i64 t167, .int .i64 t168, .int .i64 t169, .int .i64 t170, .int .i64 t171, .string t172, .string t173, .slice Ao69 t174.length co69] 24 (0, 0)) (by (with_reducible repeat (first | refine blk_drewN ?_ _ | refine blk_drew ?_ | refine blk_alloc ?_ _)); refine blk_put (cs := #[.int .i64 t167, .int .i64 t168, .int .i64 t169, .int .i64 t170, .int .i64 t171, .string t172, .string t173, .slice none 0 0]) ?_ 7 _ rfl; (with_reducible repeat (first | refine blk_drewN ?_ _ | refine blk_drew ?_ | refine blk_alloc ?_ _)); refine blk_put (cs := #[.int .i64 t167, .int .i64 t168, .int .i64 t169, .int .i64 t170, .int .i64 t171, .string t172, .string (⟨#[]⟩ : ByteArray), .slice none 0 0]) ?_ 6 _ rfl; (with_reducible repeat (first | refine blk_drewN ?_ _ | refine blk_drew ?_ | refine blk_alloc ?_ _)); refine blk_put (cs := #[.int .i64 t167, .int .i64 t168, .int .i64 t169, .int .i64 t170, .int .i64 t171, .string (⟨#[]⟩ : ByteArray), .string (⟨#[]⟩ : ByteArray), .slice none 0 0]) ?_ 5 _ rfl; (with_reducible repeat (first | refine blk_drewN ?_ _ | refine blk_drew ?_ | refine blk_alloc ?_ _)); refine blk_put (cs := #[.int .i64 t167, .int .i64 t168, .int .i64 t169, .int .i64 t170, .int .i64 0, .string (⟨#[]⟩ : ByteArray), .string (⟨#[]⟩ : ByteArray), .slice none 0 0]) ?_ 4 _ rfl; (with_reducible repeat (first | refine blk_drewN ?_ _ | refine blk_drew ?_ | refine blk_alloc ?_ _)); refine blk_put (cs := #[.int .i64 t167, .int .i64 t168, .int .i64 t169, .int .i64 0, .int .i64 0, .string (⟨#[]⟩ : ByteArray), .string (⟨#[]⟩ : ByteArray), .slice none 0 0]) ?_ 3 _ rfl; (with_reducible repeat (first | refine blk_drewN ?_ _ | refine blk_drew ?_ | refine blk_alloc ?_ _)); refine blk_put (cs := #[.int .i64 t167, .int .i64 t168, .int .i64 0, .int .i64 0, .int .i64 0, .string (⟨#[]⟩ : ByteArray), .string (⟨#[]⟩ : ByteArray), .slice none 0 0]) ?_ 2 _ rfl; (with_reducible repeat (first | refine blk_drewN ?_ _ | refine blk_drew ?_ | refine blk_alloc ?_ _)); refine blk_put (cs := #[.int .i64 t167, .int .i64 0, .int .i64 0, .int .i64 0, .int .i64 0, .string (⟨#[]⟩ : ByteArray), .string (⟨#[]⟩ : ByteArray), .slice none 0 0]) ?_ 1 _ rfl; (with_reducible repeat (first | refine blk_drewN ?_ _ | refine blk_drew ?_ | refine blk_alloc ?_ _)); refine blk_put (cs := #[.int .i64 0, .int .i64 0, .int .i64 0, .int .i64 0, .int .i64 0, .string (⟨#[]⟩ : ByteArray), .string (⟨#[]⟩ : ByteArray), .slice none 0 0]) ?_ 0 _ rfl; (with_reducible repeat (first | refine blk_drewN ?_ _ | refine blk_drew ?_ | refine blk_alloc ?_ _)); exact BK178.out) hb); have n4_ := Aside0.mk (below_step (by repeat (first | (with_reducible first | exact HB.out | apply below_alloc | apply pw_below_drewN | apply below_drew1 | refine below_set ?_ GE138.out | refine below_set ?_ GE178.out) | exact HB.out)) hb); clear HO_9; clear HO176; clear BK138; clear BK178; clear HB; have HO_9 := n0_; have HO176 := n1_; have BK138 := n2_; have BK178 := n3_; have HB := n4_; clear n0_ n1_ n2_ n3_ n4_; (try clear hb); (try clear hb2); (try clear hk); (try clear hi)) | (go_at_call 7; (with_reducible refine (purlinlaw25_awake.calls k2  t180 _ ?side1 A62.out).mono ?_); (case side1 => exact G_below hG (by repeat (first | (with_reducible first | exact HB.out | apply below_alloc | apply pw_below_drewN | apply below_drew1 | refine below_set ?_ GE138.out | refine below_set ?_ GE178.out) | exact HB.out))); rintro e w72 ⟨rfl, hb⟩; have n0_ := Aside0.mk (Mk.R_below (by (with_reducible repeat (first | apply Mk.R_alloc | apply Mk.R_drewN | apply Mk.R_drew)); exact HO_9.out) hb); have n1_ := Aside0.mk (Mk.R_below (by (with_reducible repeat (first | apply Mk.R_alloc | apply Mk.R_drewN | apply Mk.R_drew)); exact HO176.out) hb); have n2_ := Aside0.mk (blk_below (g := gb138) (o := .cells #[.int .i64 (wrap64 (1 + t141)), .int .i64 a0_1, .int .i64 a0_2, .int .i64 a0_3, .int .i64 a0_4, .string a0_5, .string a0_6, .slice A0_7 l0_7.length c0_7] 24 (0, 0)) (by (with_reducible repeat (first | refine blk_drewN ?_ _ | refine blk_drew ?_ | refine blk_alloc ?_ _)); exact BK138.out) hb); have n3_ := Aside0.mk (blk_below (g := gb178) (o := .cells #[.int .i64 t167, .int .i64 t168, .int .i64 t169, .int .i64 t170, .int .i64 t171, .string t172, .string t173, .slice Ao69 t174.length co69] 24 (0, 0)) (by (with_reducible repeat (first | refine blk_drewN ?_ _ | refine blk_drew ?_ | refine blk_alloc ?_ _)); exact BK178.out) hb); have n4_ := Aside0.mk (below_step (by repeat (first | (with_reducible first | exact HB.out | apply below_alloc | apply pw_below_drewN | apply below_drew1 | refine below_set ?_ GE138.out | refine below_set ?_ GE178.out) | exact HB.out)) hb); clear HO_9; clear HO176; clear BK138; clear BK178; clear HB; have HO_9 := n0_; have HO176 := n1_; have BK138 := n2_; have BK178 := n3_; have HB := n4_; clear n0_ n1_ n2_ n3_ n4_; (try clear hb); (try clear hb2); (try clear hk); (try clear hi)))
                              go_ret
                              exact ⟨by first | rfl | (simp [errW_none, errW_some] <;> rfl) | (simp only [← hji54]; first | rfl | (simp [errW_none, errW_some] <;> rfl)) | (simp [*, errW_none, errW_some] <;> rfl), by repeat (first | (with_reducible first | exact HB.out | apply below_alloc | apply pw_below_drewN | apply below_drew1 | refine below_set ?_ GE138.out | refine below_set ?_ GE178.out) | exact HB.out)⟩
                            · replace c61 := Bool.eq_false_iff.mpr c61
                              subst c61
                              have H1 : (some false) = some r := by rw [if_neg (show ¬ (false = true) by decide)] at H; exact H
                              clear H
                              have H := H1
                              clear H1
                              exact absurd ((Option.some.inj H).trans hrT.out) (by simp)
                          · rw [if_neg c59] at H
                            have c59b0 : (t167 == (wrap64 (1 + t141))) = false := beq_eq_false_iff_ne.mpr c59
                            have c59b1 : (t167 != (wrap64 (1 + t141))) = true := bne_iff_ne.mpr c59
                            exact absurd ((Option.some.inj H).trans hrT.out) (by simp)
                        · rw [if_neg c58] at H
                          have c58b0 : (t177 == 0) = false := beq_eq_false_iff_ne.mpr c58
                          have c58b1 : (t177 != 0) = true := bne_iff_ne.mpr c58
                          exact absurd ((Option.some.inj H).trans hrT.out) (by simp)
                      · rw [if_neg c57] at H
                        have c57b0 : ((t166.extract 0 ((ji54) : Int).toNat).toList == t142.toList) = false := beq_eq_false_iff_ne.mpr c57
                        have c57b1 : ((t166.extract 0 ((ji54) : Int).toNat).toList != t142.toList) = true := bne_iff_ne.mpr c57
                        exact absurd ((Option.some.inj H).trans hrT.out) (by simp)
                    · rw [if_neg c56] at H
                      exact absurd H (by simp)
                  · rw [if_neg c55] at H
                    exact absurd H (by simp)
                · rw [if_neg c53] at H
                  have c53b0 : ((t166.size : Int) == x4_2) = false := beq_eq_false_iff_ne.mpr c53
                  have c53b1 : ((t166.size : Int) != x4_2) = true := bne_iff_ne.mpr c53
                  exact absurd ((Option.some.inj H).trans hrT.out) (by simp)

end Go.Proofs.YtibjgmhhecbhbaaDoor.PSpellLong
