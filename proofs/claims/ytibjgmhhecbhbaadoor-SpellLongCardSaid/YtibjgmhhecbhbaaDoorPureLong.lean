/- The law answers true, for every input: plain Lean. -/
import Derived.Test.YtibjgmhhecbhbaaDoorComLong
namespace Go.Proofs.YtibjgmhhecbhbaaDoor.PSpellLong
open Go.RowKit Go.Proofs.YtibjgmhhecbhbaaDoorW.PrintWords Go.Proofs.YtibjgmhhecbhbaaDoorW.PrintLast Go.Proofs.YtibjgmhhecbhbaaDoorW.PrintMore Go.Proofs.YtibjgmhhecbhbaaDoor.Hand
set_option linter.unusedVariables false
set_option linter.unusedSimpArgs false

/-- How often a number is divided by ten till it is none. -/
def D (u : Nat) : Nat := if u = 0 then 0 else Lib.nDigits u
theorem D_step {u : Nat} (h : u ≠ 0) : D u = D (u / 10) + 1 := by
  unfold D
  rw [if_neg h]
  by_cases h1 : u < 10
  · rw [Lib.nDigits_small h1, if_pos (by omega)]
  · rw [Lib.nDigits_big h1, if_neg (by omega)]
theorem D_le (u : Nat) (h : u < 18446744073709551616) : D u ≤ 20 := by
  unfold D
  split
  · omega
  · exact Lib.nDigits_le20 u h
theorem itoa_len (n : Int) (h : n ≠ 0) : ((Lib.itoa n).length : Int) = D n.natAbs + (if n < 0 then 1 else 0) := by
  unfold Lib.itoa D
  rw [if_neg (by omega : ¬ n.natAbs = 0)]
  by_cases hn : n < 0
  · rw [if_pos hn, if_pos hn, List.length_cons, Lib.decDigits_length]; omega
  · rw [if_neg hn, if_neg hn, Lib.decDigits_length, show n.toNat = n.natAbs by omega]; omega

theorem ev_l1 (x3 : ByteArray) (x4 : Int) (x5 : List Int) (x6 a b c d e : Int) (p t : ByteArray) (l : List Int) :
    ∀ (u : Nat) (x7 x8 : Int), x8.natAbs = u → u < 18446744073709551616 → 0 ≤ x7 → x7 + D u ≤ 100 → okI x8 →
      Ev (fun k => purlinlaw25_SpellLong.l1 k x3 x4 x5 x6 (x7 + D u) 0 a b c d e p t l) true → Ev (fun k => purlinlaw25_SpellLong.l1 k x3 x4 x5 x6 x7 x8 a b c d e p t l) true := by
  intro u
  induction u using Nat.strongRecOn with
  | _ u ih =>
    intro x7 x8 hx hu h7 h8 h9 ⟨K, hK⟩
    by_cases hz : u = 0
    · subst hz
      have : x8 = 0 := by omega
      subst this
      refine ⟨K, fun k hk => ?_⟩
      have := hK k hk
      simpa [D] using this
    · have hd := D_step hz
      have hq : (x8.tdiv 10).natAbs = u / 10 := by rw [Int.natAbs_tdiv, hx]; rfl
      have hr : okI (x8.tdiv 10) := by unfold okI at *; omega
      obtain ⟨K2, hK2⟩ := ih (u / 10) (by omega) (x7 + 1) (x8.tdiv 10) hq (by omega) (by omega) (by omega) hr ⟨K, fun k hk => by
        have := hK k hk
        rw [hd] at this
        rw [show x7 + 1 + (D (u / 10) : Int) = x7 + ((D (u / 10) + 1 : Nat) : Int) by omega]
        exact this⟩
      refine ⟨K2 + 1, fun k hk => ?_⟩
      obtain ⟨k, rfl⟩ : ∃ m, k = m + 1 := ⟨k - 1, by omega⟩
      show purlinlaw25_SpellLong.l1 (k + 1) x3 x4 x5 x6 x7 x8 a b c d e p t l = _
      rw [purlinlaw25_SpellLong.l1, if_neg (by omega), show wrap64 (x7 + 1) = x7 + 1 by unfold wrap64; omega, show wrap64 (x8.tdiv 10) = x8.tdiv 10 by unfold okI at hr; unfold wrap64; omega]
      exact hK2 k (by omega)
/-- What a field of a number is long. -/
def cI (k : Int) (n : Int) : Int := if n = 0 then 0 else k + (Lib.itoa n).length
theorem wr_neg (x4 ki : Int) (d : Nat) (h4 : 0 ≤ x4 ∧ x4 ≤ 10000) (hki : 0 ≤ ki ∧ ki ≤ 7) (hd : d ≤ 20) : wrap64 (wrap64 (x4 + ki) + wrap64 (0 + (d : Int) + 1)) = x4 + (ki + ((d : Int) + 1)) := by
  have e1 : wrap64 (x4 + ki) = x4 + ki := by unfold wrap64; omega
  have e2 : wrap64 (0 + (d : Int) + 1) = (d : Int) + 1 := by unfold wrap64; omega
  rw [e1, e2]; unfold wrap64; omega
theorem wr_pos (x4 ki : Int) (d : Nat) (h4 : 0 ≤ x4 ∧ x4 ≤ 10000) (hki : 0 ≤ ki ∧ ki ≤ 7) (hd : d ≤ 20) : wrap64 (wrap64 (x4 + ki) + (0 + (d : Int))) = x4 + (ki + ((d : Int) + 0)) := by
  have e1 : wrap64 (x4 + ki) = x4 + ki := by unfold wrap64; omega
  rw [e1]; unfold wrap64; omega
theorem ev_l0 (x3 : ByteArray) (x4 : Int) (ns : List Int) (i : Nat) (n ki a b c d e : Int) (p t : ByteArray) (l : List Int) (hi : i < 4) (hns : ns.length = 4) (hn : rd ns (i : Int) = n) (hk : rd [4, 3, 5, 7] (i : Int) = ki) (hki : 0 ≤ ki ∧ ki ≤ 7) (ho : okI n) (h4 : 0 ≤ x4 ∧ x4 ≤ 10000)
    (h : Ev (fun k => purlinlaw25_SpellLong.l0 k x3 (x4 + cI ki n) ns ((i + 1 : Nat) : Int) a b c d e p t l) true) : Ev (fun k => purlinlaw25_SpellLong.l0 k x3 x4 ns (i : Int) a b c d e p t l) true := by
  have hi0 : 0 ≤ (i : Int) := by omega
  have hi1 : (i : Int) < 4 := by omega
  have hi2 : (i : Int) < (ns.length : Int) := by omega
  have hi4 : (i : Int) < (([4, 3, 5, 7] : List Int).length : Int) := hi1
  have hw : wrap64 ((i : Int) + 1) = ((i + 1 : Nat) : Int) := by unfold wrap64; omega
  by_cases hz : n = 0
  · obtain ⟨K, hK⟩ := h
    refine ⟨K + 1, fun k hk' => ?_⟩
    obtain ⟨k, rfl⟩ : ∃ m, k = m + 1 := ⟨k - 1, by omega⟩
    show purlinlaw25_SpellLong.l0 (k + 1) x3 x4 ns (i : Int) a b c d e p t l = _
    rw [purlinlaw25_SpellLong.l0, if_pos hi1, if_pos hi0, if_pos hi2, hn, if_pos hz, hw]
    have := hK k (by omega)
    simpa [cI, hz] using this
  · have hu : n.natAbs < 18446744073709551616 := by unfold okI at ho; omega
    have hD := D_le n.natAbs hu
    have hlen := itoa_len n hz
    have h1 : Ev (fun k => purlinlaw25_SpellLong.l1 k x3 x4 ns (i : Int) (0 + D n.natAbs) 0 a b c d e p t l) true := by
      obtain ⟨K, hK⟩ := h
      refine ⟨K + 1, fun k hk' => ?_⟩
      obtain ⟨k, rfl⟩ : ∃ m, k = m + 1 := ⟨k - 1, by omega⟩
      have := hK k (by omega)
      simp only [cI, if_neg hz, hlen] at this
      show purlinlaw25_SpellLong.l1 (k + 1) x3 x4 ns (i : Int) (0 + D n.natAbs) 0 a b c d e p t l = _
      rw [purlinlaw25_SpellLong.l1, if_pos rfl, if_pos hi0, if_pos hi2, hn]
      by_cases hneg : n < 0
      · rw [if_pos hneg] at this ⊢
        rw [Option.bind_some, if_pos hi4, hk, hw, wr_neg x4 ki (D n.natAbs) h4 hki hD]
        exact this
      · rw [if_neg hneg] at this ⊢
        rw [Option.bind_some, if_pos hi4, hk, hw, wr_pos x4 ki (D n.natAbs) h4 hki hD]
        exact this
    obtain ⟨K, hK⟩ := ev_l1 x3 x4 ns (i : Int) a b c d e p t l n.natAbs 0 n rfl hu (by omega) (by omega) ho h1
    refine ⟨K + 1, fun k hk' => ?_⟩
    obtain ⟨k, rfl⟩ : ∃ m, k = m + 1 := ⟨k - 1, by omega⟩
    show purlinlaw25_SpellLong.l0 (k + 1) x3 x4 ns (i : Int) a b c d e p t l = _
    rw [purlinlaw25_SpellLong.l0, if_pos hi1, if_pos hi0, if_pos hi2, hn, if_neg hz]
    exact hK k (by omega)
def cS (k n : Int) : Int := if n = 0 then 0 else k + 2 * n
theorem ev_l2 (x3 : ByteArray) (x4 : Int) (ns : List Int) (i : Nat) (n ki a b c d e : Int) (p t : ByteArray) (l : List Int) (hi : i < 3) (hns : ns.length = 3) (hn : rd ns (i : Int) = n) (hk : rd [6, 4, 6] (i : Int) = ki) (hki : 0 ≤ ki ∧ ki ≤ 7) (ho : 0 ≤ n ∧ n ≤ 10000) (h4 : 0 ≤ x4 ∧ x4 ≤ 100000)
    (h : Ev (fun k => purlinlaw25_SpellLong.l2 k x3 (x4 + cS ki n) ns ((i + 1 : Nat) : Int) a b c d e p t l) true) : Ev (fun k => purlinlaw25_SpellLong.l2 k x3 x4 ns (i : Int) a b c d e p t l) true := by
  have hw : wrap64 ((i : Int) + 1) = ((i + 1 : Nat) : Int) := by unfold wrap64; omega
  obtain ⟨K, hK⟩ := h
  refine ⟨K + 1, fun k hk' => ?_⟩
  obtain ⟨k, rfl⟩ : ∃ m, k = m + 1 := ⟨k - 1, by omega⟩
  have := hK k (by omega)
  show purlinlaw25_SpellLong.l2 (k + 1) x3 x4 ns (i : Int) a b c d e p t l = _
  rw [purlinlaw25_SpellLong.l2, if_pos (by omega), if_pos (by omega), if_pos (by omega), hn]
  have hl4 : (([6, 4, 6] : List Int).length : Int) = 3 := rfl
  by_cases hz : n = 0
  · rw [if_neg (by omega), hw]
    simpa [cS, hz] using this
  · rw [if_pos (by omega), Option.bind_some, if_pos (by rw [hl4]; omega), hk, hw, show wrap64 (wrap64 (x4 + ki) + wrap64 (2 * n)) = x4 + (ki + 2 * n) by
      have e1 : wrap64 (x4 + ki) = x4 + ki := by unfold wrap64; omega
      have e2 : wrap64 (2 * n) = 2 * n := by unfold wrap64; omega
      rw [e1, e2]; unfold wrap64; omega]
    simpa [cS, hz] using this
theorem fI_len (k : Bs) (n : Int) : (((fI k n).flatMap (32 :: ·)).length : Int) = cI (k.length + 2) n := by
  unfold fI cI
  split
  · simp
  · simp [eqK]; omega
theorem fS_len (k : Bs) (s : ByteArray) : (((fS k s).flatMap (32 :: ·)).length : Int) = cS (k.length + 2) s.size := by
  unfold fS cS
  by_cases h : dl s = []
  · have : s.size = 0 := by rw [← dl_size, h]; rfl
    rw [if_pos h, if_pos (by omega)]; simp
  · have h0 : s.size ≠ 0 := fun e => h (List.eq_nil_of_length_eq_zero e)
    have : (dl (toldB s)).length = 2 * s.size := toldB_size s
    rw [if_neg h, if_neg (by omega)]
    simp [eqK, this]; omega
theorem pure (a0_0 a0_1 a0_2 a0_3 a0_4 : Int) (a0_5 a0_6 : ByteArray) (l0_7 : List Int) (h1 : okI a0_1) (h2 : okI a0_2) (h3 : okI a0_3) (h4 : okI a0_4) (h7 : BytesI l0_7) :
    ∃ k, purlinlaw25_SpellLong.f k a0_0 a0_1 a0_2 a0_3 a0_4 a0_5 a0_6 l0_7 = some true := by
  have hg := great_f ⟨a0_0, a0_1, a0_2, a0_3, a0_4, a0_5, a0_6, l0_7⟩
  simp only at hg
  unfold purlinlaw25_SpellLong.f
  rw [hg]
  simp only [Option.bind_some]
  by_cases hs : a0_5.size ≤ 300 ∧ a0_6.size ≤ 300 ∧ l0_7.length ≤ 3000
  case neg =>
    refine ⟨1, ?_⟩
    rw [if_pos (decide_eq_true hs), awake_ok 0]; rfl
  have hdf : decide (¬ (a0_5.size ≤ 300 ∧ a0_6.size ≤ 300 ∧ l0_7.length ≤ 3000)) = false := by simpa using hs
  obtain ⟨r, hr, hr0, hr1⟩ := low_f a0_0 23 (by omega) (by omega)
  have hkd : wrap64 (1 + r) = 1 + r := by unfold wrap64; omega
  obtain ⟨kd, hkd2⟩ : ∃ kd, kd = 1 + r := ⟨_, rfl⟩
  simp only [hdf, Bool.false_eq_true, if_false, hr, Option.bind_some, hkd]
  rw [← hkd2]
  clear hdf
  have k1 : 1 ≤ kd := by omega
  have k2 : kd < 24 := by omega
  clear hr hr0 hr1 hkd hkd2 hg
  -- the word
  have zI : okI 0 := okI_zero
  have okw : OkR ⟨kd, 0, 0, 0, 0, ⟨#[]⟩, ⟨#[]⟩, []⟩ := ⟨zI, zI, zI, zI, by intro x hx; cases hx⟩
  have oko : OkR ⟨kd, a0_1, a0_2, a0_3, a0_4, a0_5, a0_6, l0_7⟩ := ⟨h1, h2, h3, h4, h7⟩
  have hw := say_f ⟨kd, 0, 0, 0, 0, ⟨#[]⟩, ⟨#[]⟩, []⟩ okw (by show (0 : Nat) ≤ _; omega) (by show (0 : Nat) ≤ _; omega) (by show (0 : Nat) ≤ _; omega)
  have ho := say_f ⟨kd, a0_1, a0_2, a0_3, a0_4, a0_5, a0_6, l0_7⟩ oko (by simp only; omega) (by simp only; omega) (by simp only; omega)
  have hwd := say_dl ⟨kd, 0, 0, 0, 0, ⟨#[]⟩, ⟨#[]⟩, []⟩ k1 k2
  have hod := say_dl ⟨kd, a0_1, a0_2, a0_3, a0_4, a0_5, a0_6, l0_7⟩ k1 k2
  have hrw := read_say ⟨kd, 0, 0, 0, 0, ⟨#[]⟩, ⟨#[]⟩, []⟩ okw k1 k2
  have hwf : fieldsOf ⟨kd, 0, 0, 0, 0, ⟨#[]⟩, ⟨#[]⟩, []⟩ = [] := by
    unfold fieldsOf fI fS
    simp [dl, strOfNums]
  rw [hwf] at hwd
  simp only [List.flatMap_nil, List.append_nil] at hwd
  have hwl : (wordOf kd).length ≤ 9 := words_size _
  simp only [hw, Option.bind_some]
  generalize (⟨kd, 0, 0, 0, 0, ⟨#[]⟩, ⟨#[]⟩, []⟩ : ROp).say = wb at *
  generalize (⟨kd, a0_1, a0_2, a0_3, a0_4, a0_5, a0_6, l0_7⟩ : ROp).say = sb at *
  have hwz : wb.size = (wordOf kd).length := by rw [← dl_size, hwd]
  have hrf := read_f wb (by omega)
  rw [hrw] at hrf
  simp only at hrf
  -- the lengths
  have hsz : (sb.size : Int) = wb.size + cI 4 a0_1 + cI 3 a0_2 + cI 5 a0_3 + cI 7 a0_4 + cS 6 a0_5.size + cS 4 a0_6.size + cS 6 l0_7.length := by
    rw [← dl_size, hod, List.length_append, hwz]
    unfold fieldsOf
    simp only [List.flatMap_append, List.length_append]
    have e1 := fI_len kFD a0_1
    have e2 := fI_len kN a0_2
    have e3 := fI_len kOff a0_3
    have e4 := fI_len kFl a0_4
    have e5 := fS_len kP a0_5
    have e6 := fS_len kT a0_6
    have e7 := fS_len kD (strOfNums l0_7)
    rw [strOfNums_size] at e7
    rw [show ((kFD.length : Nat) : Int) + 2 = 4 from rfl] at e1
    rw [show ((kN.length : Nat) : Int) + 2 = 3 from rfl] at e2
    rw [show ((kOff.length : Nat) : Int) + 2 = 5 from rfl] at e3
    rw [show ((kFl.length : Nat) : Int) + 2 = 7 from rfl] at e4
    rw [show ((kP.length : Nat) : Int) + 2 = 6 from rfl] at e5
    rw [show ((kT.length : Nat) : Int) + 2 = 4 from rfl] at e6
    rw [show ((kD.length : Nat) : Int) + 2 = 6 from rfl] at e7
    omega
  have bI : ∀ (k n : Int), 0 ≤ k → k ≤ 7 → okI n → 0 ≤ cI k n ∧ cI k n ≤ 28 := by
    intro k n hk0 hk1 hn
    unfold cI
    split
    · omega
    · have := Lib.itoa_length_le n hn.1 hn.2
      omega
  have bS : ∀ (k n : Int), 0 ≤ k → k ≤ 7 → 0 ≤ n → n ≤ 3000 → 0 ≤ cS k n ∧ cS k n ≤ 6007 := by
    intro k n hk0 hk1 hn hn2
    unfold cS
    split <;> omega
  have b1 := bI 4 a0_1 (by omega) (by omega) h1
  have b2 := bI 3 a0_2 (by omega) (by omega) h2
  have b3 := bI 5 a0_3 (by omega) (by omega) h3
  have b4 := bI 7 a0_4 (by omega) (by omega) h4
  have b5 := bS 6 a0_5.size (by omega) (by omega) (by omega) (by omega)
  have b6 := bS 4 a0_6.size (by omega) (by omega) (by omega) (by omega)
  have b7 := bS 6 l0_7.length (by omega) (by omega) (by omega) (by omega)
  suffices hev : Ev (fun k => purlinlaw25_SpellLong.l0 k wb (wb.size : Int) [a0_1, a0_2, a0_3, a0_4] ((0 : Nat) : Int) kd a0_1 a0_2 a0_3 a0_4 a0_5 a0_6 l0_7) true by
    obtain ⟨K, hK⟩ := hev
    exact ⟨K, hK K (Nat.le_refl _)⟩
  refine ev_l0 wb _ _ 0 a0_1 4 kd a0_1 a0_2 a0_3 a0_4 a0_5 a0_6 l0_7 (by omega) rfl rfl rfl (by omega) h1 (by omega) ?_
  refine ev_l0 wb _ _ 1 a0_2 3 kd a0_1 a0_2 a0_3 a0_4 a0_5 a0_6 l0_7 (by omega) rfl rfl rfl (by omega) h2 (by omega) ?_
  refine ev_l0 wb _ _ 2 a0_3 5 kd a0_1 a0_2 a0_3 a0_4 a0_5 a0_6 l0_7 (by omega) rfl rfl rfl (by omega) h3 (by omega) ?_
  refine ev_l0 wb _ _ 3 a0_4 7 kd a0_1 a0_2 a0_3 a0_4 a0_5 a0_6 l0_7 (by omega) rfl rfl rfl (by omega) h4 (by omega) ?_
  suffices hev : Ev (fun k => purlinlaw25_SpellLong.l2 k wb (wb.size + cI 4 a0_1 + cI 3 a0_2 + cI 5 a0_3 + cI 7 a0_4) [(a0_5.size : Int), (a0_6.size : Int), (l0_7.length : Int)] ((0 : Nat) : Int) kd a0_1 a0_2 a0_3 a0_4 a0_5 a0_6 l0_7) true by
    obtain ⟨K, hK⟩ := hev
    refine ⟨K + 1, fun k hk => ?_⟩
    obtain ⟨k, rfl⟩ : ∃ m, k = m + 1 := ⟨k - 1, by omega⟩
    show purlinlaw25_SpellLong.l0 (k + 1) wb _ _ ((4 : Nat) : Int) kd a0_1 a0_2 a0_3 a0_4 a0_5 a0_6 l0_7 = _
    rw [purlinlaw25_SpellLong.l0, if_neg (by omega)]
    exact hK k (by omega)
  refine ev_l2 wb _ _ 0 a0_5.size 6 kd a0_1 a0_2 a0_3 a0_4 a0_5 a0_6 l0_7 (by omega) rfl rfl rfl (by omega) (by omega) (by omega) ?_
  refine ev_l2 wb _ _ 1 a0_6.size 4 kd a0_1 a0_2 a0_3 a0_4 a0_5 a0_6 l0_7 (by omega) rfl rfl rfl (by omega) (by omega) (by omega) ?_
  refine ev_l2 wb _ _ 2 l0_7.length 6 kd a0_1 a0_2 a0_3 a0_4 a0_5 a0_6 l0_7 (by omega) rfl rfl rfl (by omega) (by omega) (by omega) ?_
  refine ⟨2, fun k hk => ?_⟩
  obtain ⟨k, rfl⟩ : ∃ m, k = m + 2 := ⟨k - 2, by omega⟩
  show purlinlaw25_SpellLong.l2 (k + 2) wb _ _ ((3 : Nat) : Int) kd a0_1 a0_2 a0_3 a0_4 a0_5 a0_6 l0_7 = _
  rw [purlinlaw25_SpellLong.l2, if_neg (by omega), ho, hrf]
  simp only [Option.bind_some]
  have hle : wb.size ≤ sb.size := by omega
  have hm : mn (wb.size : Int) (sb.size : Int) = (wb.size : Int) := by unfold mn; rw [if_neg (by omega)]
  have hpre : (sb.extract 0 wb.size).toList = wb.toList := by
    rw [tl_dl, tl_dl]
    show (sb.extract 0 wb.size).data.toList = _
    rw [Lib.extract_from_zero]
    show (dl sb).take wb.size = dl wb
    rw [hod, hwd, hwz, List.take_left]
  have hsame := same_eq ⟨kd, 0, 0, 0, 0, ⟨#[]⟩, ⟨#[]⟩, []⟩
  simp only at hsame
  rw [if_pos hsz, hm, if_pos (by omega), if_pos (by omega), Int.toNat_natCast, if_pos hpre, if_pos trivial, if_pos trivial, hsame]
  simp only [Option.bind_some, if_true]
  rw [awake_ok k]
  rfl
end Go.Proofs.YtibjgmhhecbhbaaDoor.PSpellLong
