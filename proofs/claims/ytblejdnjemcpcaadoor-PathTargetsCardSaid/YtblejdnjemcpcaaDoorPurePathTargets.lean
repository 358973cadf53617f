/- PathTargets' plain law: behind a slash a target's parts are a path's. -/
import Derived.Test.YtblejdnjemcpcaaDoorComTargets
namespace Go.Proofs.YtblejdnjemcpcaaDoor.PPathTargets
open Go.RowKit Go.Proofs.YtblejdnjemcpcaaDoorW.PrintWords Go.Proofs.YtblejdnjemcpcaaDoorW.PrintLast Go.Proofs.YtblejdnjemcpcaaDoorW.PrintMore Go.Proofs.YtblejdnjemcpcaaDoor.Hand

theorem names_slash (l : Bs) : namesL (47 :: l) = namesL l := by
  unfold namesL; rw [splitL_slash, List.filter_cons, if_neg (by decide)]
theorem ok_slash (l : Bs) : okL (47 :: l) = okL l := by unfold okL; rw [names_slash]
theorem err_slash (l : Bs) : errL (47 :: l) = if (0 : UInt8) ∈ l then 2 else if okL l then (if 200 < l.length + 1 then 11 else 0) else 11 := by
  unfold errL
  rw [ok_slash, show Lib.hasPrefix (47 :: l) [47] = true by simp [Lib.hasPrefix, List.isPrefixOf], if_pos rfl]
  simp
theorem bt_zero (a : ByteArray) (c : UInt8) (t : Bs) (h : dl a = c :: t) : bt a 0 = (c.toNat : Int) := by
  have hs : 0 < a.size := by rw [← dl_size, h]; simp
  have h1 := bt_at a 0 (by simpa using hs)
  rw [← h1]
  obtain ⟨⟨l⟩⟩ := a
  have h2 : l = c :: t := h
  subst h2
  rfl
theorem pure : purlinlaw12_PathTargets.Pure := by
  intro a0 _
  refine ⟨1000, ?_⟩
  unfold purlinlaw12_PathTargets.f
  by_cases hs : (a0.size : Int) > 150
  · rw [if_pos hs, awake_ok 995]; rfl
  · rw [if_neg hs]
    obtain ⟨l, b, hl, hd, hb⟩ := target_f 999 a0 (by omega)
    have hdl : dl ((⟨#[47]⟩ : ByteArray) ++ a0) = 47 :: dl a0 := by simp [dl]
    have hsz : ((⟨#[47]⟩ : ByteArray) ++ a0).size = a0.size + 1 := by rw [← dl_size, hdl, List.length_cons, dl_size]
    obtain ⟨m, hm, hmd⟩ := split_f ((⟨#[47]⟩ : ByteArray) ++ a0) (by omega)
    rw [hdl, names_slash, err_slash] at hmd
    rw [hdl, err_slash] at hm
    rw [hl, hm]
    have e1 : (dl a0).length = a0.size := rfl
    simp only [Option.bind_some]
    rw [if_pos (by omega), Lib.toList_data]
    have e0 : a0.data.toList = dl a0 := rfl
    rw [e0]
    unfold terrL at *
    by_cases h0 : dl a0 = []
    · simp only [h0, if_true] at *
      have : l = [] := by cases l with | nil => rfl | cons x l => simp at hd
      subst this
      have hb' : b = false := by rw [hb]; rfl
      rw [if_neg (by decide), if_pos (show (([] : List ByteArray).length : Int) = 0 from rfl), hb', if_neg (by decide), awake_ok 995]; rfl
    · rw [if_neg h0] at hd hb ⊢
      by_cases h1 : (0 : UInt8) ∈ dl a0
      · rw [if_pos h1] at hd hb hmd ⊢
        have : l = [] := by cases l with | nil => rfl | cons x l => simp at hd
        subst this
        have hb' : b = false := by rw [hb]; rfl
        rw [if_pos h1, if_neg (by decide), if_pos (show (([] : List ByteArray).length : Int) = 0 from rfl), hb', if_neg (by decide), if_neg h0, awake_ok 995]
        split <;> rfl
      · rw [if_neg h1] at hd hb hmd ⊢
        rw [if_neg h1]
        by_cases h2 : okL (dl a0) = true
        · rw [if_pos h2, if_neg (show ¬ 200 < (dl a0).length + 1 by omega)] at hmd
          rw [if_pos h2] at hd hb ⊢
          rw [if_pos h2, if_neg (show ¬ 200 < (dl a0).length + 1 by omega)]
          by_cases h3 : 100 < (dl a0).length
          · rw [if_pos h3] at hd hb ⊢
            have : l = [] := by cases l with | nil => rfl | cons x l => simp at hd
            subst this
            have hb' : b = false := by rw [hb]; rfl
            rw [if_neg (by decide), if_pos (show (([] : List ByteArray).length : Int) = 0 from rfl), hb', if_neg (by decide), if_neg h0, if_pos (by omega), awake_ok 995]; rfl
          · rw [if_neg h3] at hd hb ⊢
            rw [if_pos rfl] at hd hb hmd
            rw [if_pos (by trivial), if_pos (by trivial)]
            have hn : (namesL (dl a0)).length ≤ 20 := by
              unfold okL at h2
              simp only [Bool.and_eq_true, decide_eq_true_eq] at h2
              exact h2.2
            have hll : l.length ≤ 20 := by rw [← hd, List.length_map] at hn; exact hn
            rw [same_f 1000 l m (by omega) (by rw [hd, hmd]) (by omega)]
            simp only [Option.bind_some]
            obtain ⟨c, t, hct⟩ : ∃ c t, dl a0 = c :: t := by
              cases hd : dl a0 with
              | nil => exact absurd hd h0
              | cons c t => exact ⟨c, t, rfl⟩
            have hpos : 0 < a0.size := by rw [← dl_size, hct]; simp
            have hbt : (b == (bt a0 0 == 47)) = true := by
              rw [hb, bt_zero a0 c t hct, hct]
              simp only [Lib.hasPrefix, List.isPrefixOf, Bool.and_true]
              rw [beq_iff_eq, Bool.eq_iff_iff, beq_iff_eq, beq_iff_eq]
              constructor
              · intro h; rw [← h]; rfl
              · intro h
                have : c.toNat = (47 : UInt8).toNat := by
                  have : (c.toNat : Int) = 47 := h
                  show c.toNat = 47
                  omega
                exact (UInt8.toNat_inj.1 this).symm
            rw [if_pos trivial, if_pos (by omega), if_pos hbt, awake_ok 995]; rfl
        · rw [if_neg h2] at hd hb hmd ⊢
          rw [if_neg h2]
          have : l = [] := by cases l with | nil => rfl | cons x l => simp at hd
          subst this
          have hb' : b = false := by rw [hb]; rfl
          rw [if_neg (by decide), if_pos (show (([] : List ByteArray).length : Int) = 0 from rfl), hb', if_neg (by decide), if_neg h0, awake_ok 995]
          split <;> rfl
end Go.Proofs.YtblejdnjemcpcaaDoor.PPathTargets
