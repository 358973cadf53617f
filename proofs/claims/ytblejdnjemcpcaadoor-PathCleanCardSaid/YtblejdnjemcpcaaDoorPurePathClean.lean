/- PathClean's plain law: a clean path is split into the parts it was joined of. -/
import Derived.Test.YtblejdnjemcpcaaDoorComClean
namespace Go.Proofs.YtblejdnjemcpcaaDoor.PPathClean
open Go.RowKit Go.Proofs.YtblejdnjemcpcaaDoorW.PrintWords Go.Proofs.YtblejdnjemcpcaaDoorW.PrintLast Go.Proofs.YtblejdnjemcpcaaDoorW.PrintMore Go.Proofs.YtblejdnjemcpcaaDoor.Hand

theorem clean_loop (c again : ByteArray) (ps qs : List ByteArray) (hq : ∀ q ∈ qs, dl q ≠ [] ∧ dl q ≠ [46] ∧ dl q ≠ [46, 46] ∧ q.size ≤ 24) (hl : qs.length ≤ ps.length) (hn : qs.length ≤ 1000)
    (hj : path_Join.f qs = some c) (ha : dl again = dl c) : ∀ (n i k : Nat), i + n = qs.length → purlinlaw12_PathClean.l0 (k + n + 6) c ps qs 0 again 0 (i : Int) = some true
  | 0, i, k, h => by
    rw [purlinlaw12_PathClean.l0, if_neg (by omega), if_pos rfl, if_pos rfl, Lib.toList_data, Lib.toList_data, if_pos (show again.data.toList = c.data.toList from ha), hj]
    simp only [Option.bind_some]
    rw [Lib.toList_data, if_pos rfl, if_pos (by omega), awake_ok]
    rfl
  | n + 1, i, k, h => by
    obtain ⟨h1, h2, h3, h4⟩ := hq (rdOf ByteArray.empty qs (i : Int)) (by
      have e : rdOf ByteArray.empty qs (i : Int) = qs[i]'(by omega) := by simp [rdOf, List.getD_eq_getElem?_getD, List.getElem?_eq_getElem (show i < qs.length by omega)]
      rw [e]; exact List.getElem_mem _)
    have e1 : (rdOf ByteArray.empty qs (i : Int)).toList = dl (rdOf ByteArray.empty qs (i : Int)) := Lib.toList_data _
    rw [show k + (n + 1) + 6 = (k + n + 6) + 1 by omega, purlinlaw12_PathClean.l0, if_pos (by omega), if_pos (by omega), e1, if_neg h1, if_neg h2, if_neg h3, if_neg (by omega)]
    rw [show wrap64 ((i : Int) + 1) = ((i + 1 : Nat) : Int) by unfold wrap64; omega]
    exact clean_loop c again ps qs hq hl hn hj ha n (i + 1) k (by omega)

theorem pure : purlinlaw12_PathClean.Pure := by
  intro a0 _
  refine ⟨1000, ?_⟩
  unfold purlinlaw12_PathClean.f
  by_cases hs : (a0.size : Int) > 250
  · rw [if_pos hs, awake_ok 995]; rfl
  · rw [if_neg hs]
    obtain ⟨c, hc, hcd⟩ := clean_f a0 (by omega)
    obtain ⟨ps, hps, hpd⟩ := split_f a0 (by omega)
    rw [hc, hps]
    simp only [Option.bind_some, if_true]
    by_cases he : errL (dl a0) = 0
    · rw [if_pos he] at hcd hpd ⊢
      obtain ⟨hn, hw, hl, hu⟩ := cparts_of he
      have hcs : c.size ≤ 200 := by rw [← dl_size, hcd, joinL_len]; omega
      have hec : errL (dl c) = 0 := by rw [hcd, errL_joinL _ hn, if_neg (by omega)]
      have hnc : namesL (dl c) = cparts (dl a0) := by rw [hcd, namesL_joinL _ (fun x hx => ⟨(hn.ok x hx).1, (hn.ok x hx).2.1⟩)]
      obtain ⟨qs, hqs, hqd⟩ := split_f c (by omega)
      obtain ⟨ag, hag, had⟩ := clean_f c (by omega)
      rw [hqs, hag]
      simp only [Option.bind_some]
      rw [hec] at *
      rw [if_pos rfl, hnc] at hqd
      have hcc : cparts (dl c) = cparts (dl a0) := by
        show cleanL (namesL (dl c)) [] = _
        rw [hnc, cleanL_id _ _ hu]; rfl
      rw [if_pos rfl, hcc, ← hcd] at had
      have hlen : qs.length = (cparts (dl a0)).length := by rw [← hqd, List.length_map]
      have hplen : ps.length = (namesL (dl a0)).length := by rw [← hpd, List.length_map]
      obtain ⟨r, hr, hrd⟩ := join_f qs (by rw [hqd]; omega)
      have hrc : r = c := dl_inj (by rw [hrd, hqd, hcd])
      rw [hrc] at hr
      have hf := hn.few
      rw [show (1000 : Nat) = (994 - qs.length) + qs.length + 6 by omega]
      refine clean_loop c ag ps qs (fun q hq => ?_) (by omega) (by omega) hr had qs.length 0 (994 - qs.length) (by omega)
      have hm : dl q ∈ cparts (dl a0) := by rw [← hqd]; exact List.mem_map_of_mem hq
      have h1 := hn.ok _ hm
      have h2 := (keep_iff _).1 h1.2.1
      exact ⟨fun h => h2 (.inl h), fun h => h2 (.inr h), hu _ hm, by rw [← dl_size]; exact h1.2.2.1⟩
    · rw [if_neg he] at hcd hpd ⊢
      have : ps = [] := by cases ps with | nil => rfl | cons x l => simp at hpd
      subst this
      rw [Lib.toList_data, if_pos (show c.data.toList = [] from hcd), if_pos (show (([] : List ByteArray).length : Int) = 0 from rfl), awake_ok 995]; rfl
end Go.Proofs.YtblejdnjemcpcaaDoor.PPathClean
