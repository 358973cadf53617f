/- The law's functions by lists of bytes: path.Last, path.Target, SameTexts, and that awake returns true. -/
import Derived.Test.YtblejdnjemcpcaaDoorTheory
import Derived.Test.YtblejdnjemcpcaaDoorPPathSlashesx2
namespace Go.Proofs.YtblejdnjemcpcaaDoor.PPathSlashes
open Go.RowKit Go.Proofs.YtblejdnjemcpcaaDoorW.PrintWords Go.Proofs.YtblejdnjemcpcaaDoorW.PrintLast Go.Proofs.YtblejdnjemcpcaaDoorW.PrintMore Go.Proofs.YtblejdnjemcpcaaDoor.Hand

theorem pre_f (a : ByteArray) : strings_HasPrefix.f a ⟨#[47]⟩ = some (Lib.hasPrefix (dl a) [47]) := by
  unfold strings_HasPrefix.f stringslite_HasPrefix.f
  have e1 : (((⟨#[47]⟩ : ByteArray).size : Nat) : Int) = 1 := rfl
  rw [e1]
  by_cases h : a.size = 0
  · rw [if_neg (by omega)]
    have : dl a = [] := List.eq_nil_of_length_eq_zero h
    rw [this]; rfl
  · rw [if_pos (by omega), if_pos (by omega), if_pos (by omega)]
    have e2 : (a.extract 0 (1 : Int).toNat).toList = (dl a).take 1 := by
      rw [Lib.toList_data, Lib.extract_from_zero]; rfl
    have e3 : (⟨#[47]⟩ : ByteArray).toList = [47] := by rw [Lib.toList_data]
    rw [e2, e3]
    obtain ⟨c, t, hd⟩ : ∃ c t, dl a = c :: t := by
      cases hd : dl a with
      | nil => exact absurd (by rw [← dl_size, hd]; rfl) h
      | cons c t => exact ⟨c, t, rfl⟩
    rw [hd]
    simp [Lib.hasPrefix, List.isPrefixOf]
    exact Bool.eq_iff_iff.2 (by simp; exact eq_comm)
theorem rd_last (l : List ByteArray) (n : Nat) (h : l.length = n + 1) : wrap64 ((l.length : Int) - 1) = n ∨ 9223372036854775807 < l.length := by
  by_cases h2 : 9223372036854775807 < l.length
  · exact .inr h2
  · left; unfold wrap64; omega
/-- path.Last, told by lists -/
theorem last_f (s : ByteArray) (hs : s.size < 4294967281) : ∃ u x e, path_Last.f s = some (u, x, e) ∧
    ((errL (dl s) ≠ 0 ∧ u = ⟨#[]⟩ ∧ x = ⟨#[]⟩ ∧ e = errL (dl s)) ∨
     (errL (dl s) = 0 ∧ (namesL (dl s) = [] ∨ (namesL (dl s)).getLast? = some [46, 46]) ∧ u = ⟨#[]⟩ ∧ x = ⟨#[]⟩ ∧ e = 2) ∨
     (errL (dl s) = 0 ∧ ∃ r y, namesL (dl s) = r ++ [y] ∧ y ≠ [46, 46] ∧ dl u = joinL r ∧ dl x = y ∧ e = 0)) := by
  obtain ⟨l, hl, hd⟩ := split_f s hs
  unfold path_Last.f
  rw [hl]
  simp only [Option.bind_some]
  by_cases he : errL (dl s) = 0
  · rw [if_pos he] at hd
    rw [if_pos he]
    have hn := (names_of he).1.few
    have hw := (names_of he).2
    have hz := (err_zero he).2.2.2
    rw [← hd, List.length_map] at hn
    rw [← hd] at hw ⊢
    have hcc : l = [] ∨ ∃ r x, l = r ++ [x] := by
      rcases List.eq_nil_or_concat l with h | ⟨r, x, h⟩
      · exact .inl h
      · exact .inr ⟨r, x, by rw [h, List.concat_eq_append]⟩
    rcases hcc with rfl | ⟨r, x, rfl⟩
    case inl =>
      refine ⟨⟨#[]⟩, ⟨#[]⟩, 2, ?_, .inr (.inl ⟨he, .inl rfl, rfl, rfl, rfl⟩)⟩
      rw [if_pos (show wrap64 ((([] : List ByteArray).length : Int) - 1) < 0 by unfold wrap64; simp)]
    case inr =>
      have e1 : wrap64 (((r ++ [x]).length : Int) - 1) = (r.length : Int) := by
        rw [List.length_append] at hn ⊢
        simp only [List.length_cons, List.length_nil] at hn ⊢
        unfold wrap64; omega
      have e2 : rdOf ByteArray.empty (r ++ [x]) (r.length : Int) = x := by
        simp [rdOf]
      rw [e1, if_neg (by omega), if_pos (by omega), if_pos (by rw [List.length_append]; simp only [List.length_cons, List.length_nil]; omega), e2, Lib.toList_data]
      by_cases hx : dl x = [46, 46]
      · rw [if_pos (show x.data.toList = [46, 46] from hx)]
        exact ⟨_, _, _, rfl, .inr (.inl ⟨he, .inr (by rw [List.map_append]; simp [hx]), rfl, rfl, rfl⟩)⟩
      · rw [if_neg (show ¬ x.data.toList = [46, 46] from hx), if_pos (by rw [List.length_append]; simp only [List.length_cons, List.length_nil]; omega)]
        rw [Int.toNat_natCast, List.take_left]
        rw [List.map_append, wt_app] at hw
        obtain ⟨j, hj, hjd⟩ := join_f r (by omega)
        rw [hj]
        exact ⟨_, _, _, rfl, .inr (.inr ⟨he, _, _, by rw [List.map_append]; rfl, hx, hjd, rfl, rfl⟩)⟩
  · rw [if_neg he]
    exact ⟨_, _, _, rfl, .inl ⟨he, rfl, rfl, rfl⟩⟩
def terrL (l : Bs) : Int := if l = [] then 2 else if (0 : UInt8) ∈ l then 2 else if okL l then (if 100 < l.length then 11 else 0) else 11
theorem contains_f (s : ByteArray) : strings_Contains.f s ⟨#[0]⟩ = some (decide ((0 : UInt8) ∈ dl s)) := by
  unfold strings_Contains.f
  rw [if_pos (by rfl)]
  exact congrArg some (zero_mem (dl s))
theorem target_f (k : Nat) (s : ByteArray) (hs : s.size < 4294967281) : ∃ l b, path_Target.f (k + 1) s = some (l, b, terrL (dl s)) ∧
    l.map dl = (if terrL (dl s) = 0 then namesL (dl s) else []) ∧ b = (if terrL (dl s) = 0 then Lib.hasPrefix (dl s) [47] else false) := by
  unfold path_Target.f terrL
  rw [Lib.toList_data]
  have e0 : s.data.toList = dl s := rfl
  rw [e0]
  by_cases h0 : dl s = []
  · rw [if_pos h0, if_pos h0]
    exact ⟨[], false, rfl, by simp, by simp⟩
  · rw [if_neg h0, if_neg h0, contains_f]
    simp only [Option.bind_some]
    rw [path_Target.j0]
    by_cases h1 : (0 : UInt8) ∈ dl s
    · rw [if_pos (decide_eq_true h1), if_pos h1]
      exact ⟨[], false, rfl, by simp, by simp⟩
    · rw [if_neg (by simpa using h1), if_neg h1]
      have hp := parts_of s
      unfold path_parts.f
      rw [if_pos hs]
      simp only [Option.bind_some]
      rw [hp.1]
      by_cases h2 : okL (dl s) = true
      · rw [if_pos h2, if_pos h2]
        have e1 : (s.size : Int) = ((dl s).length : Int) := rfl
        rw [e1]
        by_cases h3 : 100 < (dl s).length
        · rw [if_pos (by omega), if_pos h3]
          exact ⟨[], false, rfl, by simp, by simp⟩
        · rw [if_neg (by omega), if_neg h3, pre_f]
          exact ⟨_, _, rfl, by rw [hp.2 h2]; simp, by simp⟩
      · rw [if_neg h2, if_neg h2]
        exact ⟨[], false, rfl, by simp, by simp⟩
theorem same_from (l : List ByteArray) (hl : l.length ≤ 1000) : ∀ (n i k : Nat), i + n = l.length → purlinlaw0_SameTexts.l0 (k + n + 1) l l (i : Int) = some true
  | 0, i, k, h => by
    rw [purlinlaw0_SameTexts.l0, if_neg (by omega)]
  | n + 1, i, k, h => by
    rw [purlinlaw0_SameTexts.l0, if_pos (by omega), if_pos (by omega), if_pos (by omega), if_pos rfl]
    rw [show wrap64 ((i : Int) + 1) = ((i + 1 : Nat) : Int) by unfold wrap64; omega]
    exact same_from l hl n (i + 1) k (by omega)
theorem same_f (k : Nat) (l m : List ByteArray) (hl : l.length ≤ 1000) (h : l.map dl = m.map dl) (hk : l.length < k) : purlinlaw0_SameTexts.f k l m = some true := by
  obtain rfl := map_dl_inj h
  unfold purlinlaw0_SameTexts.f
  rw [if_pos rfl]
  obtain ⟨j, rfl⟩ : ∃ j, k = j + l.length + 1 := ⟨k - l.length - 1, by omega⟩
  exact same_from l hl l.length 0 j (by omega)

theorem aw1 : path_Split.f ⟨#[47, 47, 97, 47, 46, 47, 98, 47]⟩ = some ([⟨#[97]⟩, ⟨#[98]⟩], 0) := by decide +kernel
theorem aw2 : path_Clean.f ⟨#[47, 97, 47, 46, 46, 47, 98, 47, 46, 47, 99]⟩ = some (⟨#[47, 98, 47, 99]⟩, 0) := by decide +kernel
theorem aw3 : path_Split.f ⟨#[47, 97, 47, 98]⟩ = some ([⟨#[97]⟩, ⟨#[98]⟩], 0) := by decide +kernel
theorem aw4 : path_Split.f ⟨#[47]⟩ = some ([], 0) := by decide +kernel
theorem aw5 : path_Join.f [⟨#[97]⟩] = some ⟨#[47, 97]⟩ := by decide +kernel
theorem aw6 : path_parts.f ⟨#[46, 46, 47, 120]⟩ = some ([⟨#[46, 46]⟩, ⟨#[120]⟩], true) := by decide +kernel
theorem aw7 : strings_Contains.f ⟨#[46, 46, 47, 120]⟩ ⟨#[0]⟩ = some false := by decide +kernel
theorem awake_ok (k : Nat) : purlinlaw12_awake.f (k + 5) = some true := by
  have h1 : path_Last.f ⟨#[47, 97, 47, 98]⟩ = some (⟨#[47, 97]⟩, ⟨#[98]⟩, 0) := by
    unfold path_Last.f
    rw [aw3]
    simp only [Option.bind_some]
    simp only [if_true]
    rw [show wrap64 ((([⟨#[97]⟩, ⟨#[98]⟩] : List ByteArray).length : Int) - 1) = 1 from by unfold wrap64; simp, if_neg (by decide), if_pos (by decide), if_pos (by decide), Lib.toList_data, if_neg (by decide +kernel), if_pos (by decide)]
    rw [show ([⟨#[97]⟩, ⟨#[98]⟩] : List ByteArray).take (1 : Int).toNat = [⟨#[97]⟩] from rfl, aw5]
    rfl
  have h2 : path_Last.f ⟨#[47]⟩ = some (⟨#[]⟩, ⟨#[]⟩, 2) := by
    unfold path_Last.f
    rw [aw4]
    simp only [Option.bind_some]
    simp only [if_true]
    rw [if_pos (show wrap64 ((([] : List ByteArray).length : Int) - 1) < 0 by unfold wrap64; simp)]
  have h3 : path_Target.f (k + 5) ⟨#[46, 46, 47, 120]⟩ = some ([⟨#[46, 46]⟩, ⟨#[120]⟩], false, 0) := by
    unfold path_Target.f
    rw [Lib.toList_data, if_neg (by decide), aw7]
    simp only [Option.bind_some]
    rw [path_Target.j0]
    rw [if_neg (by decide), aw6]
    simp only [Option.bind_some]
    rw [if_pos trivial, if_neg (by decide), pre_f]
    simp only [Option.bind_some]
    decide +kernel
  unfold purlinlaw12_awake.f
  rw [aw1, aw2, h1, h2, h3]
  simp only [Option.bind_some]
  rw [same_f (k + 5) _ _ (by decide) rfl (by simp)]
  simp only [Option.bind_some, Lib.toList_data]
  rw [aw5]
  simp
end Go.Proofs.YtblejdnjemcpcaaDoor.PPathSlashes
