/- PathTells' plain law: the document's functions answer as the path package's. -/
import Derived.Test.YtblejdnjemcpcaaDoorComTells
namespace Go.Proofs.YtblejdnjemcpcaaDoor.PPathTells
open Go.RowKit Go.Proofs.YtblejdnjemcpcaaDoorW.PrintWords Go.Proofs.YtblejdnjemcpcaaDoorW.PrintLast Go.Proofs.YtblejdnjemcpcaaDoorW.PrintMore Go.Proofs.YtblejdnjemcpcaaDoor.Hand

theorem w1 (i : Nat) (h : i ≤ 1000000) : wrap64 ((i : Int) + 1) = ((i + 1 : Nat) : Int) := by unfold wrap64; omega
theorem bt_get (a : ByteArray) (i : Nat) (h : i < (dl a).length) : bt a (i : Int) = (((dl a)[i]'h).toNat : Int) := by
  have h1 := bt_at a (i : Int) (by simpa using (show i < a.size from h))
  rw [← h1]
  rfl
theorem bt_eq (a : ByteArray) (i : Nat) (h : i < (dl a).length) (c : UInt8) : bt a (i : Int) = (c.toNat : Int) ↔ (dl a)[i]'h = c := by
  rw [bt_get a i h]
  constructor
  · intro e; exact UInt8.toNat_inj.1 (by omega)
  · intro e; rw [e]
theorem rd_at (l : List ByteArray) (i : Nat) (h : i < l.length) : rdOf ByteArray.empty l (i : Int) = l[i] := by
  simp [rdOf, List.getD_eq_getElem?_getD, List.getElem?_eq_getElem h]

theorem zero_from (s : ByteArray) (hs : s.size ≤ 1000) : ∀ (n i k : Nat), i + n = s.size → n + 1 ≤ k → purlinref12_zero.l0 k s (i : Int) = some (decide ((0 : UInt8) ∈ (dl s).drop i))
  | 0, i, k, hi, hk => by
    obtain ⟨k, rfl⟩ : ∃ j, k = j + 1 := ⟨k - 1, by omega⟩
    rw [purlinref12_zero.l0, if_neg (by omega), List.drop_eq_nil_of_le (by rw [dl_size]; omega)]
    simp
  | n + 1, i, k, hi, hk => by
    obtain ⟨k, rfl⟩ : ∃ j, k = j + 1 := ⟨k - 1, by omega⟩
    have hl : i < (dl s).length := by rw [dl_size]; omega
    rw [purlinref12_zero.l0, if_pos (by omega), if_pos (by omega), List.drop_eq_getElem_cons hl]
    by_cases h : (dl s)[i] = 0
    · rw [if_pos (show bt s (i : Int) = 0 from (bt_eq s i hl 0).2 h), h]; simp
    · rw [if_neg (show ¬ bt s (i : Int) = 0 from fun e => h ((bt_eq s i hl 0).1 e)), w1 i (by omega), zero_from s hs n (i + 1) k (by omega) (by omega)]
      congr 1
      refine decide_eq_decide.2 ?_
      rw [List.mem_cons]
      exact ⟨fun h' => .inr h', fun h' => h'.resolve_left (fun e => h e.symm)⟩
theorem zero_f (s : ByteArray) (k : Nat) (hs : s.size ≤ 1000) (hk : 1001 ≤ k) : purlinref12_zero.f k s = some (decide ((0 : UInt8) ∈ dl s)) :=
  zero_from s hs s.size 0 k (by omega) (by omega)

theorem long_from (l : List ByteArray) (hl : l.length ≤ 1500) : ∀ (n i k : Nat), i + n = l.length → n + 1 ≤ k → purlinref12_long.l0 k l (i : Int) = some (!(short ((l.drop i).map dl) && decide (l.length ≤ 20)))
  | 0, i, k, hi, hk => by
    obtain ⟨k, rfl⟩ : ∃ j, k = j + 1 := ⟨k - 1, by omega⟩
    rw [purlinref12_long.l0, if_neg (by omega), List.drop_eq_nil_of_le (by omega)]
    simp [short]
    by_cases h : l.length ≤ 20
    · rw [decide_eq_false (by omega)]; simp [h]
    · rw [decide_eq_true (by omega)]; simp [h]
  | n + 1, i, k, hi, hk => by
    obtain ⟨k, rfl⟩ : ∃ j, k = j + 1 := ⟨k - 1, by omega⟩
    rw [purlinref12_long.l0, if_pos (by omega), if_pos (by omega), rd_at l i (by omega), List.drop_eq_getElem_cons (show i < l.length by omega)]
    have e : (dl l[i]).length = l[i].size := rfl
    by_cases h : 24 < l[i].size
    · rw [if_pos (by omega)]
      have : decide ((dl l[i]).length ≤ 24) = false := decide_eq_false (by omega)
      simp only [short, List.map_cons, List.all_cons, this, Bool.false_and, Bool.not_false]
    · rw [if_neg (by omega), w1 i (by omega), long_from l hl n (i + 1) k (by omega) (by omega)]
      have : decide ((dl l[i]).length ≤ 24) = true := decide_eq_true (by omega)
      simp only [short, List.map_cons, List.all_cons, this, Bool.true_and]
theorem long_f (l : List ByteArray) (k : Nat) (hl : l.length ≤ 1500) (hk : 1501 ≤ k) : purlinref12_long.f k l = some (!(short (l.map dl) && decide (l.length ≤ 20))) :=
  long_from l hl l.length 0 k (by omega) (by omega)

theorem dl_extract (s : ByteArray) (a b : Nat) : dl (s.extract a b) = ((dl s).take b).drop a := by
  unfold dl
  rw [Lib.extract_data, List.drop_take]
theorem parts_from (s : ByteArray) (hs : s.size ≤ 1000) : ∀ (n i fr k : Nat) (acc : List ByteArray), i + n = s.size + 1 → fr ≤ i → (n = 0 → fr = i) → 2 * n + 1 ≤ k → acc.length ≤ i → 47 ∉ ((dl s).take i).drop fr →
    ∃ l, purlinref12_parts.l0 k s acc (fr : Int) (i : Int) = some l ∧ l.map dl = acc.map dl ++ (splitL ((dl s).drop fr)).filter keep ∧ l.length ≤ s.size + 1
  | 0, i, fr, k, acc, hi, hf, h0, hk, ha, hseg => by
    obtain ⟨k, rfl⟩ : ∃ j, k = j + 1 := ⟨k - 1, by omega⟩
    refine ⟨acc, ?_, ?_, by omega⟩
    · rw [purlinref12_parts.l0, if_neg (by omega)]
    · rw [List.drop_eq_nil_of_le (by rw [dl_size]; have := h0 rfl; omega)]; simp [splitL, keep]
  | n + 1, i, fr, k, acc, hi, hf, h0, hk, ha, hseg => by
    obtain ⟨k, rfl⟩ : ∃ j, k = j + 1 + 1 := ⟨k - 2, by omega⟩
    rw [purlinref12_parts.l0, if_pos (by omega)]
    have hdl : (dl s).length = s.size := rfl
    -- the end of a part
    have cut : ∀ rest : List Bs, (i < s.size ∧ (splitL ((dl s).drop fr)).filter keep = [((dl s).take i).drop fr].filter keep ++ (splitL ((dl s).drop (i + 1))).filter keep) ∨ (i = s.size ∧ (splitL ((dl s).drop fr)).filter keep = [((dl s).take i).drop fr].filter keep) → 
        ∃ l, purlinref12_parts.j1 (k + 1) s acc (fr : Int) (i : Int) false = some l ∧ l.map dl = acc.map dl ++ (splitL ((dl s).drop fr)).filter keep ∧ l.length ≤ s.size + 1 := by
      intro _ hc
      have hc' : (splitL ((dl s).drop fr)).filter keep = [((dl s).take i).drop fr].filter keep ++ (splitL ((dl s).drop (i + 1))).filter keep := by
        rcases hc with ⟨_, h⟩ | ⟨h, h2⟩
        · exact h
        · rw [h2, List.drop_eq_nil_of_le (show (dl s).length ≤ i + 1 by omega)]; simp [splitL, keep]
      rw [hc']
      have next : ∀ acc' : List ByteArray, acc'.length ≤ i + 1 → ∃ l, purlinref12_parts.l0 k s acc' ((i + 1 : Nat) : Int) ((i + 1 : Nat) : Int) = some l ∧ l.map dl = acc'.map dl ++ (splitL ((dl s).drop (i + 1))).filter keep ∧ l.length ≤ s.size + 1 :=
        fun acc' h => parts_from s hs n (i + 1) (i + 1) k acc' (by omega) (by omega) (fun _ => rfl) (by omega) h (by rw [List.drop_eq_nil_of_le (by rw [List.length_take]; omega)]; simp)
      rw [purlinref12_parts.j1, if_neg (by decide), w1 i (by omega)]
      by_cases h1 : fr < i
      · have hne : ((dl s).take i).drop fr ≠ [] := by
          intro e
          have := congrArg List.length e
          rw [List.length_drop, List.length_take] at this
          simp only [List.length_nil] at this; omega
        rw [if_pos (by omega), if_pos (by omega), if_pos (by omega), if_pos (by omega), Int.toNat_natCast, Int.toNat_natCast, Lib.toList_data, show (s.extract fr i).data.toList = ((dl s).take i).drop fr from dl_extract s fr i]
        by_cases h2 : ((dl s).take i).drop fr = [46]
        · rw [if_pos h2, h2]
          obtain ⟨l, hl, hm, hn⟩ := next acc (by omega)
          exact ⟨l, hl, by rw [hm]; simp [keep], hn⟩
        · rw [if_neg h2, if_pos (by omega)]
          obtain ⟨l, hl, hm, hn⟩ := next (acc ++ [s.extract fr i]) (by rw [List.length_append]; simp only [List.length_cons, List.length_nil]; omega)
          refine ⟨l, hl, ?_, hn⟩
          have hk' : keep (((dl s).take i).drop fr) = true := (keep_iff _).2 (by rintro (h | h); exact hne h; exact h2 h)
          rw [hm, List.map_append, List.map_cons, List.map_nil, dl_extract, List.filter_cons, if_pos hk']
          simp
      · rw [if_neg (by omega)]
        obtain ⟨l, hl, hm, hn⟩ := next acc (by omega)
        refine ⟨l, hl, ?_, hn⟩
        rw [hm, List.drop_eq_nil_of_le (show ((dl s).take i).length ≤ fr by rw [List.length_take]; omega)]
        simp [keep]
    by_cases hlt : i < s.size
    · rw [if_pos (by omega), if_pos (by omega)]
      have hlt' : i < (dl s).length := hlt
      have hd : (dl s).drop fr = ((dl s).take i).drop fr ++ (dl s)[i]'hlt' :: (dl s).drop (i + 1) := by
        rw [← List.drop_eq_getElem_cons]
        conv => lhs; rw [← List.take_append_drop i (dl s)]
        rw [List.drop_append_of_le_length (by rw [List.length_take]; omega)]
      by_cases hc : (dl s)[i]'hlt' = 47
      · have hb : (bt s (i : Int) != 47) = false := bne_eq_false_iff_eq.2 ((bt_eq s i hlt' 47).2 hc)
        rw [hb]
        refine cut [] (.inl ⟨hlt, ?_⟩)
        rw [hd, hc, splitL_app, splitL_one hseg, List.filter_append]
      · have hb : (bt s (i : Int) != 47) = true := bne_iff_ne.2 (fun e => hc ((bt_eq s i hlt' 47).1 e))
        rw [hb, purlinref12_parts.j1, if_pos rfl, w1 i (by omega)]
        refine parts_from s hs n (i + 1) fr k acc (by omega) (by omega) (fun h => by omega) (by omega) (by omega) ?_
        rw [List.take_succ_eq_append_getElem hlt', List.drop_append_of_le_length (by rw [List.length_take]; omega)]
        intro hm
        rcases List.mem_append.1 hm with h | h
        · exact hseg h
        · rw [List.mem_singleton] at h; exact hc h.symm
    · rw [if_neg (by omega)]
      refine cut [] (.inr ⟨by omega, ?_⟩)
      rw [List.take_of_length_le (show (dl s).length ≤ i by omega)] at hseg ⊢
      rw [splitL_one hseg]
theorem parts_f (s : ByteArray) (k : Nat) (hs : s.size ≤ 1000) (hk : 2100 ≤ k) : ∃ l, purlinref12_parts.f k s = some l ∧ l.map dl = namesL (dl s) ∧ l.length ≤ 1001 := by
  obtain ⟨l, h1, h2, h3⟩ := parts_from s hs (s.size + 1) 0 0 k [] (by omega) (by omega) (fun _ => rfl) (by omega) (by simp) (by simp)
  exact ⟨l, h1, by rw [h2]; rfl, by omega⟩
theorem ok_of {s : ByteArray} {l : List ByteArray} (h : l.map dl = namesL (dl s)) : (short (l.map dl) && decide (l.length ≤ 20)) = okL (dl s) := by
  unfold okL
  rw [← h, List.length_map]
theorem rsplit_f (s : ByteArray) (k : Nat) (hs : s.size ≤ 1000) (hk : 2101 ≤ k) : ∃ l, purlinref12_Split.f k s = some (l, errL (dl s)) ∧ l.map dl = if errL (dl s) = 0 then namesL (dl s) else [] := by
  obtain ⟨k, rfl⟩ : ∃ j, k = j + 1 := ⟨k - 1, by omega⟩
  unfold purlinref12_Split.f
  rw [Lib.toList_data]
  show ∃ l, (if dl s = [] then _ else _) = _ ∧ _
  by_cases h0 : dl s = []
  · rw [if_pos h0, purlinref12_Split.j0, if_pos rfl]
    have : errL (dl s) = 2 := by rw [h0]; rfl
    rw [this]
    exact ⟨[], rfl, rfl⟩
  · have hpos : 0 < s.size := by rw [← dl_size]; exact List.length_pos_iff.2 h0
    have hpos' : 0 < (dl s).length := hpos
    have hpre : Lib.hasPrefix (dl s) [47] = decide ((dl s)[0]'hpos' = 47) := by
      obtain ⟨c, t, hct⟩ : ∃ c t, dl s = c :: t := by
        cases hd : dl s with
        | nil => exact absurd hd h0
        | cons c t => exact ⟨c, t, rfl⟩
      simp only [hct, Lib.hasPrefix, List.isPrefixOf, Bool.and_true, List.getElem_cons_zero]
      rw [Bool.eq_iff_iff]; simp; exact eq_comm
    rw [if_neg h0, if_pos (show 0 < (s.size : Int) by omega)]
    unfold errL
    rw [hpre]
    by_cases h1 : (dl s)[0]'hpos' = 47
    · rw [if_pos (show bt s 0 = 47 from (bt_eq s 0 hpos' 47).2 h1), if_pos (decide_eq_true h1), zero_f s _ hs (by omega)]
      simp only [Option.bind_some]
      rw [purlinref12_Split.j0]
      by_cases h2 : (0 : UInt8) ∈ dl s
      · rw [if_pos (decide_eq_true h2), if_pos h2]; exact ⟨[], rfl, rfl⟩
      · rw [if_neg (by simpa using h2), if_neg h2]
        have e1 : (dl s).length = s.size := rfl
        obtain ⟨l, hl, hm, hn⟩ := parts_f s k hs (by omega)
        rw [hl]
        simp only [Option.bind_some]
        rw [long_f l k (by omega) (by omega), ok_of hm]
        simp only [Option.bind_some]
        by_cases h3 : 200 < s.size
        · rw [if_pos (show (s.size : Int) > 200 by omega)]
          cases h4 : okL (dl s)
          · exact ⟨[], rfl, rfl⟩
          · rw [if_pos (show true = true from rfl), if_pos (show 200 < (dl s).length by omega)]
            exact ⟨[], rfl, rfl⟩
        · rw [if_neg (show ¬ (s.size : Int) > 200 by omega)]
          cases h4 : okL (dl s)
          · exact ⟨[], rfl, rfl⟩
          · rw [if_pos (show true = true from rfl), if_neg (show ¬ 200 < (dl s).length by omega)]
            exact ⟨l, rfl, by rw [if_pos rfl]; exact hm⟩
    · rw [if_neg (show ¬ bt s 0 = 47 from fun e => h1 ((bt_eq s 0 hpos' 47).1 e)), if_neg (by simpa using h1), purlinref12_Split.j0, if_pos rfl]
      exact ⟨[], rfl, rfl⟩
theorem flat_app (a b : List Bs) : flat (a ++ b) = flat a ++ flat b := by unfold flat; rw [List.map_append, List.flatten_append]
theorem rjoin_from (l : List ByteArray) (hl : l.length ≤ 1000) (hw : wt (l.map dl) ≤ 100000) : ∀ (n i k : Nat) (x : ByteArray), i + n = l.length → n + 1 ≤ k → dl x = flat ((l.take i).map dl) →
    ∃ r, purlinref12_Join.l0 k l x (i : Int) = some r ∧ dl r = joinL (l.map dl)
  | 0, i, k, x, hi, hk, hx => by
    obtain ⟨k, rfl⟩ : ∃ j, k = j + 1 := ⟨k - 1, by omega⟩
    rw [purlinref12_Join.l0, if_neg (by omega), Lib.toList_data]
    rw [List.take_of_length_le (by omega)] at hx
    have e : x.data.toList = dl x := rfl
    rw [e, hx]
    cases l with
    | nil => rw [if_pos (show flat (([] : List ByteArray).map dl) = [] from rfl)]; exact ⟨_, rfl, rfl⟩
    | cons y l =>
      rw [if_neg (by simp [flat])]
      exact ⟨x, rfl, by rw [hx, List.map_cons, joinL_cons]⟩
  | n + 1, i, k, x, hi, hk, hx => by
    obtain ⟨k, rfl⟩ : ∃ j, k = j + 1 := ⟨k - 1, by omega⟩
    have ht : l.take (i + 1) = l.take i ++ [l[i]] := List.take_succ_eq_append_getElem (by omega)
    have hf : dl ((x ++ (⟨#[47]⟩ : ByteArray)) ++ l[i]) = flat ((l.take (i + 1)).map dl) := by
      rw [ht, List.map_append, flat_app, ← hx]
      simp [dl, flat]
    have hlen : (dl ((x ++ (⟨#[47]⟩ : ByteArray)) ++ l[i])).length ≤ 100000 := by
      rw [hf, flat_len]
      have := wt_take (l.map dl) (i + 1)
      rw [← List.map_take] at this; omega
    rw [dl_size, ByteArray.size_append] at hlen
    have hlen2 : (x ++ (⟨#[47]⟩ : ByteArray)).size = x.size + 1 := by rw [ByteArray.size_append]; rfl
    rw [purlinref12_Join.l0, if_pos (by omega), if_pos (by omega), if_pos (by omega), rd_at l i (by omega), if_pos (by omega), w1 i (by omega)]
    exact rjoin_from l hl hw n (i + 1) k _ (by omega) (by omega) hf
theorem rjoin_f (l : List ByteArray) (k : Nat) (hl : l.length ≤ 1000) (hw : wt (l.map dl) ≤ 100000) (hk : 1001 ≤ k) : ∃ r, purlinref12_Join.f k l = some r ∧ dl r = joinL (l.map dl) :=
  rjoin_from l hl hw l.length 0 k ⟨#[]⟩ (by omega) (by omega) rfl
theorem rclean_from (l : List ByteArray) (hl : l.length ≤ 20) (hw : wt (l.map dl) ≤ 1000) : ∀ (n i k : Nat) (acc : List ByteArray), i + n = l.length → n + 1100 ≤ k → acc.length ≤ i → wt (acc.map dl) ≤ wt ((l.take i).map dl) →
    ∃ c, purlinref12_Clean.l0 k l acc (i : Int) = some (c, 0) ∧ dl c = joinL (cleanL ((l.drop i).map dl) (acc.map dl))
  | 0, i, k, acc, hi, hk, ha, hwa => by
    obtain ⟨k, rfl⟩ : ∃ j, k = j + 1 := ⟨k - 1, by omega⟩
    have := wt_take (l.map dl) i
    rw [← List.map_take] at this
    obtain ⟨r, hr, hd⟩ := rjoin_f acc k (by omega) (by omega) (by omega)
    rw [purlinref12_Clean.l0, if_neg (by omega), hr, List.drop_eq_nil_of_le (by omega)]
    exact ⟨r, rfl, hd⟩
  | n + 1, i, k, acc, hi, hk, ha, hwa => by
    obtain ⟨k, rfl⟩ : ∃ j, k = j + 1 := ⟨k - 1, by omega⟩
    have ht : l.take (i + 1) = l.take i ++ [l[i]] := List.take_succ_eq_append_getElem (by omega)
    have hwt : wt ((l.take (i + 1)).map dl) = wt ((l.take i).map dl) + ((dl l[i]).length + 1 + 0) := by rw [ht, List.map_append, wt_app]; rfl
    rw [purlinref12_Clean.l0, if_pos (by omega), if_pos (by omega), rd_at l i (by omega), Lib.toList_data, List.drop_eq_getElem_cons (show i < l.length by omega), List.map_cons, cleanL, w1 i (by omega)]
    have e : l[i].data.toList = dl l[i] := rfl
    rw [e]
    by_cases h : dl l[i] = [46, 46]
    · rw [if_pos h, if_pos h, List.length_map]
      by_cases h2 : acc.length = 0
      · have : acc = [] := List.eq_nil_of_length_eq_zero h2
        subst this
        rw [if_neg (by decide)]
        exact rclean_from l hl hw n (i + 1) k [] (by omega) (by omega) (by simp) (by simp [wt])
      · have e3 : wrap64 ((acc.length : Int) - 1) = ((acc.length - 1 : Nat) : Int) := by unfold wrap64; omega
        rw [if_pos (by omega), e3, if_pos (by omega), if_pos (by omega), Int.toNat_natCast, ← List.map_take]
        refine rclean_from l hl hw n (i + 1) k _ (by omega) (by omega) (by rw [List.length_take]; omega) ?_
        have := wt_take (acc.map dl) (acc.length - 1)
        rw [← List.map_take] at this
        omega
    · rw [if_neg h, if_neg h, if_pos (by omega)]
      obtain ⟨c, hc, hd⟩ := rclean_from l hl hw n (i + 1) k (acc ++ [l[i]]) (by omega) (by omega) (by rw [List.length_append]; simp only [List.length_cons, List.length_nil]; omega) (by rw [List.map_append, wt_app, hwt]; simp only [List.map_cons, List.map_nil, wt]; omega)
      exact ⟨c, hc, by rw [hd, List.map_append]; rfl⟩
theorem rclean_f (s : ByteArray) (k : Nat) (hs : s.size ≤ 1000) (hk : 2101 ≤ k) : ∃ c, purlinref12_Clean.f k s = some (c, errL (dl s)) ∧ dl c = if errL (dl s) = 0 then joinL (cparts (dl s)) else [] := by
  obtain ⟨l, hl, hd⟩ := rsplit_f s k hs hk
  unfold purlinref12_Clean.f
  rw [hl]
  simp only [Option.bind_some]
  by_cases h : errL (dl s) = 0
  · rw [if_pos h] at hd ⊢
    rw [if_pos h, h]
    have hn := names_of h
    have hz := (err_zero h).2.2.2
    rw [← hd, ] at hn
    obtain ⟨c, hc, hcd⟩ := rclean_from l (by have := hn.1.few; rwa [List.length_map] at this) (by have := hn.2; omega) l.length 0 k [] (by omega) (by have := hn.1.few; rw [List.length_map] at this; omega) (by simp) (by simp [wt])
    exact ⟨c, hc, by rw [hcd, List.drop_zero, hd]; rfl⟩
  · rw [if_neg h] at hd ⊢
    rw [if_neg h]
    exact ⟨_, rfl, rfl⟩
def LastIs (s u x : ByteArray) (e : Int) : Prop :=
  (errL (dl s) ≠ 0 ∧ u = ⟨#[]⟩ ∧ x = ⟨#[]⟩ ∧ e = errL (dl s)) ∨
     (errL (dl s) = 0 ∧ (namesL (dl s) = [] ∨ (namesL (dl s)).getLast? = some [46, 46]) ∧ u = ⟨#[]⟩ ∧ x = ⟨#[]⟩ ∧ e = 2) ∨
     (errL (dl s) = 0 ∧ ∃ r y, namesL (dl s) = r ++ [y] ∧ y ≠ [46, 46] ∧ dl u = joinL r ∧ dl x = y ∧ e = 0)
theorem LastIs.one {s u x u' x' : ByteArray} {e e' : Int} (h : LastIs s u x e) (h' : LastIs s u' x' e') : dl u = dl u' ∧ dl x = dl x' ∧ e = e' := by
  rcases h with ⟨h1, rfl, rfl, rfl⟩ | ⟨h1, hn, rfl, rfl, rfl⟩ | ⟨h1, r, y, hr, hy, hu, hx, rfl⟩ <;> rcases h' with ⟨h1', rfl, rfl, rfl⟩ | ⟨h1', hn', rfl, rfl, rfl⟩ | ⟨h1', r', y', hr', hy', hu', hx', rfl⟩
  · exact ⟨rfl, rfl, rfl⟩
  · exact absurd h1' h1
  · exact absurd h1' h1
  · exact absurd h1 h1'
  · exact ⟨rfl, rfl, rfl⟩
  · exfalso
    rw [hr'] at hn
    rcases hn with hn | hn
    · simp at hn
    · simp at hn; exact hy' hn
  · exact absurd h1 h1'
  · exfalso
    rw [hr] at hn'
    rcases hn' with hn | hn
    · simp at hn
    · simp at hn; exact hy hn
  · rw [hr] at hr'
    obtain ⟨e1, e2⟩ := List.append_inj' hr' rfl
    simp only [List.cons.injEq, and_true] at e2
    exact ⟨by rw [hu, hu', e1], by rw [hx, hx', e2], rfl⟩
theorem rlast_f (s : ByteArray) (k : Nat) (hs : s.size ≤ 1000) (hk : 2101 ≤ k) : ∃ u x e, purlinref12_Last.f k s = some (u, x, e) ∧ LastIs s u x e := by
  obtain ⟨l, hl, hd⟩ := rsplit_f s k hs hk
  unfold purlinref12_Last.f LastIs
  rw [hl]
  simp only [Option.bind_some]
  by_cases he : errL (dl s) = 0
  · rw [if_pos he] at hd
    rw [if_pos he]
    have hn := (names_of he).1.few
    have hw := (names_of he).2
    have hz := (err_zero he).2.2.2
    rw [← hd, List.length_map] at hn
    rw [← hd] at hw ⊢
    have hcc : l = [] ∨ ∃ r x, l = r ++ [x] := by
      rcases List.eq_nil_or_concat l with h | ⟨r, x, h⟩
      · exact .inl h
      · exact .inr ⟨r, x, by rw [h, List.concat_eq_append]⟩
    rcases hcc with rfl | ⟨r, x, rfl⟩
    case inl =>
      refine ⟨⟨#[]⟩, ⟨#[]⟩, 2, ?_, .inr (.inl ⟨he, .inl rfl, rfl, rfl, rfl⟩)⟩
      rw [if_pos (show (([] : List ByteArray).length : Int) = 0 from rfl)]
    case inr =>
      have hlen : (r ++ [x]).length = r.length + 1 := by rw [List.length_append]; rfl
      have e1 : wrap64 (((r ++ [x]).length : Int) - 1) = (r.length : Int) := by
        rw [hlen] at hn ⊢
        unfold wrap64; omega
      have e2 : rdOf ByteArray.empty (r ++ [x]) (r.length : Int) = x := by
        simp [rdOf]
      rw [if_neg (by rw [hlen]; omega), e1, if_pos (by omega), if_pos (by rw [hlen]; omega), e2, Lib.toList_data]
      by_cases hx : dl x = [46, 46]
      · rw [if_pos (show x.data.toList = [46, 46] from hx)]
        exact ⟨_, _, _, rfl, .inr (.inl ⟨he, .inr (by rw [List.map_append]; simp [hx]), rfl, rfl, rfl⟩)⟩
      · rw [if_neg (show ¬ x.data.toList = [46, 46] from hx), if_pos (by rw [hlen]; omega)]
        rw [Int.toNat_natCast, List.take_left]
        rw [List.map_append, wt_app] at hw
        obtain ⟨j, hj, hjd⟩ := rjoin_f r k (by omega) (by omega) (by omega)
        rw [hj]
        exact ⟨_, _, _, rfl, .inr (.inr ⟨he, _, _, by rw [List.map_append]; rfl, hx, hjd, rfl, rfl⟩)⟩
  · rw [if_neg he]
    exact ⟨_, _, _, rfl, .inl ⟨he, rfl, rfl, rfl⟩⟩
theorem rtarget_f (k : Nat) (s : ByteArray) (hs : s.size ≤ 1000) (hk : 2101 ≤ k) : ∃ l b, purlinref12_Target.f k s = some (l, b, terrL (dl s)) ∧
    l.map dl = (if terrL (dl s) = 0 then namesL (dl s) else []) ∧ b = (if terrL (dl s) = 0 then Lib.hasPrefix (dl s) [47] else false) := by
  obtain ⟨k, rfl⟩ : ∃ j, k = j + 1 := ⟨k - 1, by omega⟩
  unfold purlinref12_Target.f terrL
  rw [Lib.toList_data]
  have e0 : s.data.toList = dl s := rfl
  rw [e0]
  by_cases h0 : dl s = []
  · rw [if_pos h0, if_pos h0, purlinref12_Target.j0, if_pos rfl]
    exact ⟨[], false, rfl, by simp, by simp⟩
  · have hpos : 0 < s.size := by rw [← dl_size]; exact List.length_pos_iff.2 h0
    have hpre : (bt s 0 == 47) = Lib.hasPrefix (dl s) [47] := by
      obtain ⟨c, t, hct⟩ : ∃ c t, dl s = c :: t := by
        cases hd : dl s with
        | nil => exact absurd hd h0
        | cons c t => exact ⟨c, t, rfl⟩
      have hb := bt_eq s 0 hpos 47
      simp only [hct, List.getElem_cons_zero] at hb
      rw [hct]
      simp only [Lib.hasPrefix, List.isPrefixOf, Bool.and_true]
      rw [Bool.eq_iff_iff, beq_iff_eq, beq_iff_eq]
      exact ⟨fun h => (hb.1 h).symm, fun h => hb.2 h.symm⟩
    rw [if_neg h0, if_neg h0, zero_f s _ hs (by omega)]
    simp only [Option.bind_some]
    rw [purlinref12_Target.j0]
    by_cases h1 : (0 : UInt8) ∈ dl s
    · rw [if_pos (decide_eq_true h1), if_pos h1]
      exact ⟨[], false, rfl, by simp, by simp⟩
    · rw [if_neg (by simpa using h1), if_neg h1]
      have e1 : (dl s).length = s.size := rfl
      obtain ⟨l, hl, hm, hn⟩ := parts_f s k hs (by omega)
      rw [hl]
      simp only [Option.bind_some]
      rw [long_f l k (by omega) (by omega), ok_of hm]
      simp only [Option.bind_some]
      by_cases h3 : 100 < s.size
      · rw [if_pos (show (s.size : Int) > 100 by omega)]
        cases h4 : okL (dl s)
        · exact ⟨[], false, rfl, rfl, rfl⟩
        · rw [if_pos (show true = true from rfl), if_pos (show 100 < (dl s).length by omega)]
          exact ⟨[], false, rfl, rfl, rfl⟩
      · rw [if_neg (show ¬ (s.size : Int) > 100 by omega)]
        cases h4 : okL (dl s)
        · exact ⟨[], false, rfl, rfl, rfl⟩
        · rw [if_pos (show true = true from rfl), if_neg (show ¬ 100 < (dl s).length by omega), if_pos (show 0 < (s.size : Int) by omega), hpre]
          exact ⟨l, _, rfl, by rw [if_pos rfl]; exact hm, by rw [if_pos rfl]⟩
theorem over_from : ∀ (n i k : Nat) (l : List ByteArray), l.length ≤ 1000 → i + n = l.length → n + 1 ≤ k → purlinlaw0_OverTexts.l0 k l (i : Int) = some ()
  | 0, i, k, l, hl, hi, hk => by
    obtain ⟨k, rfl⟩ : ∃ j, k = j + 1 := ⟨k - 1, by omega⟩
    rw [purlinlaw0_OverTexts.l0, if_neg (by omega), if_pos (by omega)]
  | n + 1, i, k, l, hl, hi, hk => by
    obtain ⟨k, rfl⟩ : ∃ j, k = j + 1 := ⟨k - 1, by omega⟩
    rw [purlinlaw0_OverTexts.l0, if_pos (by omega), if_pos (by omega), w1 i (by omega)]
    exact over_from n (i + 1) k _ (by rw [List.length_set]; exact hl) (by rw [List.length_set]; omega) (by omega)
theorem over_f (k : Nat) (l : List ByteArray) (hl : l.length ≤ 1000) (hk : 1001 ≤ k) : purlinlaw0_OverTexts.f k l = some () := over_from l.length 0 k l hl (by omega) (by omega)
theorem few_of (l : List ByteArray) (s : ByteArray) (p : Prop) [Decidable p] (hp : p → okL (dl s) = true) (h : l.map dl = if p then namesL (dl s) else []) : l.length ≤ 20 := by
  by_cases c : p
  · rw [if_pos c] at h
    have := hp c
    unfold okL at this
    simp only [Bool.and_eq_true, decide_eq_true_eq] at this
    rw [← h, List.length_map] at this
    exact this.2
  · rw [if_neg c] at h
    have : l = [] := List.map_eq_nil_iff.1 h
    subst this; simp
theorem terr_ok {l : Bs} (h : terrL l = 0) : okL l = true := by
  unfold terrL at h
  split at h
  · simp at h
  · split at h
    · simp at h
    · split at h
      · assumption
      · simp at h
theorem pure : purlinlaw12_PathTells.Pure := by
  intro a0 _
  refine ⟨3000, ?_⟩
  unfold purlinlaw12_PathTells.f
  by_cases hs : (a0.size : Int) > 400
  · rw [if_pos hs, awake_ok 2995]; rfl
  · rw [if_neg hs]
    obtain ⟨l1, hl1, hd1⟩ := split_f a0 (by omega)
    obtain ⟨l2, hl2, hd2⟩ := rsplit_f a0 3000 (by omega) (by omega)
    obtain ⟨c1, hc1, he1⟩ := clean_f a0 (by omega)
    obtain ⟨c2, hc2, he2⟩ := rclean_f a0 3000 (by omega) (by omega)
    obtain ⟨u1, x1, e1, hu1, hL1⟩ := last_f a0 (by omega)
    obtain ⟨u2, x2, e2, hu2, hL2⟩ := rlast_f a0 3000 (by omega) (by omega)
    obtain ⟨t1, b1, ht1, hm1, hb1⟩ := target_f 2999 a0 (by omega)
    obtain ⟨t2, b2, ht2, hm2, hb2⟩ := rtarget_f 3000 a0 (by omega) (by omega)
    obtain ⟨q1, q2, q3⟩ := LastIs.one hL1 hL2
    have f1 := few_of l1 a0 _ (fun h => (err_zero h).2.2.1) hd1
    have f2 := few_of t1 a0 _ (fun h => terr_ok h) hm1
    have s1 := same_f 3000 l1 l2 (by omega) (by rw [hd1, hd2]) (by omega)
    have s2 := same_f 3000 t1 t2 (by omega) (by rw [hm1, hm2]) (by omega)
    have o1 := over_f 3000 l1 (by omega) (by omega)
    have o2 := over_f 3000 t1 (by omega) (by omega)
    have g1 : c1.toList = c2.toList := by rw [Lib.toList_data, Lib.toList_data]; exact he1.trans he2.symm
    have g2 : u1.toList = u2.toList := by rw [Lib.toList_data, Lib.toList_data]; exact q1
    have g3 : x1.toList = x2.toList := by rw [Lib.toList_data, Lib.toList_data]; exact q2
    have g4 : (b1 == b2) = true := by rw [hb1, hb2]; exact beq_self_eq_true _
    rw [hl1, hl2, hc1, hc2, hu1, hu2, ht1, ht2]
    simp only [Option.bind_some]
    rw [s1]
    simp only [Option.bind_some]
    rw [if_pos (by trivial), if_pos (by trivial), if_pos g1, if_pos (by trivial), if_pos g2, if_pos g3, if_pos q3, s2]
    simp only [Option.bind_some]
    rw [if_pos (by trivial), if_pos g4, o1]
    simp only [Option.bind_some]
    rw [o2]
    simp only [Option.bind_some]
    rw [if_pos (by trivial), awake_ok 2995]; rfl
end Go.Proofs.YtblejdnjemcpcaaDoor.PPathTells
