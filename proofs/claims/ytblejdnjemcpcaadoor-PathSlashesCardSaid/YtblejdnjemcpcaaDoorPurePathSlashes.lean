/- PathSlashes' plain law: more slashes and dots change nothing; a part more and .. behind it neither. -/
import Derived.Test.YtblejdnjemcpcaaDoorComSlashes
namespace Go.Proofs.YtblejdnjemcpcaaDoor.PPathSlashes
open Go.RowKit Go.Proofs.YtblejdnjemcpcaaDoorW.PrintWords Go.Proofs.YtblejdnjemcpcaaDoorW.PrintLast Go.Proofs.YtblejdnjemcpcaaDoorW.PrintMore Go.Proofs.YtblejdnjemcpcaaDoor.Hand

theorem low_f (a : Int) (n : Int) (h1 : 1 ≤ n) (h2 : n ≤ 1000) : ∃ t, purlinlaw0_Low.f a n = some t ∧ 0 ≤ t ∧ t < n := by
  have hn : IntKind.u64.wrap n = n := by simp [IntKind.wrap, IntKind.signed, IntKind.bits]; omega
  have hx0 : 0 ≤ IntKind.u64.wrap a := by simp [IntKind.wrap, IntKind.signed, IntKind.bits]; omega
  have h3 := Int.emod_nonneg (IntKind.u64.wrap a) (b := n) (by omega)
  have h4 := Int.emod_lt_of_pos (IntKind.u64.wrap a) (b := n) (by omega)
  refine ⟨IntKind.u64.wrap a % n, ?_, h3, h4⟩
  unfold purlinlaw0_Low.f
  rw [hn, if_neg (by omega), Int.tmod_eq_emod_of_nonneg hx0]
  generalize IntKind.u64.wrap a % n = t at *
  congr 1
  unfold wrap64; omega
theorem w1 (i : Nat) (h : i ≤ 1000000) : wrap64 ((i : Int) + 1) = ((i + 1 : Nat) : Int) := by unfold wrap64; omega
theorem bt_get (a : ByteArray) (i : Nat) (h : i < (dl a).length) : bt a (i : Int) = (((dl a)[i]'h).toNat : Int) := by
  have h1 := bt_at a (i : Int) (by simpa using (show i < a.size from h))
  rw [← h1]
  rfl
theorem bt_slash (a : ByteArray) (i : Nat) (h : i < (dl a).length) : bt a (i : Int) = 47 ↔ (dl a)[i]'h = 47 := by
  rw [bt_get a i h]
  constructor
  · intro e; exact UInt8.toNat_inj.1 (show ((dl a)[i]'h).toNat = 47 by omega)
  · intro e; rw [e]; rfl

/-- more slashes and a dot between, where a slash stands -/
theorem split_dot (l : Bs) (j : Nat) (hj : j < l.length) (h : l[j] = 47) : splitL ((l.take j ++ [47, 46, 47]) ++ l.drop j) = splitL (l.take j) ++ ([46] :: [] :: splitL (l.drop (j + 1))) ∧ splitL l = splitL (l.take j) ++ splitL (l.drop (j + 1)) := by
  have hd : l.drop j = 47 :: l.drop (j + 1) := by rw [List.drop_eq_getElem_cons hj, h]
  constructor
  · rw [hd, List.append_assoc, show ([47, 46, 47] : Bs) ++ 47 :: l.drop (j + 1) = 47 :: ([46] ++ 47 :: ([] ++ 47 :: l.drop (j + 1))) from rfl, splitL_app, splitL_app, splitL_app]
    rfl
  · conv => lhs; rw [← List.take_append_drop j l, hd]
    rw [splitL_app]
theorem names_dot (l : Bs) (j : Nat) (hj : j < l.length) (h : l[j] = 47) : namesL ((l.take j ++ [47, 46, 47]) ++ l.drop j) = namesL l := by
  obtain ⟨h1, h2⟩ := split_dot l j hj h
  unfold namesL
  rw [h1, h2, List.filter_append, List.filter_append, List.filter_cons, if_neg (by decide), List.filter_cons, if_neg (by decide)]
theorem err_dot (l : Bs) (j : Nat) (hj : j < l.length) (h : l[j] = 47) (he : errL l = 0) (hl : l.length ≤ 100) : errL ((l.take j ++ [47, 46, 47]) ++ l.drop j) = 0 := by
  obtain ⟨⟨t, ht⟩, h0, hk, _⟩ := err_zero he
  have hok : okL ((l.take j ++ [47, 46, 47]) ++ l.drop j) = true := by unfold okL at hk ⊢; rw [names_dot l j hj h]; exact hk
  have hlen : ((l.take j ++ [47, 46, 47]) ++ l.drop j).length = l.length + 3 := by
    rw [List.length_append, List.length_append, List.length_take, List.length_drop]; simp only [List.length_cons, List.length_nil]; omega
  have hz : (0 : UInt8) ∉ ((l.take j ++ [47, 46, 47]) ++ l.drop j) := by
    intro hm
    rcases List.mem_append.1 hm with hm | hm
    · rcases List.mem_append.1 hm with hm | hm
      · exact h0 (List.mem_of_mem_take hm)
      · revert hm; decide
    · exact h0 (List.mem_of_mem_drop hm)
  have hp : Lib.hasPrefix ((l.take j ++ [47, 46, 47]) ++ l.drop j) [47] = true := by
    cases j with
    | zero => rfl
    | succ j => rw [ht]; simp [Lib.hasPrefix, List.isPrefixOf]
  unfold errL
  rw [hp, if_pos rfl, if_neg hz, hok, if_pos rfl, if_neg (by omega)]
theorem names_up (l : Bs) : namesL (l ++ [47, 122, 122, 47, 46, 46]) = namesL l ++ [[122, 122], [46, 46]] := by
  unfold namesL
  rw [show (l ++ [47, 122, 122, 47, 46, 46]) = l ++ 47 :: ([122, 122] ++ 47 :: [46, 46]) from rfl, splitL_app, splitL_app, List.filter_append]
  rfl
theorem err_up (l : Bs) (he : errL l = 0) (hl : l.length ≤ 100) (hn : (namesL l).length + 2 ≤ 20) : errL (l ++ [47, 122, 122, 47, 46, 46]) = 0 ∧ cparts (l ++ [47, 122, 122, 47, 46, 46]) = cparts l := by
  obtain ⟨⟨t, ht⟩, h0, hk, _⟩ := err_zero he
  constructor
  · have hok : okL (l ++ [47, 122, 122, 47, 46, 46]) = true := by
      unfold okL short at hk ⊢
      rw [names_up]
      simp only [Bool.and_eq_true, List.all_eq_true, decide_eq_true_eq] at hk ⊢
      refine ⟨fun x hx => ?_, by rw [List.length_append]; exact hn⟩
      rcases List.mem_append.1 hx with hx | hx
      · exact hk.1 x hx
      · simp at hx; rcases hx with rfl | rfl <;> simp
    have hz : (0 : UInt8) ∉ (l ++ [47, 122, 122, 47, 46, 46]) := by
      intro hm
      rcases List.mem_append.1 hm with hm | hm
      · exact h0 hm
      · revert hm; decide
    have hp : Lib.hasPrefix (l ++ [47, 122, 122, 47, 46, 46]) [47] = true := by rw [ht]; simp [Lib.hasPrefix, List.isPrefixOf]
    unfold errL
    rw [hp, if_pos rfl, if_neg hz, hok, if_pos rfl, if_neg (by rw [List.length_append]; simp only [List.length_cons, List.length_nil]; omega)]
  · unfold cparts
    rw [names_up, cleanL_app]
    generalize cleanL (namesL l) [] = q
    rw [cleanL, if_neg (by decide), cleanL, if_pos rfl, cleanL, List.length_append, show q.length + [([122, 122] : Bs)].length - 1 = q.length by simp, List.take_left]

theorem add2 (n : Nat) (h : n ≤ 20) : wrap64 ((n : Int) + 2) = ((n + 2 : Nat) : Int) := by unfold wrap64; omega
theorem up_f (s : ByteArray) (hs : s.size ≤ 60) : ∃ u e, path_Clean.f (s ++ (⟨#[47, 122, 122, 47, 46, 46]⟩ : ByteArray)) = some (u, e) ∧ e = errL (dl s ++ [47, 122, 122, 47, 46, 46]) ∧ dl u = if errL (dl s ++ [47, 122, 122, 47, 46, 46]) = 0 then joinL (cparts (dl s ++ [47, 122, 122, 47, 46, 46])) else [] := by
  have hud : dl (s ++ (⟨#[47, 122, 122, 47, 46, 46]⟩ : ByteArray)) = dl s ++ [47, 122, 122, 47, 46, 46] := by simp [dl]
  have hus : (s ++ (⟨#[47, 122, 122, 47, 46, 46]⟩ : ByteArray)).size < 4294967281 := by
    rw [ByteArray.size_append, show (⟨#[47, 122, 122, 47, 46, 46]⟩ : ByteArray).size = 6 from rfl]; omega
  have h := clean_f (s ++ (⟨#[47, 122, 122, 47, 46, 46]⟩ : ByteArray)) hus
  rw [hud] at h
  obtain ⟨u, h1, h2⟩ := h
  exact ⟨u, _, h1, rfl, h2⟩
theorem last_round (s : ByteArray) (at_ : Int) (a : List ByteArray) (c : ByteArray) (cuts : List Int) (k : Nat) (hk : 100 ≤ k) (hs : s.size ≤ 60) (he : errL (dl s) = 0) (ha : a.map dl = namesL (dl s)) (hc : dl c = joinL (cparts (dl s)))
    (hcut : ∀ x ∈ cuts, ∃ j : Nat, x = j ∧ ∃ h : j < (dl s).length, (dl s)[j]'h = 47) (hne : cuts ≠ []) (hcl : cuts.length ≤ 100) :
    purlinlaw12_PathSlashes.l0 (k + 1) s at_ a c cuts (s.size : Int) = some true := by
  rw [purlinlaw12_PathSlashes.l0, if_neg (by omega)]
  have hpos : 0 < cuts.length := List.length_pos_iff.2 hne
  rw [if_neg (by omega)]
  obtain ⟨t, ht, ht0, ht1⟩ := low_f at_ cuts.length (by omega) (by omega)
  rw [ht]
  simp only [Option.bind_some]
  have htn : t.toNat < cuts.length := by omega
  obtain ⟨j, hj, hjl, hj47⟩ := hcut (rd cuts t) (by unfold rd; rw [List.getD_eq_getElem?_getD, List.getElem?_eq_getElem htn]; exact List.getElem_mem _)
  have hjs : j < s.size := hjl
  rw [hj, if_pos ht0, if_pos ht1, if_pos (by omega), if_pos (by omega), Int.toNat_natCast]
  have e1 : (s.extract 0 j).size = j := by rw [ByteArray.size_extract]; omega
  have e2 : (s.extract j s.size).size = s.size - j := by rw [ByteArray.size_extract]; omega
  have e3 : (s.extract 0 j ++ (⟨#[47, 46, 47]⟩ : ByteArray)).size = j + 3 := by rw [ByteArray.size_append, e1]; rfl
  rw [e1, e3, e2, if_pos (by omega), if_pos (by omega)]
  obtain ⟨q, hq⟩ : ∃ q : ByteArray, (s.extract 0 j ++ (⟨#[47, 46, 47]⟩ : ByteArray)) ++ s.extract j s.size = q := ⟨_, rfl⟩
  have hqd : dl q = ((dl s).take j ++ [47, 46, 47]) ++ (dl s).drop j := by
    rw [← hq]
    have f1 : dl (s.extract 0 j) = (dl s).take j := Lib.extract_from_zero s j
    have f2 : dl (s.extract j s.size) = (dl s).drop j := Lib.extract_to_end s j
    rw [← f1, ← f2]
    simp [dl]
  have hqs : q.size = s.size + 3 := by rw [← hq, ByteArray.size_append, e3, e2]; omega
  rw [hq]
  obtain ⟨b, hb, hbd⟩ := split_f q (by omega)
  obtain ⟨d, hd, hdd⟩ := clean_f q (by omega)
  have heq : errL (dl q) = 0 := by rw [hqd]; exact err_dot (dl s) j hjl hj47 he (by rw [dl_size]; omega)
  have hnq : namesL (dl q) = namesL (dl s) := by rw [hqd]; exact names_dot (dl s) j hjl hj47
  rw [heq] at hb hd
  rw [heq, if_pos rfl, hnq] at hbd
  have hcq : cparts (dl q) = cparts (dl s) := by unfold cparts; rw [hnq]
  rw [heq, if_pos rfl, hcq] at hdd
  rw [hb, hd]
  simp only [Option.bind_some]
  rw [if_pos (show s.size + 6 ≤ 9223372036854775807 by omega)]
  obtain ⟨u, eu, hu, heu, hudd⟩ := up_f s hs
  have hfew := (names_of he).1.few
  have hal : a.length ≤ 20 := by rw [← ha, List.length_map] at hfew; exact hfew
  rw [add2 a.length hal, hu]
  simp only [Option.bind_some]
  obtain ⟨k, rfl⟩ : ∃ j, k = j + 5 := ⟨k - 5, by omega⟩
  rw [same_f (k + 5) a b (by omega) (by rw [ha, hbd]) (by omega)]
  simp only [Option.bind_some]
  by_cases h20 : 20 < a.length + 2
  · rw [if_pos (show ((a.length + 2 : Nat) : Int) > 20 by omega), if_pos (by trivial), if_pos (by trivial), awake_ok]; rfl
  · obtain ⟨g1, g2⟩ := err_up (dl s) he (by rw [dl_size]; omega) (by rw [← ha, List.length_map]; omega)
    rw [g1] at heu
    subst heu
    rw [g1, if_pos rfl, g2] at hudd
    have h1 : d.toList = c.toList := by rw [Lib.toList_data, Lib.toList_data]; exact hdd.trans hc.symm
    have h2 : u.toList = c.toList := by rw [Lib.toList_data, Lib.toList_data]; exact hudd.trans hc.symm
    rw [if_neg (show ¬ ((a.length + 2 : Nat) : Int) > 20 by omega), if_pos (by trivial), if_pos (by trivial), if_pos (by trivial), if_pos h1, if_pos (by trivial), if_pos h2, awake_ok]; rfl

theorem loop (s : ByteArray) (at_ : Int) (a : List ByteArray) (c : ByteArray) (hs : s.size ≤ 60) (he : errL (dl s) = 0) (ha : a.map dl = namesL (dl s)) (hc : dl c = joinL (cparts (dl s))) : ∀ (n i k : Nat) (cuts : List Int), i + n = s.size → n + 200 ≤ k → (∀ x ∈ cuts, ∃ j : Nat, x = j ∧ ∃ h : j < (dl s).length, (dl s)[j]'h = 47) → (0 < i → cuts ≠ []) → cuts.length ≤ i →
    purlinlaw12_PathSlashes.l0 k s at_ a c cuts (i : Int) = some true
  | 0, i, k, cuts, hi, hk, h1, h2, h3 => by
    obtain ⟨k, rfl⟩ : ∃ j, k = j + 1 := ⟨k - 1, by omega⟩
    obtain ⟨⟨t, ht⟩, _⟩ := err_zero he
    have hpos : 0 < s.size := by rw [← dl_size, ht]; simp
    obtain rfl : i = s.size := by omega
    exact last_round s at_ a c cuts k (by omega) hs he ha hc h1 (h2 hpos) (by omega)
  | n + 1, i, k, cuts, hi, hk, h1, h2, h3 => by
    obtain ⟨k, rfl⟩ : ∃ j, k = j + 1 := ⟨k - 1, by omega⟩
    have hil : i < (dl s).length := by rw [dl_size]; omega
    rw [purlinlaw12_PathSlashes.l0, if_pos (by omega), if_pos (by omega), w1 i (by omega)]
    by_cases h : (dl s)[i] = 47
    · rw [if_pos ((bt_slash s i hil).2 h), if_pos (by omega)]
      refine loop s at_ a c hs he ha hc n (i + 1) k _ (by omega) (by omega) (fun x hx => ?_) (fun _ => by simp) (by rw [List.length_append]; simp only [List.length_cons, List.length_nil]; omega)
      rcases List.mem_append.1 hx with hx | hx
      · exact h1 x hx
      · rw [List.mem_singleton] at hx; exact ⟨i, hx, hil, h⟩
    · rw [if_neg (fun e => h ((bt_slash s i hil).1 e))]
      refine loop s at_ a c hs he ha hc n (i + 1) k _ (by omega) (by omega) h1 (fun _ => ?_) (by omega)
      by_cases h0 : 0 < i
      · exact h2 h0
      · exfalso
        obtain rfl : i = 0 := by omega
        obtain ⟨⟨t, ht⟩, _⟩ := err_zero he
        simp only [ht, List.getElem_cons_zero] at h
        exact h trivial
theorem pure : purlinlaw12_PathSlashes.Pure := by
  intro a0 a1 _ _
  refine ⟨1000, ?_⟩
  unfold purlinlaw12_PathSlashes.f
  by_cases hs : (a0.size : Int) > 60
  · rw [if_pos hs, awake_ok 995]; rfl
  · rw [if_neg hs]
    obtain ⟨a, ha, had⟩ := split_f a0 (by omega)
    obtain ⟨c, hc, hcd⟩ := clean_f a0 (by omega)
    rw [ha, hc]
    simp only [Option.bind_some]
    by_cases he : errL (dl a0) = 0
    · rw [if_pos he] at had hcd
      rw [if_pos he]
      exact loop a0 a1 a c (by omega) he had hcd a0.size 0 1000 [] (by omega) (by omega) (fun x hx => by simp at hx) (fun h => by omega) (by simp)
    · rw [if_neg he] at had hcd
      rw [if_neg he, if_pos (by trivial)]
      have : a = [] := List.map_eq_nil_iff.1 had
      subst this
      rw [if_pos (show (([] : List ByteArray).length : Int) = 0 from rfl), Lib.toList_data, if_pos (show c.data.toList = [] from hcd), awake_ok 995]; rfl
end Go.Proofs.YtblejdnjemcpcaaDoor.PPathSlashes
