/- The path package by lists of bytes: what Split, Clean, Join answer; joined parts are split again. -/
import Derived.Test.YtblejdnjemcpcaaDoorHand
namespace Go.Proofs.YtblejdnjemcpcaaDoor.Hand
open Go.RowKit Go.Proofs.YtblejdnjemcpcaaDoorW.PrintWords

abbrev Bs := List UInt8
def dl (x : ByteArray) : Bs := x.data.toList
theorem dl_inj {x y : ByteArray} (h : dl x = dl y) : x = y := by
  apply ByteArray.ext
  exact Array.toList_inj.1 h
theorem dl_size (x : ByteArray) : (dl x).length = x.size := rfl
theorem map_dl_inj : ∀ {l m : List ByteArray}, l.map dl = m.map dl → l = m
  | [], [], _ => rfl
  | [], _ :: _, h => by simp at h
  | _ :: _, [], h => by simp at h
  | x :: l, y :: m, h => by
    simp only [List.map_cons, List.cons.injEq] at h
    rw [dl_inj h.1, map_dl_inj h.2]

/-- what stands between slashes -/
def splitL : Bs → List Bs
  | [] => [[]]
  | c :: s => if c = 47 then [] :: splitL s else match splitL s with
    | [] => [[c]]
    | p :: ps => (c :: p) :: ps
theorem splitL_slash (s : Bs) : splitL (47 :: s) = [] :: splitL s := by rw [splitL, if_pos rfl]
theorem splitL_ne (s : Bs) : ∃ p ps, splitL s = p :: ps := by
  cases s with
  | nil => exact ⟨_, _, rfl⟩
  | cons c s =>
    unfold splitL
    split
    · exact ⟨_, _, rfl⟩
    · cases splitL s with
      | nil => exact ⟨_, _, rfl⟩
      | cons p ps => exact ⟨_, _, rfl⟩
theorem splitL_other {c : UInt8} (h : c ≠ 47) {s p : Bs} {ps : List Bs} (e : splitL s = p :: ps) : splitL (c :: s) = (c :: p) :: ps := by
  rw [splitL, if_neg h, e]
theorem splitK_splitL : ∀ l : Bs, Lib.splitK [47] 0 (Lib.count l [47]) l = splitL l
  | [] => by rw [Lib.count_miss (by simp [Lib.index])]; rfl
  | c :: t => by
    have ih := splitK_splitL t
    by_cases h : c = 47
    · subst h
      have hix : Lib.index (47 :: t) [47] = 0 := by rw [Lib.index]; simp [List.isPrefixOf]
      rw [Lib.count_cons_eq, Nat.add_comm, Lib.splitK, hix, if_neg (by decide), splitL_slash, ← ih]
      simp
    · have hp : ([47] : List UInt8).isPrefixOf (c :: t) = false := by simp [List.isPrefixOf]; exact fun h' => h h'.symm
      have hix : Lib.index (c :: t) [47] = if Lib.index t [47] == -1 then -1 else Lib.index t [47] + 1 := by rw [Lib.index, hp]; simp
      rw [Lib.count_cons_ne c 47 t h]
      by_cases hm : Lib.index t [47] = -1
      · rw [Lib.count_miss hm] at ih ⊢
        rw [Lib.splitK] at ih ⊢
        rw [splitL_other h ih.symm]
      · have hge := Lib.index_ge t [47]
        obtain ⟨j, hj⟩ : ∃ j : Nat, Lib.index t [47] = j := ⟨(Lib.index t [47]).toNat, by omega⟩
        have hix' : Lib.index (c :: t) [47] = ((j + 1 : Nat) : Int) := by rw [hix, if_neg (fun e => hm (beq_iff_eq.1 e)), hj]; omega
        have hc := Lib.count_hit (by simp) hj
        rw [hc] at ih ⊢
        rw [Nat.add_comm 1] at ih ⊢
        rw [Lib.splitK, hj, if_neg (by rw [beq_iff_eq]; omega)] at ih
        rw [Lib.splitK, hix', if_neg (by rw [beq_iff_eq]; omega)]
        rw [splitL_other h ih.symm]
        simp
theorem pieces_dl (s : ByteArray) : (piecesOf s).map dl = splitL (dl s) := by
  unfold piecesOf
  exact (Lib.splitB_data ⟨#[47]⟩ 0 _ s).trans (splitK_splitL _)

theorem splitL_app (a b : Bs) : splitL (a ++ 47 :: b) = splitL a ++ splitL b := by
  induction a with
  | nil => rw [List.nil_append, splitL_slash]; rfl
  | cons c a ih =>
    by_cases h : c = 47
    · subst h; rw [List.cons_append, splitL_slash, splitL_slash, ih]; rfl
    · obtain ⟨p, ps, e⟩ := splitL_ne a
      rw [e] at ih
      rw [List.cons_append, splitL_other h ih, splitL_other h e]; rfl
theorem splitL_one {a : Bs} (h : 47 ∉ a) : splitL a = [a] := by
  induction a with
  | nil => rfl
  | cons c a ih =>
    simp only [List.mem_cons, not_or] at h
    rw [splitL_other (fun e => h.1 e.symm) (ih h.2)]
theorem splitL_mem {l x : Bs} (h : x ∈ splitL l) : 47 ∉ x ∧ ∀ c ∈ x, c ∈ l := by
  induction l generalizing x with
  | nil => simp only [splitL, List.mem_singleton] at h; subst h; simp
  | cons c l ih =>
    by_cases hc : c = 47
    · subst hc
      rw [splitL_slash, List.mem_cons] at h
      rcases h with rfl | h
      · simp
      · exact ⟨(ih h).1, fun d hd => List.mem_cons_of_mem _ ((ih h).2 d hd)⟩
    · obtain ⟨p, ps, e⟩ := splitL_ne l
      rw [splitL_other hc e, List.mem_cons] at h
      rcases h with rfl | h
      · have := ih (x := p) (by rw [e]; simp)
        refine ⟨by simp only [List.mem_cons, not_or]; exact ⟨fun e => hc e.symm, this.1⟩, fun d hd => ?_⟩
        rcases List.mem_cons.1 hd with rfl | hd
        · simp
        · exact List.mem_cons_of_mem _ (this.2 d hd)
      · have := ih (x := x) (by rw [e]; simp [h])
        exact ⟨this.1, fun d hd => List.mem_cons_of_mem _ (this.2 d hd)⟩
/-- bytes with a slash each -/
def wt : List Bs → Nat
  | [] => 0
  | x :: xs => x.length + 1 + wt xs
theorem wt_app (a b : List Bs) : wt (a ++ b) = wt a + wt b := by
  induction a with
  | nil => simp [wt]
  | cons x a ih => simp only [List.cons_append, wt, ih]; omega
theorem wt_splitL (l : Bs) : wt (splitL l) = l.length + 1 := by
  induction l with
  | nil => rfl
  | cons c l ih =>
    by_cases hc : c = 47
    · subst hc; rw [splitL_slash, wt, ih]; simp; omega
    · obtain ⟨p, ps, e⟩ := splitL_ne l
      rw [e, wt] at ih
      rw [splitL_other hc e, wt]; simp only [List.length_cons]; omega
theorem wt_filter (f : Bs → Bool) (l : List Bs) : wt (l.filter f) ≤ wt l := by
  induction l with
  | nil => simp [wt]
  | cons x l ih =>
    rw [List.filter_cons]
    split <;> simp only [wt] <;> omega

def keep (p : Bs) : Bool := !(p == []) && !(p == [46])
theorem keep_iff (p : Bs) : keep p = true ↔ ¬ (p = [] ∨ p = [46]) := by
  unfold keep; simp [not_or]
def namesL (l : Bs) : List Bs := (splitL l).filter keep
def short (l : List Bs) : Bool := l.all fun x => decide (x.length ≤ 24)
def okL (l : Bs) : Bool := short (namesL l) && decide ((namesL l).length ≤ 20)
theorem partsTo_eq : ∀ (ps acc : List ByteArray), ((partsTo ps acc).1.map dl, (partsTo ps acc).2) = if short ((ps.map dl).filter keep) then (acc.map dl ++ (ps.map dl).filter keep, decide (acc.length + ((ps.map dl).filter keep).length ≤ 20)) else ([], false)
  | [], acc => by simp [partsTo, short]
  | p :: ps, acc => by
    unfold partsTo
    by_cases c : dl p = [] ∨ dl p = [46]
    · have hk : keep (dl p) = false := by rw [← Bool.not_eq_true, keep_iff]; exact fun h => h c
      rw [if_pos (show p.data.toList = [] ∨ p.data.toList = [46] from c), partsTo_eq ps acc, List.map_cons, List.filter_cons, hk]
      rfl
    · have hk : keep (dl p) = true := (keep_iff _).2 c
      rw [if_neg (show ¬ (p.data.toList = [] ∨ p.data.toList = [46]) from c), List.map_cons, List.filter_cons, hk]
      by_cases c2 : 24 < p.size
      · rw [if_pos c2]
        have : decide ((dl p).length ≤ 24) = false := decide_eq_false (by rw [dl_size]; omega)
        simp [short, this]
      · rw [if_neg c2, partsTo_eq ps]
        have : decide ((dl p).length ≤ 24) = true := decide_eq_true (by rw [dl_size]; omega)
        simp only [short, if_true, List.all_cons, this, Bool.true_and, List.map_append, List.map_cons, List.map_nil, List.append_assoc, List.singleton_append, List.length_append, List.length_cons, List.length_nil]
        split
        · congr 1
          exact decide_eq_decide.2 (by omega)
        · rfl
theorem parts_of (s : ByteArray) : (partsTo (piecesOf s) []).2 = okL (dl s) ∧ (okL (dl s) = true → (partsTo (piecesOf s) []).1.map dl = namesL (dl s)) := by
  have h := partsTo_eq (piecesOf s) []
  rw [pieces_dl] at h
  simp only [Prod.ext_iff] at h
  obtain ⟨h1, h2⟩ := h
  unfold okL namesL
  cases hs : short ((splitL (dl s)).filter keep)
  · rw [hs] at h2; simp only [Bool.false_eq_true, if_false] at h2
    exact ⟨by rw [h2]; rfl, fun h => by simp at h⟩
  · rw [hs] at h1 h2; simp only [if_true] at h1 h2
    exact ⟨by rw [h2]; simp, fun _ => by rw [h1]; simp⟩

def errL (l : Bs) : Int := if Lib.hasPrefix l [47] then (if (0 : UInt8) ∈ l then 2 else if okL l then (if 200 < l.length then 11 else 0) else 11) else 2
theorem zero_mem (l : Bs) : decide (0 ≤ Lib.indexByte l 0) = decide ((0 : UInt8) ∈ l) := by
  apply decide_eq_decide.2
  induction l with
  | nil => simp [Lib.indexByte]
  | cons b l ih =>
    have := Lib.indexByte_ge l 0
    unfold Lib.indexByte
    by_cases hb : b = 0
    · subst hb; simp
    · rw [if_neg (by simpa using hb), List.mem_cons, ← ih]
      by_cases h1 : Lib.indexByte l 0 = -1
      · rw [if_pos (by simpa using h1), h1]; simp; exact fun e => hb e.symm
      · rw [if_neg (by simpa using h1)]
        constructor
        · intro h; right; omega
        · rintro (h | h)
          · exact absurd h.symm hb
          · omega
theorem splitOf_eq (s : ByteArray) : (splitOf s).2 = errL (dl s) ∧ (splitOf s).1.map dl = if errL (dl s) = 0 then namesL (dl s) else [] := by
  have hp := parts_of s
  unfold splitOf errL
  rw [zero_mem]
  have e1 : (s.size : Nat) = (dl s).length := rfl
  rw [e1]
  show _ ∧ _
  cases h1 : Lib.hasPrefix (dl s) [47]
  · rw [show Lib.hasPrefix s.data.toList [47] = false from h1]; simp
  · rw [show Lib.hasPrefix s.data.toList [47] = true from h1]
    by_cases h2 : (0 : UInt8) ∈ dl s
    · rw [show decide ((0 : UInt8) ∈ s.data.toList) = true from decide_eq_true h2]; simp [h2]
    · rw [show decide ((0 : UInt8) ∈ s.data.toList) = false from decide_eq_false h2]
      rw [hp.1]
      cases h3 : okL (dl s)
      · simp [h2]
      · have := hp.2 h3
        by_cases h4 : 200 < (dl s).length
        · simp [h2, h4]
        · simp [h2, h4, this]
end Go.Proofs.YtblejdnjemcpcaaDoor.Hand
namespace Go.Proofs.YtblejdnjemcpcaaDoor.Hand
open Go.RowKit Go.Proofs.YtblejdnjemcpcaaDoorW.PrintWords

def cleanL : List Bs → List Bs → List Bs
  | [], acc => acc
  | x :: xs, acc => if x = [46, 46] then cleanL xs (acc.take (acc.length - 1)) else cleanL xs (acc ++ [x])
theorem cleanTo_dl : ∀ (l acc : List ByteArray), (cleanTo l acc).map dl = cleanL (l.map dl) (acc.map dl)
  | [], acc => rfl
  | x :: l, acc => by
    rw [cleanTo, List.map_cons, cleanL]
    by_cases h : dl x = [46, 46]
    · rw [if_pos (show x.data.toList = [46, 46] from h), if_pos h, cleanTo_dl, List.map_take, List.length_map]
    · rw [if_neg (show ¬ x.data.toList = [46, 46] from h), if_neg h, cleanTo_dl, List.map_append]; rfl
theorem cleanL_mem : ∀ (l acc : List Bs) (x : Bs), x ∈ cleanL l acc → x ∈ acc ∨ (x ∈ l ∧ x ≠ [46, 46])
  | [], acc, x, h => .inl h
  | y :: l, acc, x, h => by
    rw [cleanL] at h
    split at h
    · rcases cleanL_mem l _ x h with h | ⟨h, h2⟩
      · exact .inl (List.mem_of_mem_take h)
      · exact .inr ⟨List.mem_cons_of_mem _ h, h2⟩
    · next c =>
      rcases cleanL_mem l _ x h with h | ⟨h, h2⟩
      · rcases List.mem_append.1 h with h | h
        · exact .inl h
        · rw [List.mem_singleton] at h; subst h; exact .inr ⟨by simp, c⟩
      · exact .inr ⟨List.mem_cons_of_mem _ h, h2⟩
theorem wt_take (l : List Bs) (k : Nat) : wt (l.take k) ≤ wt l := by
  have h := congrArg wt (List.take_append_drop k l)
  rw [wt_app] at h; omega
theorem cleanL_len : ∀ (l acc : List Bs), (cleanL l acc).length ≤ acc.length + l.length ∧ wt (cleanL l acc) ≤ wt acc + wt l
  | [], acc => ⟨Nat.le_refl _, Nat.le_refl _⟩
  | y :: l, acc => by
    rw [cleanL]
    split
    · have h := cleanL_len l (acc.take (acc.length - 1))
      have h2 := wt_take acc (acc.length - 1)
      rw [List.length_take] at h
      rw [List.length_cons, wt]
      omega
    · have h := cleanL_len l (acc ++ [y])
      rw [List.length_append, wt_app] at h
      simp only [wt, List.length_cons, List.length_nil] at h ⊢
      omega
theorem cleanL_id : ∀ (l acc : List Bs), (∀ x ∈ l, x ≠ [46, 46]) → cleanL l acc = acc ++ l
  | [], acc, _ => by simp [cleanL]
  | y :: l, acc, h => by
    rw [cleanL, if_neg (h y (by simp)), cleanL_id l _ (fun x hx => h x (by simp [hx]))]; simp
theorem cleanL_app : ∀ (a b acc : List Bs), cleanL (a ++ b) acc = cleanL b (cleanL a acc)
  | [], b, acc => rfl
  | x :: a, b, acc => by
    rw [List.cons_append, cleanL, cleanL]
    split <;> exact cleanL_app a b _

def joinL (l : List Bs) : Bs := 47 :: Lib.join l [47]
def flat (l : List Bs) : Bs := (l.map (47 :: ·)).flatten
theorem joinL_cons (x : Bs) (r : List Bs) : joinL (x :: r) = flat (x :: r) := by
  unfold joinL flat
  rw [Lib.join_cons]
  simp [Lib.joinTail]
theorem flat_len (l : List Bs) : (flat l).length = wt l := by
  induction l with
  | nil => rfl
  | cons x l ih => unfold flat at ih ⊢; simp only [List.map_cons, List.flatten_cons, List.length_append, List.length_cons, wt, ih]
theorem joinL_len (l : List Bs) : (joinL l).length = max 1 (wt l) := by
  cases l with
  | nil => rfl
  | cons x r => rw [joinL_cons, flat_len]; simp only [wt]; omega
theorem joinOf_dl (l : List ByteArray) : dl (joinOf l) = joinL (l.map dl) := by
  unfold joinOf dl joinL
  simp
theorem splitL_flat (x : Bs) (r : List Bs) (hx : 47 ∉ x) (h : ∀ y ∈ r, 47 ∉ y) : splitL (x ++ flat r) = x :: r := by
  induction r generalizing x with
  | nil => simp [flat, splitL_one hx]
  | cons y r ih =>
    have e : x ++ flat (y :: r) = x ++ 47 :: (y ++ flat r) := by simp [flat]
    rw [e, splitL_app, splitL_one hx, ih y (h y (by simp)) (fun z hz => h z (by simp [hz]))]; rfl
theorem namesL_joinL (l : List Bs) (h : ∀ x ∈ l, 47 ∉ x ∧ keep x = true) : namesL (joinL l) = l := by
  cases l with
  | nil => rfl
  | cons x r =>
    have e : flat (x :: r) = 47 :: (x ++ flat r) := by simp [flat]
    rw [joinL_cons, e, namesL, splitL_slash, splitL_flat x r (h x (by simp)).1 (fun y hy => (h y (by simp [hy])).1), List.filter_cons, if_neg (by decide)]
    exact List.filter_eq_self.2 (fun y hy => (h y hy).2)
structure Names (l : List Bs) : Prop where
  ok : ∀ x ∈ l, 47 ∉ x ∧ keep x = true ∧ x.length ≤ 24 ∧ (0 : UInt8) ∉ x
  few : l.length ≤ 20
theorem flat_mem (l : List Bs) (c : UInt8) (h : c ∈ flat l) : c = 47 ∨ ∃ x ∈ l, c ∈ x := by
  unfold flat at h
  simp only [List.mem_flatten, List.mem_map] at h
  obtain ⟨_, ⟨x, hx, rfl⟩, hc⟩ := h
  rcases List.mem_cons.1 hc with h | h
  · exact .inl h
  · exact .inr ⟨x, hx, h⟩
theorem joinL_zero (l : List Bs) (h : Names l) : (0 : UInt8) ∉ joinL l := by
  cases l with
  | nil => decide
  | cons x r =>
    rw [joinL_cons]
    intro hc
    rcases flat_mem _ _ hc with h0 | ⟨y, hy, hc⟩
    · exact absurd h0 (by decide)
    · exact (h.ok y hy).2.2.2 hc
theorem okL_joinL (l : List Bs) (h : Names l) : okL (joinL l) = true := by
  unfold okL
  rw [namesL_joinL l (fun x hx => ⟨(h.ok x hx).1, (h.ok x hx).2.1⟩)]
  unfold short
  simp only [Bool.and_eq_true, List.all_eq_true, decide_eq_true_eq]
  exact ⟨fun x hx => (h.ok x hx).2.2.1, h.few⟩
theorem errL_joinL (l : List Bs) (h : Names l) : errL (joinL l) = if 200 < max 1 (wt l) then 11 else 0 := by
  unfold errL
  rw [okL_joinL l h, if_neg (joinL_zero l h), joinL_len]
  rw [show Lib.hasPrefix (joinL l) [47] = true by unfold joinL Lib.hasPrefix; simp [List.isPrefixOf]]
  simp
theorem pre_form {l : Bs} (h : Lib.hasPrefix l [47] = true) : ∃ t, l = 47 :: t := by
  cases l with
  | nil => simp [Lib.hasPrefix, List.isPrefixOf] at h
  | cons c t => simp [Lib.hasPrefix, List.isPrefixOf] at h; exact ⟨t, by rw [← h]⟩
theorem err_zero {l : Bs} (h : errL l = 0) : (∃ t, l = 47 :: t) ∧ (0 : UInt8) ∉ l ∧ okL l = true ∧ l.length ≤ 200 := by
  unfold errL at h
  split at h
  · next h1 =>
    split at h
    · simp at h
    · split at h
      · split at h
        · simp at h
        · exact ⟨pre_form h1, by assumption, by assumption, by omega⟩
      · simp at h
  · simp at h
theorem names_of {l : Bs} (h : errL l = 0) : Names (namesL l) ∧ wt (namesL l) ≤ l.length := by
  obtain ⟨⟨t, rfl⟩, h0, hk, hl⟩ := err_zero h
  unfold okL short at hk
  simp only [Bool.and_eq_true, List.all_eq_true, decide_eq_true_eq] at hk
  refine ⟨⟨fun x hx => ?_, hk.2⟩, ?_⟩
  · have hx2 := hx
    unfold namesL at hx
    obtain ⟨h1, h2⟩ := List.mem_filter.1 hx
    exact ⟨(splitL_mem h1).1, h2, hk.1 x hx2, fun hz => h0 ((splitL_mem h1).2 0 hz)⟩
  · unfold namesL
    rw [splitL_slash, List.filter_cons, if_neg (by decide)]
    have h1 := wt_filter keep (splitL t)
    have h2 := wt_splitL t
    simp only [List.length_cons]; omega
/-- a clean path's parts -/
def cparts (l : Bs) : List Bs := cleanL (namesL l) []
theorem cparts_of {l : Bs} (h : errL l = 0) : Names (cparts l) ∧ wt (cparts l) ≤ 200 ∧ (cparts l).length ≤ (namesL l).length ∧ (∀ x ∈ cparts l, x ≠ [46, 46]) := by
  obtain ⟨hn, hw⟩ := names_of h
  have hl := (err_zero h).2.2.2
  have h1 := cleanL_len (namesL l) []
  have h2 := cleanL_mem (namesL l) []
  simp only [List.length_nil, wt, Nat.zero_add, List.not_mem_nil, false_or] at h1 h2
  refine ⟨⟨fun x hx => hn.ok x (h2 x hx).1, ?_⟩, ?_, h1.1, fun x hx => (h2 x hx).2⟩
  · have := hn.few; unfold cparts; omega
  · unfold cparts; omega
theorem wt_len (l : List Bs) : l.length ≤ wt l := by
  induction l with
  | nil => exact Nat.le_refl _
  | cons x l ih => simp only [wt, List.length_cons]; omega
/-! The functions, told by lists. -/
theorem split_f (s : ByteArray) (hs : s.size < 4294967281) : ∃ l, path_Split.f s = some (l, errL (dl s)) ∧ l.map dl = if errL (dl s) = 0 then namesL (dl s) else [] := by
  refine ⟨(splitOf s).1, ?_, (splitOf_eq s).2⟩
  unfold path_Split.f
  rw [if_pos hs, ← (splitOf_eq s).1]
theorem join_f (l : List ByteArray) (hw : wt (l.map dl) ≤ 1000000000) : ∃ r, path_Join.f l = some r ∧ dl r = joinL (l.map dl) := by
  refine ⟨joinOf l, ?_, joinOf_dl l⟩
  unfold path_Join.f
  have h1 := wt_len (l.map dl)
  rw [List.length_map] at h1
  have h2 := joinL_len (l.map dl)
  rw [joinL, List.length_cons] at h2
  have h3 : (Lib.join (l.map (·.data.toList)) [47]).length ≤ 1000000000 := by
    have : (Lib.join (l.map dl) [47]).length ≤ 1000000000 := by omega
    exact this
  rw [if_pos ⟨by omega, h3⟩]
theorem clean_f (s : ByteArray) (hs : s.size < 4294967281) : ∃ c, path_Clean.f s = some (c, errL (dl s)) ∧ dl c = if errL (dl s) = 0 then joinL (cparts (dl s)) else [] := by
  have hp := splitOf_eq s
  unfold path_Clean.f
  rw [if_pos hs, hp.1]
  by_cases h : errL (dl s) = 0
  · rw [if_pos h] at hp ⊢
    rw [if_pos h]
    have hc := cleanTo_dl (splitOf s).1 []
    rw [hp.2] at hc
    have h2 := cparts_of h
    obtain ⟨r, hr, hd⟩ := join_f (cleanTo (splitOf s).1 []) (by rw [hc]; exact Nat.le_trans h2.2.1 (by omega))
    rw [hr]
    exact ⟨r, by rw [h]; rfl, by rw [hd, hc]; rfl⟩
  · rw [if_neg h, if_neg h]
    exact ⟨_, rfl, rfl⟩
end Go.Proofs.YtblejdnjemcpcaaDoor.Hand
