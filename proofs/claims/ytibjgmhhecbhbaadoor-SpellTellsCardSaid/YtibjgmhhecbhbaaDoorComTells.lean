/- What the law's small functions answer. -/
import Derived.Test.YtibjgmhhecbhbaaDoorTh2
import Derived.Test.YtibjgmhhecbhbaaDoorPTellsx1a
namespace Go.Proofs.YtibjgmhhecbhbaaDoor.PSpellTells
open Go.RowKit Go.Proofs.YtibjgmhhecbhbaaDoorW.PrintWords Go.Proofs.YtibjgmhhecbhbaaDoorW.PrintLast Go.Proofs.YtibjgmhhecbhbaaDoorW.PrintMore Go.Proofs.YtibjgmhhecbhbaaDoor.Hand
set_option linter.unusedVariables false
set_option linter.unusedSimpArgs false

theorem say_f (o : ROp) (ho : OkR o) (h1 : o.p.size ≤ 1000000) (h2 : o.t.size ≤ 1000000) (h3 : o.d.length ≤ 1000000) : spell_Say.f o.kd o.fd o.n o.off o.fl o.p o.t o.d = some o.say := by
  unfold spell_Say.f
  rw [if_pos ⟨⟨ho.fd, ho.n, ho.off, ho.fl⟩, h1, h2, h3⟩]
  rfl
theorem read_f (s : ByteArray) (hs : s.size ≤ 100000) : spell_Read.f s = some ((readB s).1.kd, (readB s).1.fd, (readB s).1.n, (readB s).1.off, (readB s).1.fl, (readB s).1.p, (readB s).1.t, (readB s).1.d, (readB s).2) := by
  unfold spell_Read.f
  rw [if_pos hs]
theorem bytes_from (x y : List Int) (hl : x.length = y.length) (hb : x.length ≤ 1000000) : ∀ (n i k : Nat), i + n = x.length → n < k → purlinlaw0_SameBytes.l0 k x y (i : Int) = some (decide (x.drop i = y.drop i))
  | 0, i, k, h, hk => by
    obtain ⟨k, rfl⟩ : ∃ m, k = m + 1 := ⟨k - 1, by omega⟩
    rw [purlinlaw0_SameBytes.l0, if_neg (by omega), List.drop_eq_nil_of_le (by omega), List.drop_eq_nil_of_le (by omega)]
    rfl
  | n + 1, i, k, h, hk => by
    obtain ⟨k, rfl⟩ : ∃ m, k = m + 1 := ⟨k - 1, by omega⟩
    rw [purlinlaw0_SameBytes.l0, if_pos (by omega), if_pos (by omega), if_pos (by omega)]
    have h1 : i < x.length := by omega
    have h2 : i < y.length := by omega
    have e1 : rd x (i : Int) = x[i] := by simp [rd, List.getD_eq_getElem?_getD, List.getElem?_eq_getElem h1]
    have e2 : rd y (i : Int) = y[i] := by simp [rd, List.getD_eq_getElem?_getD, List.getElem?_eq_getElem h2]
    rw [e1, e2, List.drop_eq_getElem_cons h1, List.drop_eq_getElem_cons h2]
    by_cases h3 : x[i] = y[i]
    · rw [if_pos h3, show wrap64 ((i : Int) + 1) = ((i + 1 : Nat) : Int) by unfold wrap64; omega, bytes_from x y hl hb n (i + 1) k (by omega) (by omega), h3]
      refine congrArg some (decide_eq_decide.2 ⟨fun h => by rw [h], fun h => ?_⟩)
      injection h
    · rw [if_neg h3]
      refine congrArg some (decide_eq_false fun h => ?_).symm
      injection h with h _
      exact h3 h
theorem bytes_f (k : Nat) (x y : List Int) (hb : x.length ≤ 1000000) (hk : x.length < k) : purlinlaw0_SameBytes.f k x y = some (decide (x = y)) := by
  unfold purlinlaw0_SameBytes.f
  by_cases h : x.length = y.length
  · rw [if_pos (by omega)]
    have := bytes_from x y h hb x.length 0 k (by omega) hk
    simpa using this
  · rw [if_neg (by omega)]
    have : x ≠ y := fun e => h (by rw [e])
    simp [this]
theorem sameop_eq (k : Nat) (o : ROp) (hb : o.d.length ≤ 1000000) (hk : o.d.length < k) : purlinlaw0_SameOp.f k o.kd o.fd o.n o.off o.fl o.p o.t o.d o.kd o.fd o.n o.off o.fl o.p o.t o.d = some true := by
  unfold purlinlaw0_SameOp.f
  rw [if_pos rfl, if_pos rfl, if_pos rfl, if_pos rfl, if_pos rfl, if_pos rfl, if_pos rfl, bytes_f k _ _ hb hk]
  simp
theorem tl_inj {x y : ByteArray} (h : x.toList = y.toList) : x = y := by
  rw [tl_dl, tl_dl] at h
  exact dl_inj h
theorem sameop_ne (k : Nat) (o q : ROp) (h : o ≠ q) (hb : o.d.length ≤ 1000000) (hk : o.d.length < k) : purlinlaw0_SameOp.f k o.kd o.fd o.n o.off o.fl o.p o.t o.d q.kd q.fd q.n q.off q.fl q.p q.t q.d = some false := by
  unfold purlinlaw0_SameOp.f
  split
  case isFalse => rfl
  case isTrue h1 =>
  split
  case isFalse => rfl
  case isTrue h2 =>
  split
  case isFalse => rfl
  case isTrue h3 =>
  split
  case isFalse => rfl
  case isTrue h4 =>
  split
  case isFalse => rfl
  case isTrue h5 =>
  split
  case isFalse => rfl
  case isTrue h6 =>
  split
  case isFalse => rfl
  case isTrue h7 =>
  rw [bytes_f k _ _ hb hk, Option.bind_some]
  have : ¬ o.d = q.d := by
    intro h8
    apply h
    obtain ⟨a, b, c, d, e, f, g, i⟩ := o
    obtain ⟨a', b', c', d', e', f', g', i'⟩ := q
    simp only at h1 h2 h3 h4 h5 h6 h7 h8
    rw [h1, h2, h3, h4, h5, tl_inj h6, tl_inj h7, h8]
  simp [this]
theorem same_eq (o : ROp) : spell_Same.f o.kd o.fd o.n o.off o.fl o.p o.t o.d o.kd o.fd o.n o.off o.fl o.p o.t o.d = some true := by
  unfold spell_Same.f bytes_Equal.f
  rw [if_pos rfl, if_pos rfl, if_pos rfl, if_pos rfl, if_pos rfl, if_pos rfl, if_pos rfl]
  simp
theorem same_ne (o q : ROp) (h : o ≠ q) (ho : BytesI o.d) (hq : BytesI q.d) : spell_Same.f o.kd o.fd o.n o.off o.fl o.p o.t o.d q.kd q.fd q.n q.off q.fl q.p q.t q.d = some false := by
  unfold spell_Same.f bytes_Equal.f
  split
  case isFalse => rfl
  case isTrue h1 =>
  split
  case isFalse => rfl
  case isTrue h2 =>
  split
  case isFalse => rfl
  case isTrue h3 =>
  split
  case isFalse => rfl
  case isTrue h4 =>
  split
  case isFalse => rfl
  case isTrue h5 =>
  split
  case isFalse => rfl
  case isTrue h6 =>
  split
  case isFalse => rfl
  case isTrue h7 =>
  rw [Option.bind_some]
  have : ¬ (strOfNums o.d).toList = (strOfNums q.d).toList := by
    intro h8
    have h9 := tl_inj h8
    have h10 : o.d = q.d := by rw [← bytesOf_str ho, ← bytesOf_str hq, h9]
    apply h
    obtain ⟨a, b, c, d, e, f, g, i⟩ := o
    obtain ⟨a', b', c', d', e', f', g', i'⟩ := q
    simp only at h1 h2 h3 h4 h5 h6 h7 h10
    rw [h1, h2, h3, h4, h5, tl_inj h6, tl_inj h7, h10]
  simp [this]
theorem aw1 : spell_Read.f ⟨#[115, 101, 101, 107, 32, 111, 102, 102, 61, 45, 51, 32, 110, 61, 49]⟩ = some (0, 0, 0, 0, 0, ⟨#[]⟩, ⟨#[]⟩, [], 3) := by
  rw [read_f _ (by decide)]
  have h : (readB ⟨#[115, 101, 101, 107, 32, 111, 102, 102, 61, 45, 51, 32, 110, 61, 49]⟩).2 = 3 := by decide +kernel
  rcases read_cases ⟨#[115, 101, 101, 107, 32, 111, 102, 102, 61, 45, 51, 32, 110, 61, 49]⟩ with h1 | ⟨o, h1, _⟩
  · rw [h1]; rfl
  · rw [h1] at h; cases h
theorem aw2 : spell_Read.f ⟨#[115, 101, 101, 107, 32, 110, 61, 49, 32, 111, 102, 102, 61, 45, 51]⟩ = some (7, 0, 1, -3, 0, ⟨#[]⟩, ⟨#[]⟩, [], 0) := by
  rw [read_f _ (by decide)]
  have h : (⟨7, 0, 1, -3, 0, ⟨#[]⟩, ⟨#[]⟩, []⟩ : ROp).say = ⟨#[115, 101, 101, 107, 32, 110, 61, 49, 32, 111, 102, 102, 61, 45, 51]⟩ := by decide +kernel
  rw [← h, read_say ⟨7, 0, 1, -3, 0, ⟨#[]⟩, ⟨#[]⟩, []⟩ ⟨by decide, by decide, by decide, by decide, by intro x hx; cases hx⟩ (by decide) (by decide)]
theorem aw3 : spell_Say.f 9 0 0 0 0 ⟨#[47, 97]⟩ ⟨#[]⟩ [] = some ⟨#[109, 107, 100, 105, 114, 32, 112, 97, 116, 104, 61, 50, 102, 54, 49]⟩ := by decide +kernel
theorem aw4 : spell_Say.f 0 0 0 0 0 ⟨#[]⟩ ⟨#[]⟩ [] = some ⟨#[]⟩ := by decide +kernel
theorem great_f (o : ROp) : purlinlaw0_Great.f o.kd o.fd o.n o.off o.fl o.p o.t o.d = some (decide (¬ (o.p.size ≤ 300 ∧ o.t.size ≤ 300 ∧ o.d.length ≤ 3000))) := by
  unfold purlinlaw0_Great.f
  by_cases h1 : o.p.size ≤ 300
  · rw [if_neg (by omega)]
    by_cases h2 : o.t.size ≤ 300
    · rw [if_neg (by omega)]
      congr 1
      apply decide_eq_decide.2
      constructor
      · intro h h3; omega
      · intro h; exact Classical.byContradiction fun h4 => h ⟨h1, h2, by omega⟩
    · rw [if_pos (by omega)]
      congr 1
      symm
      apply decide_eq_true
      intro h; exact h2 h.2.1
  · rw [if_pos (by omega)]
    congr 1
    symm
    apply decide_eq_true
    intro h; exact h1 h.1
theorem say_size (o : ROp) (ho : OkR o) (h1 : o.p.size ≤ 300) (h2 : o.t.size ≤ 300) (h3 : o.d.length ≤ 3000) : o.say.size ≤ 90000 := by
  by_cases hk : 1 ≤ o.kd ∧ o.kd < 24
  · rw [← dl_size, say_dl o hk.1 hk.2, List.length_append]
    have hw : (wordOf o.kd).length ≤ 9 := words_size _
    have hI : ∀ (k : Bs) (n : Int), k.length ≤ 5 → okI n → ((fI k n).flatMap (32 :: ·)).length ≤ 28 := by
      intro k n hk hn
      unfold fI
      split
      · simp
      · have := Lib.itoa_length_le n hn.1 hn.2
        simp [eqK]; omega
    have hS : ∀ (k : Bs) (s : ByteArray), k.length ≤ 5 → ((fS k s).flatMap (32 :: ·)).length ≤ 7 + 2 * s.size := by
      intro k s hk
      unfold fS
      split
      · simp
      · have : (dl (toldB s)).length = 2 * s.size := toldB_size s
        simp [eqK, this]; omega
    unfold fieldsOf
    simp only [List.flatMap_append, List.length_append]
    have a1 := hI kFD o.fd (by decide) ho.fd
    have a2 := hI kN o.n (by decide) ho.n
    have a3 := hI kOff o.off (by decide) ho.off
    have a4 := hI kFl o.fl (by decide) ho.fl
    have a5 := hS kP o.p (by decide)
    have a6 := hS kT o.t (by decide)
    have a7 := hS kD (strOfNums o.d) (by decide)
    rw [strOfNums_size] at a7
    omega
  · rw [say_zero o hk]; decide
end Go.Proofs.YtibjgmhhecbhbaaDoor.PSpellTells
